/- Rails as lists of numbers: what is valid, what a drive does, and the way that is cleared. Plain Lean, no program. -/
import Derived.Test.YtiffcnhmlmblhaaSDrive
namespace Go.Proofs.Ytiffcnhmlmblhaa
open Go.RowKit

def railOk (r : List Int) (i : Nat) : Prop := 0 ≤ r.getD i 0 ∧ r.getD i 0 ≤ 20 ∧ (0 < i → r.getD (i - 1) 0 + 2 ≤ r.getD i 0)
instance (r : List Int) (i : Nat) : Decidable (railOk r i) := by unfold railOk; infer_instance
def railV (r : List Int) : Bool := decide ((∀ i, i < r.length → railOk r i) ∧ 1 ≤ r.length ∧ r.length ≤ 4)

theorem railV_spec {r : List Int} (h : railV r = true) : (∀ i, i < r.length → railOk r i) ∧ 1 ≤ r.length ∧ r.length ≤ 4 := by simpa [railV] using h
theorem railV_of {r : List Int} (h : ∀ i, i < r.length → railOk r i) (h1 : 1 ≤ r.length) (h4 : r.length ≤ 4) : railV r = true := by
  simp only [railV, decide_eq_true_eq]; exact ⟨h, h1, h4⟩
theorem railV_yes {r : List Int} {k : Nat} (h : ∀ i, i < k → railOk r i) (hk : r.length ≤ k) : railV r = decide (1 ≤ r.length ∧ r.length ≤ 4) := by
  unfold railV
  rw [Bool.eq_iff_iff, decide_eq_true_eq, decide_eq_true_eq]
  exact ⟨fun a => a.2, fun a => ⟨fun i hi => h i (by omega), a⟩⟩
theorem railV_no {r : List Int} {k : Nat} (hk : k < r.length) (h : ¬ railOk r k) : railV r = false := by
  rw [Bool.eq_false_iff]; intro a; exact h ((railV_spec a).1 k hk)
theorem getD_at {r : List Int} {k : Nat} {x : Int} (h : r[k]? = some x) : r.getD k 0 = x := by simp [h]
theorem railOk_next {r : List Int} {k : Nat} (h : ∀ i, i < k → railOk r i) (hk : railOk r k) : ∀ i, i < k + 1 → railOk r i := by
  intro i hi
  by_cases e : i = k
  · rw [e]; exact hk
  · exact h i (by omega)

def driveV (r : List Int) (c t : Int) : Bool := decide (0 ≤ c ∧ c < r.length) && railV (r.set c.toNat t)
def driveTo (r : List Int) (c t : Int) : List Int := if driveV r c t = true then r.set c.toNat t else r
theorem driveTo_length (r : List Int) (c t : Int) : (driveTo r c t).length = r.length := by unfold driveTo; split <;> simp
theorem driveTo_valid {r : List Int} (h : railV r = true) (c t : Int) : railV (driveTo r c t) = true := by
  unfold driveTo
  split
  · next h' => simp [driveV] at h'; exact h'.2
  · exact h

def stepR (s : List Int × Nat) (d : DriveV) : List Int × Nat := (driveTo s.1 d.crane d.to, s.2 + if driveV s.1 d.crane d.to = true then 1 else 0)
def runR (r : List Int) (l : List DriveV) : List Int × Nat := l.foldl stepR (r, 0)
theorem runR_next {r : List Int} {l : List DriveV} {k : Nat} {d : DriveV} (h : l[k]? = some d) : runR r (l.take (k + 1)) = stepR (runR r (l.take k)) d := by
  unfold runR; rw [take_next h, List.foldl_append]; rfl
theorem runR_end (r : List Int) (l : List DriveV) (k : Nat) (h : l.length ≤ k) : runR r (l.take k) = runR r l := by rw [List.take_of_length_le h]
theorem runR_props {r : List Int} (l : List DriveV) (h : railV r = true) : ∀ k, railV (runR r (l.take k)).1 = true ∧ (runR r (l.take k)).1.length = r.length ∧ (runR r (l.take k)).2 ≤ k ∧ (runR r (l.take k)).2 ≤ l.length := by
  intro k
  induction k with
  | zero => exact ⟨h, rfl, Nat.le_refl _, Nat.zero_le _⟩
  | succ k ih =>
    by_cases hk : k < l.length
    · have e := runR_next (r := r) (List.getElem?_eq_getElem hk)
      rw [e]
      have hn : (runR r (l.take k)).2 ≤ k := ih.2.2.1
      refine ⟨driveTo_valid ih.1 _ _, by rw [show (stepR (runR r (l.take k)) l[k]).1 = driveTo _ _ _ from rfl, driveTo_length]; exact ih.2.1, ?_, ?_⟩
      · show _ + _ ≤ _; split <;> omega
      · show _ + _ ≤ _; split <;> omega
    · rw [List.take_of_length_le (by omega)]
      rw [List.take_of_length_le (by omega)] at ih
      exact ⟨ih.1, ih.2.1, by omega, ih.2.2.2⟩

/-- The drives of the cranes behind, the farthest first; and of those before. -/
def hiD (r : List Int) (c : Nat) (t : Int) : Nat → List DriveV
  | 0 => []
  | m + 1 => hiD r c t m ++ (if r.getD (r.length - 1 - m) 0 < t + 2 * ((r.length - 1 - m : Nat) - (c : Int)) then [⟨(r.length - 1 - m : Nat), t + 2 * ((r.length - 1 - m : Nat) - (c : Int))⟩] else [])
def loD (r : List Int) (c : Nat) (t : Int) : Nat → List DriveV
  | 0 => []
  | m + 1 => loD r c t m ++ (if t - 2 * ((c : Int) - m) < r.getD m 0 then [⟨m, t - 2 * ((c : Int) - m)⟩] else [])
def clearW (r : List Int) (c : Nat) (t : Int) : List DriveV := hiD r c t (r.length - 1 - c) ++ loD r c t c ++ [⟨c, t⟩]
def clearOk (r : List Int) (c t : Int) : Bool := railV r && decide (0 ≤ c ∧ c ≤ (r.length : Int) - 1) && decide (2 * c ≤ t ∧ t ≤ 20 - 2 * ((r.length : Int) - 1 - c))
theorem hiD_length (r : List Int) (c : Nat) (t : Int) : ∀ m, (hiD r c t m).length ≤ m
  | 0 => Nat.le_refl _
  | m + 1 => by have := hiD_length r c t m; unfold hiD; rw [List.length_append]; split <;> simp <;> omega
theorem loD_length (r : List Int) (c : Nat) (t : Int) : ∀ m, (loD r c t m).length ≤ m
  | 0 => Nat.le_refl _
  | m + 1 => by have := loD_length r c t m; unfold loD; rw [List.length_append]; split <;> simp <;> omega
theorem hiD_yes {r : List Int} {c k m : Nat} {t x : Int} (h1 : k + m = r.length - 1) (hx : r[k]? = some x) (h : x < t + 2 * ((k : Int) - c)) : hiD r c t (m + 1) = hiD r c t m ++ [⟨k, t + 2 * ((k : Int) - c)⟩] := by
  have e : r.length - 1 - m = k := by omega
  simp only [hiD, e, getD_at hx, if_pos h]
theorem hiD_no {r : List Int} {c k m : Nat} {t x : Int} (h1 : k + m = r.length - 1) (hx : r[k]? = some x) (h : ¬ x < t + 2 * ((k : Int) - c)) : hiD r c t (m + 1) = hiD r c t m := by
  have e : r.length - 1 - m = k := by omega
  simp only [hiD, e, getD_at hx, if_neg h, List.append_nil]
theorem loD_yes {r : List Int} {c m : Nat} {t x : Int} (hx : r[m]? = some x) (h : t - 2 * ((c : Int) - m) < x) : loD r c t (m + 1) = loD r c t m ++ [⟨m, t - 2 * ((c : Int) - m)⟩] := by
  simp only [loD, getD_at hx, if_pos h]
theorem loD_no {r : List Int} {c m : Nat} {t x : Int} (hx : r[m]? = some x) (h : ¬ t - 2 * ((c : Int) - m) < x) : loD r c t (m + 1) = loD r c t m := by
  simp only [loD, getD_at hx, if_neg h, List.append_nil]
theorem flatDrive_append (a b : List DriveV) : flatDrive (a ++ b) = flatDrive a ++ flatDrive b := by
  induction a with
  | nil => rfl
  | cons x a ih => simp [flatDrive, ih]
end Go.Proofs.Ytiffcnhmlmblhaa
