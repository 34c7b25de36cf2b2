/- Work that is shared: what is valid, the sums of the shares. Plain Lean, no program. -/
import Derived.Test.YtoopmikcehmpdaaMarkInt
namespace Go.Proofs.Ytoopmikcehmpdaa
open Go.RowKit
set_option linter.unusedVariables false
set_option linter.unusedSimpArgs false

def workV (t : List Int) : Bool := decide ((∀ x ∈ t, 0 ≤ x ∧ x ≤ 99) ∧ t.length ≤ 8)
theorem workV_spec {t : List Int} (h : workV t = true) : (∀ x ∈ t, 0 ≤ x ∧ x ≤ 99) ∧ t.length ≤ 8 := by simpa [workV] using h
theorem workV_yes {t : List Int} (h : ∀ x ∈ t, 0 ≤ x ∧ x ≤ 99) : workV t = decide (t.length ≤ 8) := by
  rw [Bool.eq_iff_iff]; simp only [workV, decide_eq_true_eq]; exact ⟨fun a => a.2, fun a => ⟨h, a⟩⟩
theorem workV_no {t : List Int} {x : Int} (hx : x ∈ t) (h : ¬ (0 ≤ x ∧ x ≤ 99)) : workV t = false := by
  rw [Bool.eq_false_iff]; intro a; exact h ((workV_spec a).1 x hx)

/-- The sum of a list; of its places from a up to b. -/
def sumL (l : List Int) : Int := l.foldl (· + ·) 0
theorem sumL_append (a b : List Int) : sumL (a ++ b) = sumL a + sumL b := by
  have h : ∀ (b : List Int) (x : Int), b.foldl (· + ·) x = x + b.foldl (· + ·) 0 := by
    intro b
    induction b with
    | nil => intro x; simp
    | cons y b ih => intro x; rw [List.foldl_cons, List.foldl_cons, ih, ih (0 + y)]; omega
  unfold sumL
  rw [List.foldl_append, h]
theorem sumL_next {l : List Int} {k : Nat} {x : Int} (h : l[k]? = some x) : sumL (l.take (k + 1)) = sumL (l.take k) + x := by
  rw [take_next h, sumL_append]; simp [sumL]
theorem sumL_bd {l : List Int} (h : ∀ x ∈ l, 0 ≤ x ∧ x ≤ 99) : 0 ≤ sumL l ∧ sumL l ≤ 99 * (l.length : Int) := by
  induction l with
  | nil => simp [sumL]
  | cons x l ih =>
    have h1 := ih (fun y hy => h y (List.mem_cons_of_mem _ hy))
    have h2 := h x List.mem_cons_self
    have : sumL (x :: l) = x + sumL l := by rw [show x :: l = [x] ++ l from rfl, sumL_append]; simp [sumL]
    rw [this]
    simp only [List.length_cons]
    omega
def seg (l : List Int) (a b : Nat) : Int := sumL ((l.drop a).take (b - a))
theorem seg_next {l : List Int} {a b : Nat} {x : Int} (hab : a ≤ b) (h : l[b]? = some x) : seg l a (b + 1) = seg l a b + x := by
  unfold seg
  rw [show b + 1 - a = (b - a) + 1 from by omega]
  exact sumL_next (by rw [List.getElem?_drop, show a + (b - a) = b from by omega]; exact h)
theorem seg_bd {l : List Int} (h : ∀ x ∈ l, 0 ≤ x ∧ x ≤ 99) (a b : Nat) : 0 ≤ seg l a b ∧ seg l a b ≤ 99 * (l.length : Int) := by
  have h1 := sumL_bd (l := (l.drop a).take (b - a)) (fun x hx => h x (List.mem_of_mem_drop (List.mem_of_mem_take hx)))
  have h2 : ((l.drop a).take (b - a)).length ≤ l.length := by simp; omega
  unfold seg
  omega

/-- The k-th bound: 0, the numbers, and the end. -/
def bnd (cuts : List Int) (n : Nat) : Nat → Int
  | 0 => 0
  | k + 1 => if k < cuts.length then cuts.getD k 0 else n
def okCut (cuts : List Int) (n k : Nat) : Prop := bnd cuts n k ≤ bnd cuts n (k + 1) ∧ bnd cuts n (k + 1) ≤ n
instance (cuts : List Int) (n k : Nat) : Decidable (okCut cuts n k) := by unfold okCut; infer_instance
def cutsV (cuts : List Int) (n : Nat) : Bool := decide (∀ k, k < cuts.length + 1 → okCut cuts n k)
def sumsTo (w cuts : List Int) (k : Nat) : List Int := (List.range k).map fun i => seg w (bnd cuts w.length i).toNat (bnd cuts w.length (i + 1)).toNat
def sharesOk (w cuts : List Int) : Bool := workV w && decide (cuts.length ≤ 3) && cutsV cuts w.length
def shareS (w cuts : List Int) : List Int := if sharesOk w cuts = true then sumsTo w cuts (cuts.length + 1) else []
theorem sumsTo_next (w cuts : List Int) (k : Nat) : sumsTo w cuts (k + 1) = sumsTo w cuts k ++ [seg w (bnd cuts w.length k).toNat (bnd cuts w.length (k + 1)).toNat] := by
  simp [sumsTo, List.range_succ]
theorem sumsTo_length (w cuts : List Int) (k : Nat) : (sumsTo w cuts k).length = k := by simp [sumsTo]
theorem bnd_at {cuts : List Int} {k : Nat} {x : Int} (n : Nat) (h : cuts[k]? = some x) : bnd cuts n (k + 1) = x := by
  have hk := (List.getElem?_eq_some_iff.1 h).1
  simp only [bnd, if_pos hk, List.getD_eq_getElem?_getD, h, Option.getD_some]
theorem bnd_end (cuts : List Int) (n : Nat) : bnd cuts n (cuts.length + 1) = n := by simp [bnd]
theorem bnd_0 (cuts : List Int) (n : Nat) : bnd cuts n 0 = 0 := rfl
theorem bnd_bd {cuts : List Int} {n k : Nat} (h : ∀ i, i < k → okCut cuts n i) : 0 ≤ bnd cuts n k ∧ bnd cuts n k ≤ n := by
  induction k with
  | zero => simp [bnd]
  | succ k ih =>
    have h1 := ih (fun i hi => h i (by omega))
    have h2 := h k (by omega)
    exact ⟨by have := h2.1; omega, h2.2⟩
theorem cutsV_no {cuts : List Int} {n k : Nat} (hk : k < cuts.length + 1) (h : ¬ okCut cuts n k) : cutsV cuts n = false := by
  rw [Bool.eq_false_iff]; intro a; simp only [cutsV, decide_eq_true_eq] at a; exact h (a k hk)
theorem cutsV_yes {cuts : List Int} {n : Nat} (h : ∀ k, k < cuts.length + 1 → okCut cuts n k) : cutsV cuts n = true := by
  simp only [cutsV, decide_eq_true_eq]; exact h
theorem cutsV_spec {cuts : List Int} {n : Nat} (h : cutsV cuts n = true) : ∀ k, k < cuts.length + 1 → okCut cuts n k := by
  simpa only [cutsV, decide_eq_true_eq] using h
end Go.Proofs.Ytoopmikcehmpdaa
