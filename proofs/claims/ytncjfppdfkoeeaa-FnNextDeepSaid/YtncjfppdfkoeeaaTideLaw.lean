/- Tides as lists of numbers: what is valid, the depth of an hour, the least depth of some hours, and the first hour that is deep enough. Plain Lean, no program. -/
import Derived.Below
namespace Go.Proofs.Ytncjfppdfkoeeaa
open Go.RowKit

def tideV (t : List Int) : Bool := decide ((∀ x ∈ t, 0 ≤ x ∧ x ≤ 99) ∧ 1 ≤ t.length ∧ t.length ≤ 12)
def dAt (t : List Int) (n : Nat) : Int := t.getD (n % t.length) 0
def low (t : List Int) (h : Nat) : Nat → Int
  | 0 => 99
  | n + 1 => min (low t h n) (dAt t (h + n))
def asked (t : List Int) (h m : Int) : Bool := tideV t && decide (0 ≤ h ∧ h ≤ 999) && decide (0 ≤ m ∧ m ≤ 999)
def depthAt (t : List Int) (h : Int) : Int := if tideV t = true ∧ 0 ≤ h then dAt t h.toNat else -1
def deepB (t : List Int) (h : Nat) (n : Nat) (d : Int) : Prop := ∀ k, k < n → d ≤ dAt t (h + k)
open Classical in
noncomputable def deepFor (t : List Int) (h m d : Int) : Bool := asked t h m && decide (deepB t h.toNat m.toNat d)
def deepMost (t : List Int) (h m : Int) : Int := if asked t h m = true ∧ 1 ≤ m then low t h.toNat m.toNat else -1
/-- r is the first hour from h on, at most 999, that is deep enough; -1 if there is none. -/
def IsNext (t : List Int) (h m d r : Int) : Prop :=
  (r = -1 ∧ ∀ k, h ≤ k → k ≤ 999 → asked t h m = true → deepFor t k m d = false) ∨ (asked t h m = true ∧ h ≤ r ∧ r ≤ 999 ∧ deepFor t r m d = true ∧ ∀ k, h ≤ k → k < r → deepFor t k m d = false)

theorem tideV_spec {t : List Int} (h : tideV t = true) : (∀ x ∈ t, 0 ≤ x ∧ x ≤ 99) ∧ 1 ≤ t.length ∧ t.length ≤ 12 := by
  simpa [tideV] using h
theorem tideV_yes {t : List Int} (h : ∀ x ∈ t, 0 ≤ x ∧ x ≤ 99) : tideV t = decide (1 ≤ t.length ∧ t.length ≤ 12) := by
  simp [tideV]; intro _ _ x hx; exact h x hx
theorem tideV_no {t : List Int} {x : Int} (hx : x ∈ t) (h : ¬ (0 ≤ x ∧ x ≤ 99)) : tideV t = false := by
  simp only [tideV, decide_eq_false_iff_not]
  rintro ⟨a, _⟩
  exact h (a x hx)
theorem dAt_bd {t : List Int} (h : tideV t = true) (n : Nat) : 0 ≤ dAt t n ∧ dAt t n ≤ 99 := by
  obtain ⟨a, b, c⟩ := tideV_spec h
  have hl : n % t.length < t.length := Nat.mod_lt _ (by omega)
  have : dAt t n = t[n % t.length] := by simp [dAt, hl]
  rw [this]
  exact a _ (List.getElem_mem hl)
theorem dAt_at {t : List Int} {n : Nat} {x : Int} (h : t[n % t.length]? = some x) : dAt t n = x := by
  simp [dAt, h]
theorem dAt_add (t : List Int) (n : Nat) : dAt t (n + t.length) = dAt t n := by simp [dAt]
theorem dAt_mod (t : List Int) (h n : Nat) : dAt t (h + n) = dAt t (h + n % t.length) := by simp [dAt]
theorem low_le (t : List Int) (h : Nat) : ∀ n k, k < n → low t h n ≤ dAt t (h + k)
  | 0, k, hk => by omega
  | n + 1, k, hk => by
    unfold low
    by_cases e : k = n
    · subst e; omega
    · have := low_le t h n k (by omega); omega
theorem low_99 (t : List Int) (h : Nat) : ∀ n, low t h n ≤ 99
  | 0 => by simp [low]
  | n + 1 => by have := low_99 t h n; unfold low; omega
theorem low_nonneg {t : List Int} (v : tideV t = true) (h : Nat) : ∀ n, 0 ≤ low t h n
  | 0 => by simp [low]
  | n + 1 => by have := low_nonneg v h n; have := dAt_bd v (h + n); unfold low; omega
theorem low_ge (t : List Int) (h : Nat) (d : Int) (h9 : d ≤ 99) : ∀ n, (∀ k, k < n → d ≤ dAt t (h + k)) → d ≤ low t h n
  | 0, _ => by simp [low]; omega
  | n + 1, hk => by
    have := low_ge t h d h9 n (fun k hn => hk k (by omega))
    have := hk n (by omega)
    unfold low; omega
theorem low_per {t : List Int} (h : Nat) (hl : 1 ≤ t.length) (n : Nat) (hn : t.length ≤ n) : low t h n = low t h t.length := by
  refine Int.le_antisymm ?_ ?_
  · exact low_ge t h _ (low_99 _ _ _) _ (fun k hk => low_le t h n k (by omega))
  · refine low_ge t h _ (low_99 _ _ _) _ (fun k hk => ?_)
    rw [dAt_mod]
    exact low_le t h t.length _ (Nat.mod_lt _ (by omega))
theorem low_min {t : List Int} (h : Nat) (hl : 1 ≤ t.length) (n : Nat) : low t h (min n t.length) = low t h n := by
  by_cases e : n ≤ t.length
  · rw [Nat.min_eq_left e]
  · rw [Nat.min_eq_right (by omega), low_per h hl n (by omega)]
theorem deep_iff_low {t : List Int} (v : tideV t = true) (h n : Nat) (d : Int) (hn : 1 ≤ n) : deepB t h n d ↔ d ≤ low t h n := by
  constructor
  · intro hd
    have h9 : d ≤ 99 := by have := hd 0 (by omega); have := dAt_bd v (h + 0); omega
    exact low_ge t h d h9 n hd
  · intro hd k hk
    have := low_le t h n k hk
    omega
theorem deepB_zero (t : List Int) (h : Nat) (d : Int) : deepB t h 0 d := fun k hk => absurd hk (by omega)
theorem deepB_per {t : List Int} (h n : Nat) (d : Int) : deepB t (h + t.length) n d ↔ deepB t h n d := by
  unfold deepB
  constructor <;> intro hd k hk
  · have := hd k hk
    rwa [show h + t.length + k = (h + k) + t.length from by omega, dAt_add] at this
  · rw [show h + t.length + k = (h + k) + t.length from by omega, dAt_add]
    exact hd k hk
theorem asked_spec {t : List Int} {h m : Int} (a : asked t h m = true) : tideV t = true ∧ 0 ≤ h ∧ h ≤ 999 ∧ 0 ≤ m ∧ m ≤ 999 := by
  simp [asked] at a; exact ⟨a.1.1, a.1.2.1, a.1.2.2, a.2.1, a.2.2⟩
theorem asked_of {t : List Int} {h m : Int} (v : tideV t = true) (h1 : 0 ≤ h) (h2 : h ≤ 999) (h3 : 0 ≤ m) (h4 : m ≤ 999) : asked t h m = true := by
  simp [asked, v]; omega
theorem deepFor_not {t : List Int} {h m : Int} (d : Int) (a : asked t h m = false) : deepFor t h m d = false := by simp [deepFor, a]
theorem deepFor_is {t : List Int} {h m : Int} (d : Int) (a : asked t h m = true) : deepFor t h m d = true ↔ deepB t h.toNat m.toNat d := by simp [deepFor, a]
theorem deepFor_iff {t : List Int} {h m : Int} {d : Int} : deepFor t h m d = true ↔ asked t h m = true ∧ deepB t h.toNat m.toNat d := by simp [deepFor]

theorem isNext_unique {t : List Int} {h m d r s : Int} (hr : IsNext t h m d r) (hs : IsNext t h m d s) : r = s := by
  rcases hr with ⟨rfl, hr⟩ | ⟨a, h1, h2, h3, h4⟩
  · rcases hs with ⟨rfl, _⟩ | ⟨a', h1', h2', h3', _⟩
    · rfl
    · rw [hr s h1' h2' a'] at h3'; cases h3'
  · rcases hs with ⟨rfl, hs⟩ | ⟨a', h1', h2', h3', h4'⟩
    · rw [hs r h1 h2 a] at h3; cases h3
    · rcases Int.lt_trichotomy r s with h | h | h
      · rw [h4' r h1 h] at h3; cases h3
      · exact h
      · rw [h4 s h1' h] at h3'; cases h3'
/-- One period is enough: if no hour of the period is deep enough, none is. -/
theorem none_of_period {t : List Int} {h m d : Int} (v : tideV t = true) (h0 : 0 ≤ h) (hp : ∀ k, h ≤ k → k ≤ 999 → k < h + t.length → deepFor t k m d = false) :
    ∀ k, h ≤ k → k ≤ 999 → deepFor t k m d = false := by
  obtain ⟨_, l1, l2⟩ := tideV_spec v
  have key : ∀ n : Nat, ∀ k : Int, h ≤ k → k ≤ 999 → k < h + t.length + n → deepFor t k m d = false := by
    intro n
    induction n with
    | zero => intro k h1 h2 h3; exact hp k h1 h2 (by omega)
    | succ n ih =>
      intro k h1 h2 h3
      by_cases hk : k < h + t.length
      · exact hp k h1 h2 hk
      · have := ih (k - t.length) (by omega) (by omega) (by omega)
        rw [Bool.eq_false_iff] at this ⊢
        intro hd
        refine this ?_
        rw [deepFor_iff] at hd ⊢
        obtain ⟨ha, hb⟩ := hd
        obtain ⟨_, _, _, m1, m2⟩ := asked_spec ha
        refine ⟨asked_of v (by omega) (by omega) m1 m2, ?_⟩
        rw [← deepB_per]
        rwa [show (k - t.length).toNat + t.length = k.toNat from by omega]
  intro k h1 h2
  exact key (k - h).toNat k h1 h2 (by omega)
theorem deepB_next {t : List Int} {h k : Nat} {d : Int} (hk : deepB t h k d) (hd : d ≤ dAt t (h + k)) : deepB t h (k + 1) d := by
  intro j hj
  by_cases e : j = k
  · rw [e]; exact hd
  · exact hk j (by omega)
theorem deepFor_miss {t : List Int} {h m k : Nat} {d : Int} (a : asked t h m = true) (hk : k < m) (hd : ¬ d ≤ dAt t (h + k)) : deepFor t h m d = false := by
  rw [Bool.eq_false_iff]
  intro hf
  exact hd ((deepFor_is d a).1 hf k (by simpa using hk))
theorem asked_here {t : List Int} {h k m d : Int} (v : tideV t = true) (h0 : 0 ≤ h) (h9 : h ≤ 999) (hd : deepFor t k m d = true) : asked t h m = true := by
  obtain ⟨_, _, _, m1, m2⟩ := asked_spec (deepFor_iff.1 hd).1
  exact asked_of v h0 h9 m1 m2
end Go.Proofs.Ytncjfppdfkoeeaa
