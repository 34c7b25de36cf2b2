/- Ships at a quay: what is valid, what clashes, the next free place. Plain Lean, no program. -/
import Derived.Test.YtiejkcjbjjnacaaSCall
namespace Go.Proofs.Ytiejkcjbjjnacaa
open Go.RowKit
set_option linter.unusedVariables false
set_option linter.unusedSimpArgs false

def callV (c : CallV) : Bool := decide ((0 ≤ c.start ∧ c.start ≤ 999) ∧ (1 ≤ c.hours ∧ c.hours ≤ 99) ∧ (1 ≤ c.long ∧ c.long ≤ 20) ∧ 0 ≤ c.at_ ∧ c.at_ ≤ 20 - c.long)
theorem callV_spec {c : CallV} (h : callV c = true) : (0 ≤ c.start ∧ c.start ≤ 999) ∧ (1 ≤ c.hours ∧ c.hours ≤ 99) ∧ (1 ≤ c.long ∧ c.long ≤ 20) ∧ 0 ≤ c.at_ ∧ c.at_ ≤ 20 - c.long := by simpa [callV] using h
def clB (a b : CallV) : Bool := decide (a.start < b.start + b.hours ∧ b.start < a.start + a.hours ∧ a.at_ < b.at_ + b.long ∧ b.at_ < a.at_ + a.long)
theorem clB_symm (a b : CallV) : clB a b = clB b a := by
  rw [Bool.eq_iff_iff]; simp only [clB, decide_eq_true_eq]; omega
def clashV (a b : CallV) : Bool := callV a && (callV b && clB a b)
theorem clashV_symm (a b : CallV) : clashV a b = clashV b a := by
  unfold clashV; rw [clB_symm a b]; cases callV a <;> cases callV b <;> simp

/-- The first k are valid and none of them clashes with one before it. -/
def okTo (l : List CallV) : Nat → Bool
  | 0 => true
  | k + 1 => okTo l k && (match l[k]? with | some c => callV c && !(l.take k).any (fun d => clB c d) | none => true)
def callsV (l : List CallV) : Bool := okTo l l.length && decide (l.length ≤ 6)
theorem okTo_next {l : List CallV} {k : Nat} {c : CallV} (h : l[k]? = some c) : okTo l (k + 1) = (okTo l k && (callV c && !(l.take k).any (fun d => clB c d))) := by
  simp only [okTo, h]
theorem okTo_mono {l : List CallV} {k m : Nat} (h : okTo l m = true) (hk : k ≤ m) : okTo l k = true := by
  induction m with
  | zero =>
    obtain rfl : k = 0 := by omega
    exact h
  | succ m ih =>
    by_cases e : k = m + 1
    · rw [e]; exact h
    · simp only [okTo, Bool.and_eq_true] at h
      exact ih h.1 (by omega)
theorem okTo_no {l : List CallV} {k m : Nat} (h : okTo l k = false) (hk : k ≤ m) : okTo l m = false := by
  rw [Bool.eq_false_iff]; intro a; rw [okTo_mono a hk] at h; cases h
theorem callsV_no {l : List CallV} {k : Nat} (h : okTo l k = false) (hk : k ≤ l.length) : callsV l = false := by
  unfold callsV; rw [okTo_no h hk]; rfl
theorem callsV_yes {l : List CallV} (h : okTo l l.length = true) : callsV l = decide (l.length ≤ 6) := by unfold callsV; rw [h]; rfl
theorem okTo_take (l : List CallV) (n : Nat) : ∀ k, k ≤ n → okTo (l.take n) k = okTo l k := by
  intro k
  induction k with
  | zero => intro _; rfl
  | succ k ih =>
    intro h
    simp only [okTo]
    rw [ih (by omega), List.getElem?_take, if_pos (by omega), List.take_take, Nat.min_eq_left (by omega)]
theorem okTo_app {l : List CallV} (m : List CallV) : ∀ k, k ≤ l.length → okTo (l ++ m) k = okTo l k := by
  intro k h
  rw [← okTo_take (l ++ m) l.length k h, List.take_left]
theorem okTo_valid {l : List CallV} {m k : Nat} {c : CallV} (h : okTo l m = true) (hk : k < m) (hc : l[k]? = some c) : callV c = true ∧ ∀ j d, j < k → l[j]? = some d → clB c d = false := by
  have h1 := okTo_mono h (show k + 1 ≤ m by omega)
  rw [okTo_next hc] at h1
  simp only [Bool.and_eq_true, Bool.not_eq_true', List.any_eq_false] at h1
  refine ⟨h1.2.1, fun j d hj hd => ?_⟩
  have := h1.2.2 d (List.mem_of_getElem? (by rw [List.getElem?_take, if_pos hj]; exact hd))
  simpa using this
theorem callsV_spec {l : List CallV} (h : callsV l = true) : okTo l l.length = true ∧ l.length ≤ 6 := by
  simpa [callsV] using h
theorem callsV_valid {l : List CallV} (h : callsV l = true) : ∀ c ∈ l, callV c = true := by
  intro c hc
  obtain ⟨k, hk⟩ := List.getElem?_of_mem hc
  exact (okTo_valid (callsV_spec h).1 (List.getElem?_eq_some_iff.1 hk).1 hk).1
/-- No ship of the list clashes with c. -/
def hits (l : List CallV) (c : CallV) : Bool := l.any fun d => clB c d
theorem okTo_more {l : List CallV} {c : CallV} (h : okTo l l.length = true) : okTo (l ++ [c]) (l.length + 1) = (callV c && !hits l c) := by
  have e : (l ++ [c])[l.length]? = some c := by simp
  rw [okTo_next e, okTo_app [c] l.length (Nat.le_refl _), h, List.take_left]
  rfl
theorem callsV_more {l : List CallV} {c : CallV} (h : callsV l = true) (h6 : l.length < 6) : callsV (l ++ [c]) = (callV c && !hits l c) := by
  have e : (l ++ [c]).length = l.length + 1 := by simp
  unfold callsV
  rw [e, okTo_more (callsV_spec h).1, decide_eq_true (by omega), Bool.and_true]
theorem callV_mk {s h a long : Int} (h1 : 0 ≤ s ∧ s ≤ 999) (h2 : 1 ≤ h ∧ h ≤ 99) (h3 : 1 ≤ long ∧ long ≤ 20) (h4 : 0 ≤ a ∧ a ≤ 20 - long) : callV ⟨s, h, a, long⟩ = true := by
  simp [callV]; omega

def freeC (l : List CallV) (c : CallV) : Bool := callV c && !hits l c
theorem freeC_no {l : List CallV} {c : CallV} (h : callV c = false) : freeC l c = false := by unfold freeC; rw [h]; rfl
theorem freeC_of {l : List CallV} {c : CallV} (h : callV c = true) : freeC l c = !hits l c := by unfold freeC; rw [h]; rfl
/-- The first free place in an hour, from a place on. -/
def atFrom (l : List CallV) (s h long : Int) : Nat → Int → Option CallV
  | 0, _ => none
  | f + 1, a => if freeC l ⟨s, h, a, long⟩ = true then some ⟨s, h, a, long⟩ else atFrom l s h long f (a + 1)
def startFrom (l : List CallV) (h long : Int) : Nat → Int → Option CallV
  | 0, _ => none
  | f + 1, s => match atFrom l s h long (21 - long).toNat 0 with
    | some c => some c
    | none => startFrom l h long f (s + 1)
def askedB (l : List CallV) (long from_ : Int) : Bool := callsV l && (decide (l.length ≠ 6) && (decide (1 ≤ long ∧ long ≤ 20) && decide (0 ≤ from_ ∧ from_ ≤ 999)))
def nextC (l : List CallV) (long h from_ : Int) : Option CallV := if askedB l long from_ = true then startFrom l h long (1000 - from_).toNat from_ else none
theorem askedB_yes {l : List CallV} {long f : Int} (h0 : callsV l = true) (h1 : l.length ≠ 6) (h2 : 1 ≤ long ∧ long ≤ 20) (h4 : 0 ≤ f ∧ f ≤ 999) : askedB l long f = true := by
  unfold askedB; rw [h0, decide_eq_true h1, decide_eq_true h2, decide_eq_true h4]; rfl
theorem askedB_spec {l : List CallV} {long f : Int} (a : askedB l long f = true) : callsV l = true ∧ l.length ≠ 6 ∧ (1 ≤ long ∧ long ≤ 20) ∧ (0 ≤ f ∧ f ≤ 999) := by
  unfold askedB at a
  simp only [Bool.and_eq_true, decide_eq_true_eq] at a
  exact a
theorem nextC_no {l : List CallV} {long h f : Int} (a : askedB l long f = false) : nextC l long h f = none := by unfold nextC; rw [a]; rfl
theorem nextC_yes {l : List CallV} {long h f : Int} (a : askedB l long f = true) : nextC l long h f = startFrom l h long (1000 - f).toNat f := by unfold nextC; rw [a]; rfl
theorem asked_n1 {l : List CallV} {long f : Int} (h : callsV l = false) : askedB l long f = false := by unfold askedB; rw [h]; rfl
theorem asked_n2 {l : List CallV} {long f : Int} (h : l.length = 6) : askedB l long f = false := by unfold askedB; rw [decide_eq_false (by simpa using h)]; simp
theorem asked_n3 {l : List CallV} {long f : Int} (h : ¬ (1 ≤ long ∧ long ≤ 20)) : askedB l long f = false := by unfold askedB; rw [decide_eq_false h]; simp
theorem asked_n4 {l : List CallV} {long f : Int} (h : ¬ (0 ≤ f ∧ f ≤ 999)) : askedB l long f = false := by unfold askedB; rw [decide_eq_false h]; simp
theorem atFrom_hit {l : List CallV} {s h long a : Int} {f : Nat} (hf : 0 < f) (hh : freeC l ⟨s, h, a, long⟩ = true) : atFrom l s h long f a = some ⟨s, h, a, long⟩ := by
  cases f with
  | zero => omega
  | succ f => simp [atFrom, hh]
theorem atFrom_miss {l : List CallV} {s h long a : Int} {f : Nat} (hf : 0 < f) (hh : freeC l ⟨s, h, a, long⟩ = false) : atFrom l s h long f a = atFrom l s h long (f - 1) (a + 1) := by
  cases f with
  | zero => omega
  | succ f => simp [atFrom, hh]
theorem startFrom_next {l : List CallV} {h long s : Int} {f : Nat} (hf : 0 < f) (hh : atFrom l s h long (21 - long).toNat 0 = none) : startFrom l h long f s = startFrom l h long (f - 1) (s + 1) := by
  cases f with
  | zero => omega
  | succ f => simp [startFrom, hh]
theorem startFrom_hit {l : List CallV} {h long s : Int} {f : Nat} {c : CallV} (hf : 0 < f) (hh : atFrom l s h long (21 - long).toNat 0 = some c) : startFrom l h long f s = some c := by
  cases f with
  | zero => omega
  | succ f => simp [startFrom, hh]
theorem atFrom_bad {l : List CallV} {s h long : Int} (hh : ¬ (1 ≤ h ∧ h ≤ 99)) : ∀ (f : Nat) (a : Int), atFrom l s h long f a = none := by
  intro f
  induction f with
  | zero => intro a; rfl
  | succ f ih => intro a; rw [atFrom_miss (by omega) (freeC_no (by simp [callV]; omega))]; exact ih _
theorem startFrom_bad {l : List CallV} {h long : Int} (hh : ¬ (1 ≤ h ∧ h ≤ 99)) : ∀ (f : Nat) (s : Int), startFrom l h long f s = none := by
  intro f
  induction f with
  | zero => intro s; rfl
  | succ f ih => intro s; rw [startFrom_next (by omega) (atFrom_bad hh _ _)]; exact ih _
theorem nextC_bad {l : List CallV} {long h f : Int} (hh : ¬ (1 ≤ h ∧ h ≤ 99)) : nextC l long h f = none := by
  unfold nextC; split
  · exact startFrom_bad hh _ _
  · rfl
theorem atFrom_some {l : List CallV} {s h long : Int} {c : CallV} : ∀ (f : Nat) (a : Int), atFrom l s h long f a = some c → ∃ b : Int, c = ⟨s, h, b, long⟩ ∧ a ≤ b ∧ b < a + f ∧ freeC l c = true ∧ ∀ x : Int, a ≤ x → x < b → freeC l ⟨s, h, x, long⟩ = false := by
  intro f
  induction f with
  | zero => intro a h; cases h
  | succ f ih =>
    intro a hh
    unfold atFrom at hh
    split at hh
    · next h1 => injection hh with hh; subst hh; exact ⟨a, rfl, by omega, by omega, h1, fun x h1 h2 => by omega⟩
    · next h1 =>
      obtain ⟨b, e, h2, h3, h4, h5⟩ := ih _ hh
      refine ⟨b, e, by omega, by omega, h4, fun x hx hb => ?_⟩
      by_cases e : x = a
      · subst e; simpa using h1
      · exact h5 x (by omega) hb
theorem atFrom_none {l : List CallV} {s h long : Int} : ∀ (f : Nat) (a : Int), atFrom l s h long f a = none → ∀ x : Int, a ≤ x → x < a + f → freeC l ⟨s, h, x, long⟩ = false := by
  intro f
  induction f with
  | zero => intro a h x h1 h2; omega
  | succ f ih =>
    intro a hh x h1 h2
    unfold atFrom at hh
    split at hh
    · cases hh
    · next h3 =>
      by_cases e : x = a
      · subst e; simpa using h3
      · exact ih _ hh x (by omega) (by omega)
theorem startFrom_some {l : List CallV} {h long : Int} {c : CallV} : ∀ (f : Nat) (s : Int), startFrom l h long f s = some c → s ≤ c.start ∧ c.hours = h ∧ c.long = long ∧ freeC l c = true ∧
    (∀ t : Int, s ≤ t → t < c.start → ∀ x : Int, 0 ≤ x → x < (21 - long).toNat → freeC l ⟨t, h, x, long⟩ = false) ∧ ∀ x : Int, 0 ≤ x → x < c.at_ → freeC l ⟨c.start, h, x, long⟩ = false := by
  intro f
  induction f with
  | zero => intro s h; cases h
  | succ f ih =>
    intro s hh
    unfold startFrom at hh
    split at hh
    · next c' h1 =>
      injection hh with hh; subst hh
      obtain ⟨b, e, h2, h3, h4, h5⟩ := atFrom_some _ _ h1
      subst e
      exact ⟨Int.le_refl _, rfl, rfl, h4, fun t h6 h7 => absurd h7 (by show ¬ t < s; omega), h5⟩
    · next h1 =>
      obtain ⟨k1, k3, k4, k7, k8, k9⟩ := ih _ hh
      refine ⟨by omega, k3, k4, k7, fun t h6 h7 x h8 h9 => ?_, k9⟩
      by_cases e : t = s
      · subst e; exact atFrom_none _ _ h1 x h8 (by omega)
      · exact k8 t (by omega) h7 x h8 h9
theorem nextC_some {l : List CallV} {long h f : Int} {c : CallV} (hc : nextC l long h f = some c) : askedB l long f = true ∧ freeC l c = true ∧ c.hours = h ∧ c.long = long ∧ f ≤ c.start ∧
    ∀ t x : Int, f ≤ t → 0 ≤ x → x + long ≤ 20 → (t < c.start ∨ (t = c.start ∧ x < c.at_)) → freeC l ⟨t, h, x, long⟩ = false := by
  have ha : askedB l long f = true := by
    cases hb : askedB l long f
    · rw [nextC_no hb] at hc; cases hc
    · rfl
  rw [nextC_yes ha] at hc
  obtain ⟨k1, k3, k4, k7, k8, k9⟩ := startFrom_some _ _ hc
  refine ⟨ha, k7, k3, k4, k1, fun t x h1 h2 h3 h4 => ?_⟩
  rcases h4 with h4 | ⟨h4, h5⟩
  · exact k8 t h1 h4 x h2 (by omega)
  · subst h4; exact k9 x h2 h5
theorem free_more {l : List CallV} {c : CallV} (h : callsV l = true) (h6 : l.length ≠ 6) : callsV (l ++ [c]) = freeC l c := callsV_more h (by have := (callsV_spec h).2; omega)

/-- One ship after the other. -/
def allFrom (out : List CallV) : List Int → List Int → List Int → Option (List CallV)
  | a :: la, b :: lb, c :: lc => match nextC out a b c with
    | some x => allFrom (out ++ [x]) la lb lc
    | none => none
  | _, _, _ => some out
def allC (a b c : List Int) : Option (List CallV) := if a.length = b.length ∧ a.length = c.length then allFrom [] a b c else none
theorem allFrom_step {a b c : List Int} {x y z : Int} {k : Nat} {out : List CallV} (ha : a[k]? = some x) (hb : b[k]? = some y) (hc : c[k]? = some z) :
    allFrom out (a.drop k) (b.drop k) (c.drop k) = match nextC out x y z with | some q => allFrom (out ++ [q]) (a.drop (k + 1)) (b.drop (k + 1)) (c.drop (k + 1)) | none => none := by
  obtain ⟨h1, rfl⟩ := List.getElem?_eq_some_iff.1 ha
  obtain ⟨h2, rfl⟩ := List.getElem?_eq_some_iff.1 hb
  obtain ⟨h3, rfl⟩ := List.getElem?_eq_some_iff.1 hc
  rw [List.drop_eq_getElem_cons h1, List.drop_eq_getElem_cons h2, List.drop_eq_getElem_cons h3]
  rfl
theorem allFrom_end {a b c : List Int} {k : Nat} {out : List CallV} (ha : a.length ≤ k) : allFrom out (a.drop k) (b.drop k) (c.drop k) = some out := by
  rw [List.drop_eq_nil_of_le ha]; rfl
end Go.Proofs.Ytiejkcjbjjnacaa
