/- The best division of work: all lists of numbers in order, the first of the least. Plain Lean, no program. -/
import Derived.Test.YtoopmikcehmpdaaShare
namespace Go.Proofs.Ytoopmikcehmpdaa
open Go.RowKit
set_option linter.unusedVariables false
set_option linter.unusedSimpArgs false

/-- The first least of a list, by a fold. -/
def upd (f : List Int → Int) (b : Option (List Int)) (x : List Int) : Option (List Int) :=
  match b with
  | none => some x
  | some y => if f x < f y then some x else some y
def firstMin (f : List Int → Int) (L : List (List Int)) : Option (List Int) := L.foldl (upd f) none
def comb (f : List Int → Int) (b c : Option (List Int)) : Option (List Int) :=
  match c with
  | none => b
  | some x => upd f b x
theorem upd_comb (f : List Int → Int) (b c : Option (List Int)) (y : List Int) : upd f (comb f b c) y = comb f b (upd f c y) := by
  cases c with
  | none => rfl
  | some x =>
    cases b with
    | none =>
      simp only [comb, upd]
      split <;> rfl
    | some z =>
      simp only [comb, upd]
      by_cases h1 : f x < f z
      · by_cases h2 : f y < f x
        · simp [h1, h2, show f y < f z from by omega]
        · simp [h1, h2]
      · by_cases h2 : f y < f x
        · simp [h1, h2]
        · simp [h1, h2, show ¬ f y < f z from by omega]
theorem fold_upd (f : List Int → Int) (b : Option (List Int)) (L : List (List Int)) : L.foldl (upd f) b = comb f b (firstMin f L) := by
  have h : ∀ (L : List (List Int)) (c : Option (List Int)), L.foldl (upd f) (comb f b c) = comb f b (L.foldl (upd f) c) := by
    intro L
    induction L with
    | nil => intro c; rfl
    | cons y L ih => intro c; rw [List.foldl_cons, List.foldl_cons, upd_comb, ih]
  exact h L none
theorem firstMin_append (f : List Int → Int) (L M : List (List Int)) : firstMin f (L ++ M) = comb f (firstMin f L) (firstMin f M) := by
  unfold firstMin; rw [List.foldl_append]; exact fold_upd f _ M
theorem firstMin_mem {f : List Int → Int} {L : List (List Int)} {x : List Int} (h : firstMin f L = some x) : x ∈ L ∧ ∀ y ∈ L, f x ≤ f y := by
  have g : ∀ (L : List (List Int)) (b : Option (List Int)), (∀ x, L.foldl (upd f) b = some x → (x ∈ L ∨ b = some x) ∧ (∀ y ∈ L, f x ≤ f y) ∧ ∀ y, b = some y → f x ≤ f y) := by
    intro L
    induction L with
    | nil => intro b x h; simp only [List.foldl_nil] at h; subst h; exact ⟨.inr rfl, by simp, fun y hy => by injection hy with hy; rw [hy]; exact Int.le_refl _⟩
    | cons z L ih =>
      intro b x h
      obtain ⟨h1, h2, h3⟩ := ih _ _ h
      cases b with
      | none =>
        have h4 := h3 z rfl
        refine ⟨?_, ?_, by simp⟩
        · rcases h1 with h1 | h1
          · exact .inl (List.mem_cons_of_mem _ h1)
          · injection h1 with h1; subst h1; exact .inl List.mem_cons_self
        · intro y hy
          rcases List.mem_cons.1 hy with rfl | hy
          · exact h4
          · exact h2 y hy
      | some u =>
        simp only [upd] at h1 h3
        by_cases hlt : f z < f u
        · rw [if_pos hlt] at h1 h3
          have h4 := h3 z rfl
          refine ⟨?_, ?_, ?_⟩
          · rcases h1 with h1 | h1
            · exact .inl (List.mem_cons_of_mem _ h1)
            · injection h1 with h1; subst h1; exact .inl List.mem_cons_self
          · intro y hy
            rcases List.mem_cons.1 hy with rfl | hy
            · exact h4
            · exact h2 y hy
          · intro y hy; injection hy with hy; subst hy; omega
        · rw [if_neg hlt] at h1 h3
          have h4 := h3 u rfl
          refine ⟨?_, ?_, ?_⟩
          · rcases h1 with h1 | h1
            · exact .inl (List.mem_cons_of_mem _ h1)
            · exact .inr h1
          · intro y hy
            rcases List.mem_cons.1 hy with rfl | hy
            · omega
            · exact h2 y hy
          · intro y hy; injection hy with hy; subst hy; exact h4
  obtain ⟨h1, h2, _⟩ := g L none x h
  exact ⟨h1.resolve_right (by simp), h2⟩
theorem firstMin_some {f : List Int → Int} {L : List (List Int)} (h : L ≠ []) : ∃ x, firstMin f L = some x := by
  have g : ∀ (L : List (List Int)) (b : List Int), ∃ x, L.foldl (upd f) (some b) = some x := by
    intro L
    induction L with
    | nil => intro b; exact ⟨b, rfl⟩
    | cons z L ih =>
      intro b
      rw [List.foldl_cons]
      unfold upd
      dsimp only
      split
      · exact ih _
      · exact ih _
  cases L with
  | nil => exact absurd rfl h
  | cons z L => exact g L z
theorem firstMin_next {f : List Int → Int} {L : List (List Int)} {k : Nat} {y : List Int} (h : L[k]? = some y) : firstMin f (L.take (k + 1)) = upd f (firstMin f (L.take k)) y := by
  rw [take_next h]; unfold firstMin; rw [List.foldl_append]; rfl

/-- All lists of m numbers, none less than the one before it, from a to n, in order. -/
def enumF (n : Nat) : Nat → Nat → List (List Int)
  | _, 0 => [[]]
  | a, m + 1 => (List.range (n + 1 - a)).flatMap fun k => (enumF n (a + k) m).map fun t => ((a + k : Nat) : Int) :: t
/-- What nextCuts leaves: the last number below n one more, and so all after it. -/
def bump (l : List Int) (i : Nat) : List Int := l.take i ++ List.replicate (l.length - i) (l.getD i 0 + 1)
def nextAt (n : Nat) (l : List Int) : Nat → Option (List Int)
  | 0 => none
  | i + 1 => if l.getD i 0 < n then some (bump l i) else nextAt n l i
def nextL (n : Nat) (l : List Int) : Option (List Int) := nextAt n l l.length
def chainOk (n : Nat) : List (List Int) → Bool
  | [] => true
  | [x] => nextL n x == none
  | x :: y :: L => (nextL n x == some y) && chainOk n (y :: L)
theorem chain_all : ∀ n, n < 9 → ∀ m, m < 4 → chainOk n (enumF n 0 m) = true := by decide +kernel
theorem chain_next {n : Nat} {L : List (List Int)} (h : chainOk n L = true) {k : Nat} {x : List Int} (hk : L[k]? = some x) : nextL n x = L[k + 1]? := by
  induction L generalizing k with
  | nil => simp at hk
  | cons z L ih =>
    cases L with
    | nil =>
      cases k with
      | zero => simp at hk; subst hk; simpa [chainOk] using h
      | succ k => simp at hk
    | cons y L =>
      simp only [chainOk, Bool.and_eq_true, beq_iff_eq] at h
      cases k with
      | zero => simp at hk; subst hk; simpa using h.1
      | succ k => simpa using ih h.2 (by simpa using hk)
theorem enumF_mem {n a m : Nat} {x : List Int} (h : x ∈ enumF n a m) : x.length = m ∧ ∀ y ∈ x, (a : Int) ≤ y ∧ y ≤ n := by
  induction m generalizing a x with
  | zero => simp [enumF] at h; subst h; simp
  | succ m ih =>
    simp only [enumF, List.mem_flatMap, List.mem_range, List.mem_map] at h
    obtain ⟨k, hk, t, ht, rfl⟩ := h
    obtain ⟨h1, h2⟩ := ih ht
    refine ⟨by simp [h1], ?_⟩
    intro y hy
    rcases List.mem_cons.1 hy with rfl | hy
    · omega
    · have := h2 y hy; omega
theorem enumF_ne {n a m : Nat} (h : a ≤ n) : enumF n a m ≠ [] := by
  induction m generalizing a with
  | zero => simp [enumF]
  | succ m ih =>
    intro e
    obtain ⟨x, hx⟩ := List.exists_mem_of_ne_nil _ (ih h)
    have : ((a : Nat) : Int) :: x ∈ enumF n a (m + 1) := by
      simp only [enumF, List.mem_flatMap, List.mem_range, List.mem_map]
      exact ⟨0, by omega, x, by simpa using hx, by simp⟩
    rw [e] at this; simp at this
def bestS (w : List Int) (m : Nat) : Option (List Int) := firstMin (greatS w) (enumF w.length 0 m)
end Go.Proofs.Ytoopmikcehmpdaa
