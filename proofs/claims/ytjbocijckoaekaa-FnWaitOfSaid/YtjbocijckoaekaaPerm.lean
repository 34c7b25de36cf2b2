/- Orders of so many indices: that each has every index, and all of them in the order of the first difference. Plain Lean. -/
import Derived.Test.YtjbocijckoaekaaPair
import Derived.Test.YtjbocijckoaekaaSortLaw
namespace Go.Proofs.Ytjbocijckoaekaa
open Go.RowKit
set_option linter.unusedVariables false
set_option linter.unusedSimpArgs false

theorem sub_length : ∀ (l m : List Int), l.Nodup → (∀ x ∈ l, x ∈ m) → l.length ≤ m.length := by
  intro l
  induction l with
  | nil => intro m _ _; simp
  | cons a l ih =>
    intro m hn hs
    obtain ⟨ha, hl⟩ := List.nodup_cons.1 hn
    have h1 := hs a (by simp)
    have h2 := ih (m.erase a) hl (fun x hx => by
      have : x ≠ a := fun e => ha (e ▸ hx)
      exact (List.mem_erase_of_ne this).2 (hs x (List.mem_cons_of_mem _ hx)))
    have h3 := List.length_erase_of_mem h1
    have h4 : 0 < m.length := List.length_pos_of_mem h1
    simp only [List.length_cons]
    omega
theorem full_of : ∀ (l m : List Int), l.Nodup → (∀ x ∈ l, x ∈ m) → m.length ≤ l.length → ∀ x ∈ m, x ∈ l := by
  intro l
  induction l with
  | nil =>
    intro m _ _ h x hx
    have := List.length_pos_of_mem hx
    rw [List.length_nil] at h; omega
  | cons a l ih =>
    intro m hn hs h x hx
    obtain ⟨ha, hl⟩ := List.nodup_cons.1 hn
    have h1 := hs a (by simp)
    by_cases e : x = a
    · simp [e]
    · have h3 := List.length_erase_of_mem h1
      have := ih (m.erase a) hl (fun y hy => by
        have : y ≠ a := fun e => ha (e ▸ hy)
        exact (List.mem_erase_of_ne this).2 (hs y (List.mem_cons_of_mem _ hy))) (by simp only [List.length_cons] at h; omega) x ((List.mem_erase_of_ne e).2 hx)
      exact List.mem_cons_of_mem _ this
/-- Indices below n, each once. -/
def good (n : Nat) (o : List Int) : Prop := o.Nodup ∧ ∀ x ∈ o, 0 ≤ x ∧ x < (n : Int)
theorem marks_nodup (n : Nat) : (marks n 0).Nodup := by
  have := marks_sorted n
  exact List.Pairwise.imp (fun h => by omega) this
theorem has_mem {l : List Int} {m : Nat} {n : Int} : hasB l m n = true ↔ n ∈ l.take m := by unfold hasB; exact List.contains_iff_mem
theorem good_of_perm {o : List Int} {n : Nat} (h : permV o n = true) : good n o ∧ o.length = n := by
  obtain ⟨h1, h2⟩ := permV_spec h
  refine ⟨⟨?_, fun x hx => ?_⟩, h2⟩
  · show o.Pairwise (· ≠ ·)
    rw [List.pairwise_iff_getElem]
    intro i j hi hj hij e
    have hx : o[j]? = some o[j] := List.getElem?_eq_getElem hj
    have := (permTo_at h1 hj hx).2
    rw [has_hit (k := i) (by rw [List.getElem?_eq_getElem hi, e]) hij] at this
    cases this
  · obtain ⟨k, hk⟩ := List.getElem?_of_mem hx
    have := (permTo_at h1 (List.getElem?_eq_some_iff.1 hk).1 hk).1
    omega
theorem perm_of_good {o : List Int} {n : Nat} (h : good n o) (hn : o.length = n) : permV o n = true := by
  have : ∀ k, k ≤ o.length → permTo o n k = true := by
    intro k
    induction k with
    | zero => intro _; rfl
    | succ k ih =>
      intro hk
      have hx : o[k]? = some o[k] := List.getElem?_eq_getElem (by omega)
      rw [permTo_next hx, ih (by omega)]
      have hm := h.2 _ (List.mem_of_getElem? hx)
      have hb : hasB o k o[k] = false := by
        rw [Bool.eq_false_iff]
        intro hc
        obtain ⟨j, hj⟩ := List.getElem?_of_mem (has_mem.1 hc)
        rw [List.getElem?_take] at hj
        split at hj
        · next hjk =>
          obtain ⟨hj1, hj2⟩ := List.getElem?_eq_some_iff.1 hj
          exact (List.pairwise_iff_getElem.1 h.1) j k hj1 (by omega) hjk hj2
        · cases hj
      rw [hb]
      simp; omega
  rw [permV_yes (this _ (Nat.le_refl _))]
  simpa using hn
theorem good_full {o : List Int} {n : Nat} (h : good n o) (hn : o.length = n) {x : Int} (h0 : 0 ≤ x) (h9 : x < n) : x ∈ o :=
  full_of o (marks n 0) h.1 (fun y hy => marks_mem_iff.2 (h.2 y hy)) (by rw [marks_length]; omega) x (marks_mem_iff.2 ⟨h0, h9⟩)
theorem good_more {n : Nat} {o : List Int} {k : Int} (h : good n o) (hk : k ∉ o) (h0 : 0 ≤ k) (h9 : k < n) : good n (o ++ [k]) := by
  refine ⟨?_, fun x hx => ?_⟩
  · rw [List.nodup_append]
    refine ⟨h.1, by simp, fun a ha b hb => ?_⟩
    rw [List.mem_singleton.1 hb]
    exact fun e => hk (e ▸ ha)
  · rcases List.mem_append.1 hx with h1 | h1
    · exact h.2 x h1
    · rw [List.mem_singleton.1 h1]; exact ⟨h0, h9⟩
theorem good_length {n : Nat} {o : List Int} (h : good n o) : o.length ≤ n := by
  have := sub_length o (marks n 0) h.1 (fun x hx => marks_mem_iff.2 (h.2 x hx))
  rwa [marks_length] at this
theorem good_room {n : Nat} {o : List Int} (h : good n o) (hn : o.length < n) : ∃ k : Int, 0 ≤ k ∧ k < n ∧ k ∉ o := by
  by_cases hx : ∃ k : Int, 0 ≤ k ∧ k < n ∧ k ∉ o
  · exact hx
  · have := sub_length (marks n 0) o (marks_nodup n) (fun x hx' => by
      have := marks_mem_iff.1 hx'
      by_cases e : x ∈ o
      · exact e
      · exact absurd ⟨x, this.1, this.2, e⟩ hx)
    rw [marks_length] at this
    omega
theorem good_nil (n : Nat) : good n [] := ⟨List.nodup_nil, fun x hx => by simp at hx⟩
theorem ordered_good {key : Int → Int} {n : Nat} {o : List Int} (h : Ordered key n o) : good n o :=
  ⟨List.Pairwise.imp (fun {a b} hab e => by subst e; exact before_irr a hab) h.1, fun x hx => (h.2 x).1 hx⟩

/-- All orders that begin with some indices; f more are to come. -/
def ext (n : Nat) : Nat → List Int → List (List Int)
  | 0, o => [o]
  | f + 1, o => (marks n 0).flatMap fun k => if o.contains k then [] else ext n f (o ++ [k])
theorem ext_good {n : Nat} : ∀ (f : Nat) (o : List Int), good n o → o.length + f = n → ∀ x ∈ ext n f o, good n x ∧ x.length = n := by
  intro f
  induction f with
  | zero => intro o h hn x hx; simp only [ext, List.mem_singleton] at hx; subst hx; exact ⟨h, by omega⟩
  | succ f ih =>
    intro o h hn x hx
    simp only [ext, List.mem_flatMap] at hx
    obtain ⟨k, hk, hx⟩ := hx
    split at hx
    · simp at hx
    · next hc =>
      have hkm := marks_mem_iff.1 hk
      exact ih (o ++ [k]) (good_more h (fun e => hc (List.contains_iff_mem.2 e)) hkm.1 hkm.2) (by simp; omega) x hx
theorem ext_ne {n : Nat} : ∀ (f : Nat) (o : List Int), good n o → o.length + f = n → ext n f o ≠ [] := by
  intro f
  induction f with
  | zero => intro o _ _; simp [ext]
  | succ f ih =>
    intro o h hn e
    obtain ⟨k, k0, k9, hk⟩ := good_room h (by omega)
    have h1 := ih (o ++ [k]) (good_more h hk k0 k9) (by simp; omega)
    obtain ⟨x, hx⟩ := List.exists_mem_of_ne_nil _ h1
    have : x ∈ ext n (f + 1) o := by
      simp only [ext, List.mem_flatMap]
      refine ⟨k, marks_mem_iff.2 ⟨k0, k9⟩, ?_⟩
      rw [if_neg (by rw [List.contains_iff_mem]; exact hk)]
      exact hx
    rw [e] at this
    simp at this
theorem ext_all {n : Nat} {o : List Int} (h : good n o) (hn : o.length = n) : ∀ (f j : Nat), j + f = n → o ∈ ext n f (o.take j) := by
  intro f
  induction f with
  | zero => intro j hj; simp only [ext, List.mem_singleton]; rw [List.take_of_length_le (by omega)]
  | succ f ih =>
    intro j hj
    have hx : o[j]? = some o[j] := List.getElem?_eq_getElem (by omega)
    have hm := h.2 _ (List.mem_of_getElem? hx)
    simp only [ext, List.mem_flatMap]
    refine ⟨o[j], marks_mem_iff.2 hm, ?_⟩
    rw [if_neg]
    · rw [← take_next hx]; exact ih (j + 1) (by omega)
    · rw [List.contains_iff_mem]
      intro hc
      obtain ⟨i, hi⟩ := List.getElem?_of_mem hc
      rw [List.getElem?_take] at hi
      split at hi
      · next hij =>
        obtain ⟨hi1, hi2⟩ := List.getElem?_eq_some_iff.1 hi
        exact (List.pairwise_iff_getElem.1 h.1) i j hi1 (by omega) hij hi2
      · cases hi
/-- All orders of n indices. -/
def orders (n : Nat) : List (List Int) := ext n n []
theorem orders_mem {n : Nat} {o : List Int} : o ∈ orders n ↔ permV o n = true := by
  constructor
  · intro h
    obtain ⟨h1, h2⟩ := ext_good n [] (good_nil n) (by simp) o h
    exact perm_of_good h1 h2
  · intro h
    obtain ⟨h1, h2⟩ := good_of_perm h
    exact ext_all h1 h2 n 0 (by omega)

section
variable (cost : List Int → Int)
/-- The better one of what was best and another. -/
def better : Option (List Int) → List Int → Option (List Int)
  | none, x => some x
  | some b, x => if cost x < cost b then some x else some b
def bestOf (L : List (List Int)) : Option (List Int) := L.foldl (better cost) none
def comb2 : Option (List Int) → Option (List Int) → Option (List Int)
  | a, none => a
  | a, some x => better cost a x
theorem better_assoc (a : Option (List Int)) (b : Option (List Int)) (x : List Int) : better cost (comb2 cost a b) x = comb2 cost a (better cost b x) := by
  cases b with
  | none => rfl
  | some b =>
    cases a with
    | none =>
      unfold comb2 better
      dsimp only
      split <;> rfl
    | some a =>
      simp only [comb2, better]
      by_cases h1 : cost b < cost a <;> by_cases h2 : cost x < cost b
      · have h3 : cost x < cost a := by omega
        simp [h1, h2, h3, better]
      · simp [h1, h2, better]
      · simp [h1, h2, better]
      · have h3 : ¬ cost x < cost a := by omega
        simp [h1, h2, h3, better]
theorem fold_comb (L : List (List Int)) : ∀ (a b : Option (List Int)), L.foldl (better cost) (comb2 cost a b) = comb2 cost a (L.foldl (better cost) b) := by
  induction L with
  | nil => intro a b; rfl
  | cons x L ih => intro a b; rw [List.foldl_cons, List.foldl_cons, better_assoc, ih]
theorem fold_best (L : List (List Int)) (a : Option (List Int)) : L.foldl (better cost) a = comb2 cost a (bestOf cost L) := by
  have := fold_comb cost L a none
  exact this
theorem bestOf_app (L M : List (List Int)) : bestOf cost (L ++ M) = comb2 cost (bestOf cost L) (bestOf cost M) := by
  unfold bestOf
  rw [List.foldl_append, fold_best]
  rfl
theorem better_some (a : Option (List Int)) (x : List Int) : ∃ b, better cost a x = some b := by
  cases a with
  | none => exact ⟨x, rfl⟩
  | some a => unfold better; dsimp only; split <;> exact ⟨_, rfl⟩
theorem bestOf_spec : ∀ (L : List (List Int)) (a : Option (List Int)), (L ≠ [] ∨ a.isSome = true) → ∃ b, L.foldl (better cost) a = some b ∧ (b ∈ L ∨ a = some b) ∧ (∀ x ∈ L, cost b ≤ cost x) ∧ (∀ y, a = some y → cost b ≤ cost y) := by
  intro L
  induction L with
  | nil =>
    intro a h
    cases a with
    | none => rcases h with h | h; exact absurd rfl h; cases h
    | some a => exact ⟨a, rfl, .inr rfl, fun x hx => by simp at hx, fun y hy => by injection hy with hy; subst hy; omega⟩
  | cons z L ih =>
    intro a _
    obtain ⟨c, hc⟩ := better_some cost a z
    rw [List.foldl_cons, hc]
    obtain ⟨b, h1, h2, h3, h4⟩ := ih (some c) (.inr rfl)
    have h5 := h4 c rfl
    refine ⟨b, h1, ?_, ?_, ?_⟩
    · rcases h2 with h2 | h2
      · exact .inl (List.mem_cons_of_mem _ h2)
      · injection h2 with h2
        subst h2
        cases a with
        | none => simp only [better] at hc; injection hc with hc; subst hc; exact .inl (by simp)
        | some a =>
          unfold better at hc
          dsimp only at hc
          split at hc
          · injection hc with hc; subst hc; exact .inl (by simp)
          · exact .inr hc
    · intro x hx
      rcases List.mem_cons.1 hx with rfl | hx
      · cases a with
        | none => simp only [better] at hc; injection hc with hc; subst hc; exact h5
        | some a =>
          unfold better at hc
          dsimp only at hc
          split at hc
          · injection hc with hc; subst hc; exact h5
          · injection hc with hc; subst hc; omega
      · exact h3 x hx
    · intro y hy
      subst hy
      unfold better at hc
      dsimp only at hc
      split at hc
      · injection hc with hc; subst hc; omega
      · injection hc with hc; subst hc; exact h5
theorem bestOf_least {L : List (List Int)} (h : L ≠ []) : ∃ b, bestOf cost L = some b ∧ b ∈ L ∧ ∀ x ∈ L, cost b ≤ cost x := by
  obtain ⟨b, h1, h2, h3, _⟩ := bestOf_spec cost L none (.inl h)
  rcases h2 with h2 | h2
  · exact ⟨b, h1, h2, h3⟩
  · cases h2
/-- The best of those that go on with the first k indices. -/
def bestTo (n f : Nat) (o : List Int) (k : Nat) : Option (List Int) := bestOf cost (((marks n 0).take k).flatMap fun j => if o.contains j then [] else ext n f (o ++ [j]))
theorem bestTo_0 (n f : Nat) (o : List Int) : bestTo cost n f o 0 = none := by simp [bestTo, bestOf]
theorem bestTo_all (n f : Nat) (o : List Int) : bestTo cost n f o n = bestOf cost (ext n (f + 1) o) := by
  unfold bestTo
  rw [List.take_of_length_le (by rw [marks_length]; omega)]
  rfl
theorem bestTo_has {n f : Nat} {o : List Int} {k : Nat} (hk : k < n) (h : o.contains (k : Int) = true) : bestTo cost n f o (k + 1) = bestTo cost n f o k := by
  unfold bestTo
  have := marks_at n 0 k hk
  rw [Int.zero_add] at this
  rw [take_next this, List.flatMap_append]
  simp only [List.flatMap_cons, List.flatMap_nil, h, if_true, List.append_nil]
theorem bestTo_new {n f : Nat} {o : List Int} {k : Nat} (hk : k < n) (h : o.contains (k : Int) = false) : bestTo cost n f o (k + 1) = comb2 cost (bestTo cost n f o k) (bestOf cost (ext n f (o ++ [(k : Int)]))) := by
  unfold bestTo
  have := marks_at n 0 k hk
  rw [Int.zero_add] at this
  rw [take_next this, List.flatMap_append, bestOf_app]
  simp only [List.flatMap_cons, List.flatMap_nil, h, List.append_nil]
  rfl
end
end Go.Proofs.Ytjbocijckoaekaa
