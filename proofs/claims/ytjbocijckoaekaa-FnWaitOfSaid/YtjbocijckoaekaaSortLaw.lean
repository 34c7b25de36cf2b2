/- Sorting by a key, equal ones by their number: one list alone is sorted so, and the insertion sort gives it. Plain Lean. -/
import Derived.Test.YtjbocijckoaekaaSort
import Derived.Test.YtjbocijckoaekaaMarkInt
namespace Go.Proofs.Ytjbocijckoaekaa
open Go.RowKit
set_option linter.unusedVariables false
set_option linter.unusedSimpArgs false

/-- x comes before y. -/
def before (key : Int → Int) (x y : Int) : Prop := key x < key y ∨ (key x = key y ∧ x < y)
section
variable {key : Int → Int}
theorem before_irr (x : Int) : ¬ before key x x := by unfold before; omega
theorem before_tr {x y z : Int} (h : before key x y) (k : before key y z) : before key x z := by unfold before at *; omega
theorem before_tot {x y : Int} (h : x ≠ y) : before key x y ∨ before key y x := by unfold before; omega
/-- Two lists in strict order that have the same members are the same. -/
theorem order_one : ∀ (l m : List Int), l.Pairwise (before key) → m.Pairwise (before key) → (∀ x, x ∈ l ↔ x ∈ m) → l = m := by
  intro l
  induction l with
  | nil =>
    intro m _ _ h
    cases m with
    | nil => rfl
    | cons b m => exact absurd ((h b).2 (by simp)) (by simp)
  | cons a l ih =>
    intro m hl hm h
    cases m with
    | nil => exact absurd ((h a).1 (by simp)) (by simp)
    | cons b m =>
      obtain ⟨la, ll⟩ := List.pairwise_cons.1 hl
      obtain ⟨mb, mm⟩ := List.pairwise_cons.1 hm
      have e : a = b := by
        by_cases e : a = b
        · exact e
        · have h1 : a ∈ m := by
            rcases List.mem_cons.1 ((h a).1 (by simp)) with h1 | h1
            · exact absurd h1 e
            · exact h1
          have h2 : b ∈ l := by
            rcases List.mem_cons.1 ((h b).2 (by simp)) with h2 | h2
            · exact absurd h2.symm e
            · exact h2
          exact absurd (before_tr (la b h2) (mb a h1)) (before_irr a)
      subst e
      congr 1
      refine ih m ll mm fun x => ⟨fun hx => ?_, fun hx => ?_⟩
      · rcases List.mem_cons.1 ((h x).1 (List.mem_cons_of_mem _ hx)) with h1 | h1
        · subst h1; exact absurd (la _ hx) (before_irr _)
        · exact h1
      · rcases List.mem_cons.1 ((h x).2 (List.mem_cons_of_mem _ hx)) with h1 | h1
        · subst h1; exact absurd (mb _ hx) (before_irr _)
        · exact h1

def insRev (cf : Int → Int → Int) : List Int → Int → List Int
  | [], x => [x]
  | y :: r, x => if cf x y < 0 then y :: insRev cf r x else x :: y :: r
theorem sift_ins (cf : Int → Int → Int) : ∀ (r : List Int) (x : Int) (post : List Int), sift cf r.length (r.reverse ++ x :: post) = (insRev cf r x).reverse ++ post := by
  intro r
  induction r with
  | nil => intro x post; simp [sift, insRev]
  | cons y r ih =>
    intro x post
    have e : (y :: r).reverse ++ x :: post = r.reverse ++ y :: x :: post := by simp
    have hx : (r.reverse ++ y :: x :: post)[r.length + 1]? = some x := by
      rw [List.getElem?_append_right (by simp)]; simp
    have hy : (r.reverse ++ y :: x :: post)[r.length]? = some y := by
      rw [List.getElem?_append_right (by simp)]; simp
    rw [e, List.length_cons]
    by_cases h : cf x y < 0
    · rw [sift_go hx hy h]
      have e2 : ((r.reverse ++ y :: x :: post).set (r.length + 1) y).set r.length x = r.reverse ++ x :: y :: post := by
        rw [List.set_append_right _ _ (by simp)]
        rw [List.set_append_right _ _ (by simp)]
        simp
      rw [e2, ih]
      simp [insRev, h]
    · rw [sift_stop hx hy h]
      simp [insRev, h]
theorem insRev_length (cf : Int → Int → Int) (r : List Int) (x : Int) : (insRev cf r x).length = r.length + 1 := by
  induction r with
  | nil => rfl
  | cons y r ih => unfold insRev; split <;> simp [ih]
theorem insRev_mem (cf : Int → Int → Int) (r : List Int) (x z : Int) : z ∈ insRev cf r x ↔ z = x ∨ z ∈ r := by
  induction r with
  | nil => simp [insRev]
  | cons y r ih =>
    unfold insRev
    split
    · simp only [List.mem_cons, ih]
      constructor
      · rintro (h | h | h)
        · exact .inr (.inl h)
        · exact .inl h
        · exact .inr (.inr h)
      · rintro (h | h | h)
        · exact .inr (.inl h)
        · exact .inl h
        · exact .inr (.inr h)
    · simp only [List.mem_cons]
def insAll (cf : Int → Int → Int) (q : List Int) : List Int := q.foldl (insRev cf) []
theorem insAll_snoc (cf : Int → Int → Int) (q : List Int) (x : Int) : insAll cf (q ++ [x]) = insRev cf (insAll cf q) x := by unfold insAll; rw [List.foldl_append]; rfl
theorem insAll_length (cf : Int → Int → Int) (q : List Int) : (insAll cf q).length = q.length := by
  have : ∀ (q : List Int) (r : List Int), (q.foldl (insRev cf) r).length = r.length + q.length := by
    intro q
    induction q with
    | nil => intro r; simp
    | cons x q ih => intro r; rw [List.foldl_cons, ih, insRev_length, List.length_cons]; omega
  unfold insAll; rw [this]; simp
theorem insAll_mem (cf : Int → Int → Int) (q : List Int) (z : Int) : z ∈ insAll cf q ↔ z ∈ q := by
  have : ∀ (q : List Int) (r : List Int), z ∈ q.foldl (insRev cf) r ↔ z ∈ r ∨ z ∈ q := by
    intro q
    induction q with
    | nil => intro r; simp
    | cons x q ih =>
      intro r
      rw [List.foldl_cons, ih, insRev_mem, List.mem_cons]
      constructor
      · rintro ((h | h) | h)
        · exact .inr (.inl h)
        · exact .inl h
        · exact .inr (.inr h)
      · rintro (h | h | h)
        · exact .inl (.inr h)
        · exact .inl (.inl h)
        · exact .inr h
  unfold insAll; rw [this]; simp
theorem insTo_all (cf : Int → Int → Int) (q : List Int) : ∀ k, k < q.length → insTo cf q k = (insAll cf (q.take (k + 1))).reverse ++ q.drop (k + 1) := by
  intro k
  induction k with
  | zero =>
    intro h
    cases q with
    | nil => simp at h
    | cons x q => simp [insTo, insAll, insRev]
  | succ k ih =>
    intro h
    have hx : q[k + 1]? = some q[k + 1] := List.getElem?_eq_getElem h
    rw [insTo, ih (by omega), List.drop_eq_getElem_cons h, take_next hx, insAll_snoc]
    have hl : (insAll cf (q.take (k + 1))).length = k + 1 := by rw [insAll_length, List.length_take]; omega
    have := sift_ins cf (insAll cf (q.take (k + 1))) q[k + 1] (q.drop (k + 1 + 1))
    rw [hl] at this
    exact this
theorem insS_all (cf : Int → Int → Int) (q : List Int) : insS cf q = (insAll cf q).reverse := by
  unfold insS
  cases q with
  | nil => rfl
  | cons x q =>
    rw [insTo_all cf (x :: q) _ (by simp)]
    rw [List.take_of_length_le (by simp), List.drop_eq_nil_of_le (by simp), List.append_nil]
theorem insRev_sorted {cf : Int → Int → Int} {x : Int} : ∀ r : List Int, (∀ y ∈ r, (cf x y < 0 ↔ key x < key y) ∧ y < x) → r.Pairwise (fun a b => before key b a) → (insRev cf r x).Pairwise (fun a b => before key b a) := by
  intro r
  induction r with
  | nil => intro _ _; simp [insRev]
  | cons y r ih =>
    intro h hp
    obtain ⟨hy, hr⟩ := List.pairwise_cons.1 hp
    obtain ⟨h1, h2⟩ := h y (by simp)
    unfold insRev
    split
    · next hc =>
      refine List.pairwise_cons.2 ⟨fun z hz => ?_, ih (fun z hz => h z (List.mem_cons_of_mem _ hz)) hr⟩
      rcases (insRev_mem cf r x z).1 hz with rfl | hz
      · exact .inl (h1.1 hc)
      · exact hy z hz
    · next hc =>
      have hyx : before key y x := by
        unfold before
        have : ¬ key x < key y := fun a => hc (h1.2 a)
        omega
      refine List.pairwise_cons.2 ⟨fun z hz => ?_, hp⟩
      rcases List.mem_cons.1 hz with rfl | hz
      · exact hyx
      · exact before_tr (hy z hz) hyx
theorem insAll_sorted {cf : Int → Int → Int} : ∀ q : List Int, q.Pairwise (· < ·) → (∀ x ∈ q, ∀ y ∈ q, cf x y < 0 ↔ key x < key y) → (insAll cf q).Pairwise (fun a b => before key b a) := by
  intro q
  have : ∀ k, (q.Pairwise (· < ·) → (∀ x ∈ q, ∀ y ∈ q, cf x y < 0 ↔ key x < key y) → (insAll cf (q.take k)).Pairwise (fun a b => before key b a)) := by
    intro k
    induction k with
    | zero => intro _ _; simp [insAll]
    | succ k ih =>
      intro hq hc
      by_cases hk : k < q.length
      · have hx : q[k]? = some q[k] := List.getElem?_eq_getElem hk
        rw [take_next hx, insAll_snoc]
        refine insRev_sorted _ (fun y hy => ?_) (ih hq hc)
        have hy' := (insAll_mem cf (q.take k) y).1 hy
        refine ⟨hc _ (List.getElem_mem hk) _ (List.mem_of_mem_take hy'), ?_⟩
        obtain ⟨j, hj⟩ := List.getElem?_of_mem hy'
        rw [List.getElem?_take] at hj
        split at hj
        · next hjk =>
          obtain ⟨hj1, hj2⟩ := List.getElem?_eq_some_iff.1 hj
          rw [← hj2]
          exact (List.pairwise_iff_getElem.1 hq) j k hj1 hk hjk
        · cases hj
      · rw [List.take_of_length_le (by omega)]
        have := ih hq hc
        rwa [List.take_of_length_le (by omega)] at this
  intro hq hc
  have h := this q.length hq hc
  rwa [List.take_of_length_le (Nat.le_refl _)] at h
theorem insS_sorted {cf : Int → Int → Int} {q : List Int} (hq : q.Pairwise (· < ·)) (hc : ∀ x ∈ q, ∀ y ∈ q, cf x y < 0 ↔ key x < key y) : (insS cf q).Pairwise (before key) := by
  rw [insS_all, List.pairwise_reverse]
  exact insAll_sorted q hq hc
theorem insS_mem (cf : Int → Int → Int) (q : List Int) (z : Int) : z ∈ insS cf q ↔ z ∈ q := by
  rw [insS_all, List.mem_reverse, insAll_mem]
theorem marks_sorted (n : Nat) : (marks n 0).Pairwise (· < ·) := by
  rw [List.pairwise_iff_getElem]
  intro i j hi hj hij
  have h1 := marks_at n 0 i (by rwa [marks_length] at hi)
  have h2 := marks_at n 0 j (by rwa [marks_length] at hj)
  rw [List.getElem?_eq_getElem hi] at h1
  rw [List.getElem?_eq_getElem hj] at h2
  injection h1 with h1
  injection h2 with h2
  rw [h1, h2]; omega
theorem marks_mem_iff {n : Nat} {x : Int} : x ∈ marks n 0 ↔ 0 ≤ x ∧ x < n := by
  constructor
  · intro h
    obtain ⟨j, hj⟩ := List.getElem?_of_mem h
    obtain ⟨h1, h2⟩ := marks_at_inv hj
    omega
  · intro h
    obtain ⟨j, rfl⟩ := Int.eq_ofNat_of_zero_le h.1
    have := marks_at n 0 j (by omega)
    rw [Int.zero_add] at this
    exact List.mem_of_getElem? this
/-- The indices below n in strict order: no other list is so. -/
def Ordered (key : Int → Int) (n : Nat) (l : List Int) : Prop := l.Pairwise (before key) ∧ ∀ x, x ∈ l ↔ 0 ≤ x ∧ x < (n : Int)
theorem insS_ordered {cf : Int → Int → Int} {n : Nat} (hc : ∀ x y : Int, 0 ≤ x → x < n → 0 ≤ y → y < n → (cf x y < 0 ↔ key x < key y)) : Ordered key n (insS cf (marks n 0)) :=
  ⟨insS_sorted (marks_sorted n) (fun x hx y hy => hc x y (marks_mem_iff.1 hx).1 (marks_mem_iff.1 hx).2 (marks_mem_iff.1 hy).1 (marks_mem_iff.1 hy).2), fun x => by rw [insS_mem, marks_mem_iff]⟩
theorem Ordered.one {n : Nat} {l m : List Int} (h : Ordered key n l) (k : Ordered key n m) : l = m :=
  order_one l m h.1 k.1 fun x => by rw [h.2, k.2]
/-- A part of the order: all with a lesser key than K, and those with the key K before k. -/
def Part (key : Int → Int) (n : Nat) (K k : Int) (out : List Int) : Prop := out.Pairwise (before key) ∧ ∀ x, x ∈ out ↔ (0 ≤ x ∧ x < (n : Int)) ∧ (key x < K ∨ (key x = K ∧ x < k))
theorem Part.nil_ {n : Nat} {K : Int} (h : ∀ x, K ≤ key x) : Part key n K 0 [] :=
  ⟨List.Pairwise.nil, fun x => ⟨fun a => by simp at a, fun a => by have := h x; omega⟩⟩
theorem Part.hit {n : Nat} {K k : Int} {out : List Int} (h : Part key n K k out) (hk : key k = K) (h0 : 0 ≤ k) (h9 : k < n) : Part key n K (k + 1) (out ++ [k]) := by
  refine ⟨List.pairwise_append.2 ⟨h.1, by simp, fun a ha b hb => ?_⟩, fun x => ?_⟩
  · rw [List.mem_singleton.1 hb]
    have := (h.2 a).1 ha
    unfold before; omega
  · rw [List.mem_append, List.mem_singleton, h.2]
    constructor
    · rintro (a | a)
      · omega
      · subst a; omega
    · intro a
      by_cases e : x = k
      · exact .inr e
      · exact .inl (by omega)
theorem Part.miss {n : Nat} {K k : Int} {out : List Int} (h : Part key n K k out) (hk : key k ≠ K) : Part key n K (k + 1) out := by
  refine ⟨h.1, fun x => ?_⟩
  rw [h.2]
  by_cases e : x = k
  · subst e; omega
  · omega
theorem Part.jump {n : Nat} {K K' : Int} {out : List Int} (h : Part key n K n out) (hK : K < K') (hn : ∀ x, key x ≤ K ∨ K' ≤ key x) : Part key n K' 0 out := by
  refine ⟨h.1, fun x => ?_⟩
  rw [h.2]
  have := hn x
  omega
theorem Part.more {n : Nat} {K K' : Int} {out : List Int} (h : Part key n K 0 out) (hK : K ≤ K') (hn : ∀ x, key x < K ∨ K' ≤ key x) : Part key n K' 0 out := by
  refine ⟨h.1, fun x => ?_⟩
  rw [h.2]
  have := hn x
  omega
theorem Part.all {n : Nat} {K : Int} {out : List Int} (h : Part key n K 0 out) (hn : ∀ x, key x < K) : Ordered key n out := by
  refine ⟨h.1, fun x => ?_⟩
  rw [h.2]
  have := hn x
  omega
theorem Part.length_le {n : Nat} {K k : Int} {out P : List Int} (h : Part key n K k out) (hp : Ordered key n P) : out.length ≤ P.length := by
  have : out = P.filter (fun x => decide (key x < K ∨ (key x = K ∧ x < k))) := by
    refine order_one _ _ h.1 (List.Pairwise.filter _ hp.1) fun x => ?_
    rw [h.2, List.mem_filter, hp.2]
    simp only [decide_eq_true_eq]
  rw [this]; exact List.length_filter_le _ _
end
/-- As Ans, and the room is known. -/
def AnsC (v : Value → Value) (m : Nat) (fl : List Int) (t : TypeId) (w : World) (e : Ending) (w' : World) : Prop :=
  ∃ A c, e = .returned (v (.slice A m c)) ∧ m ≤ c ∧ Own t w' w.heap.size w'.heap.size A fl ∧ Below w.heap.size w w'
theorem AnsC.ans {v : Value → Value} {m : Nat} {fl : List Int} {t : TypeId} {w : World} {e : Ending} {w' : World} (h : AnsC v m fl t w e w') : Ans v m fl t w e w' := by
  obtain ⟨A, c, h1, _, h2, h3⟩ := h
  exact ⟨A, c, h1, h2, h3⟩
theorem ansC_of {v : Value → Value} {L L' : List Int} {t : TypeId} {f : FuncId} {args : Array Value} {w : World} (h : Calls Try.prog f args w (AnsC v L.length L t w)) (e : L = L') : Calls Try.prog f args w (AnsC v L'.length L' t w) := by rw [← e]; exact h
end Go.Proofs.Ytjbocijckoaekaa
