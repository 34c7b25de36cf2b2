/- The order in which boxes are loaded. Plain Lean. -/
import Derived.Test.YtphncbnnnickhaaFillOps
namespace Go.Proofs.Ytphncbnnnickhaa
open Go.RowKit
set_option linter.unusedVariables false
set_option linter.unusedSimpArgs false

/-- The lesser one is loaded first. -/
def keyB (x : BoxV) : Int := x.id - 1000 * x.weight - 100000 * x.port
theorem cmpI_neg {x y : Int} : cmpI x y < 0 ↔ x < y := by unfold cmpI; split <;> (try split) <;> omega
theorem cmpI_zero {x y : Int} : cmpI x y = 0 ↔ x = y := by unfold cmpI; split <;> (try split) <;> omega
theorem cfB_key {x y : BoxV} (hx : boxOk x) (hy : boxOk y) : cfB x y < 0 ↔ keyB x < keyB y := by
  have n1 := @cmpI_neg y.port x.port
  have n2 := @cmpI_neg y.weight x.weight
  have n3 := @cmpI_neg x.id y.id
  have z1 := @cmpI_zero y.port x.port
  have z2 := @cmpI_zero y.weight x.weight
  unfold boxOk at hx hy
  unfold cfB keyB
  simp only [orI]
  split
  · next h1 =>
    split
    · next h2 =>
      split
      · next h3 => have := (@cmpI_zero x.id y.id).1 h3; have := z1.1 h1; have := z2.1 h2; omega
      · next h3 => rw [n3]; have := z1.1 h1; have := z2.1 h2; omega
    · next h2 => rw [n2]; have := z1.1 h1; have := fun e => h2 (z2.2 e); omega
  · next h1 => rw [n1]; have := fun e => h1 (z1.2 e); omega
theorem befB_key {x y : BoxV} (hx : boxOk x) (hy : boxOk y) : befB x y = true ↔ keyB x < keyB y := by
  unfold boxOk at hx hy
  unfold befB keyB
  split
  · split
    · rw [decide_eq_true_eq]; omega
    · rw [decide_eq_true_eq]; omega
  · rw [decide_eq_true_eq]; omega
theorem keyB_id {x y : BoxV} (hx : boxOk x) (hy : boxOk y) (h : keyB x = keyB y) : x.id = y.id := by
  unfold boxOk at hx hy
  unfold keyB at h
  omega

/-! Where an id lies. -/
theorem at_neg {l : List BoxV} {id : Int} : ∀ {k : Nat}, atTo l id k = -1 → ∀ (i : Nat) (x : BoxV), i < k → l[i]? = some x → x.id ≠ id := by
  intro k
  induction k with
  | zero => intro _ i x hi; omega
  | succ k ih =>
    intro h i x hi hx
    have hk : atTo l id k = -1 := by
      have hb := at_bd l id k
      unfold atTo at h
      split at h
      · omega
      · omega
    by_cases e : i = k
    · subst e
      intro he
      have := at_hit hk hx he (i + 1) (by omega)
      omega
    · exact ih hk i x (by omega) hx
theorem at_pos {l : List BoxV} {id : Int} : ∀ {k : Nat}, 0 ≤ atTo l id k → ∃ (j : Nat) (x : BoxV), atTo l id k = j ∧ j < k ∧ l[j]? = some x ∧ x.id = id := by
  intro k
  induction k with
  | zero => intro h; simp [atTo] at h
  | succ k ih =>
    intro h
    unfold atTo at h ⊢
    split at h
    · next h0 =>
      rw [if_pos h0]
      obtain ⟨j, x, e, hj, hx, hi⟩ := ih h0
      exact ⟨j, x, e, by omega, hx, hi⟩
    · next h0 =>
      rw [if_neg h0]
      split at h
      · next x hx =>
        split at h
        · next hi => exact ⟨k, x, by simp [hx, hi], by omega, hx, hi⟩
        · omega
      · omega
theorem at_of {l : List BoxV} {id : Int} {n j : Nat} {x : BoxV} (hj : l[j]? = some x) (hi : x.id = id) (hn : j < n) : 0 ≤ atTo l id n := by
  have hb := at_bd l id n
  by_cases h : atTo l id n = -1
  · exact absurd hi (at_neg h j x hn hj)
  · omega
theorem bvTo_spec {l : List BoxV} : ∀ {k : Nat}, bvTo l k = true → ∀ (j : Nat) (x : BoxV), j < k → l[j]? = some x → boxOk x ∧ atTo l x.id j = -1 := by
  intro k
  induction k with
  | zero => intro _ j x hj; omega
  | succ k ih =>
    intro h j x hj hx
    by_cases e : j = k
    · subst e
      rw [bvTo_next hx] at h
      simp only [Bool.and_eq_true, decide_eq_true_eq] at h
      have := at_bd l x.id j
      exact ⟨h.2.1, by omega⟩
    · have h2 : bvTo l k = true := by
        unfold bvTo at h
        simp only [Bool.and_eq_true] at h
        exact h.1
      exact ih h2 j x (by omega) hx
structure BV (l : List BoxV) : Prop where
  len : l.length ≤ 10
  ok : ∀ x ∈ l, boxOk x
  one : ∀ (i j : Nat) (x y : BoxV), l[i]? = some x → l[j]? = some y → x.id = y.id → i = j
theorem bvS_spec {l : List BoxV} (h : bvS l = true) : BV l := by
  unfold bvS at h
  simp only [Bool.and_eq_true, decide_eq_true_eq] at h
  have hs := bvTo_spec h.1
  refine ⟨h.2, fun x hx => ?_, fun i j x y hi hj e => ?_⟩
  · obtain ⟨j, hj⟩ := List.getElem?_of_mem hx
    exact (hs j x (List.getElem?_eq_some_iff.1 hj).1 hj).1
  · have i1 := (List.getElem?_eq_some_iff.1 hi).1
    have j1 := (List.getElem?_eq_some_iff.1 hj).1
    rcases Nat.lt_trichotomy i j with h1 | h1 | h1
    · exact absurd e (at_neg (hs j y j1 hj).2 i x h1 hi)
    · exact h1
    · exact absurd e.symm (at_neg (hs i x i1 hi).2 j y h1 hj)
theorem BV.eq_of {l : List BoxV} (h : BV l) {x y : BoxV} (hx : x ∈ l) (hy : y ∈ l) (e : x.id = y.id) : x = y := by
  obtain ⟨i, hi⟩ := List.getElem?_of_mem hx
  obtain ⟨j, hj⟩ := List.getElem?_of_mem hy
  have := h.one i j x y hi hj e
  subst this
  rw [hi] at hj
  injection hj
theorem BV.key {l : List BoxV} (h : BV l) {x y : BoxV} (hx : x ∈ l) (hy : y ∈ l) (e : keyB x = keyB y) : x = y := h.eq_of hx hy (keyB_id (h.ok x hx) (h.ok y hy) e)
theorem BV.at_ {l : List BoxV} (h : BV l) {x : BoxV} {j : Nat} (hj : l[j]? = some x) : atTo l x.id l.length = j := by
  have hl := (List.getElem?_eq_some_iff.1 hj).1
  obtain ⟨i, y, e, hi, hy, he⟩ := at_pos (at_of hj rfl hl)
  rw [e, h.one i j y x hy hj he]

/-! The insertion sort. -/
def insRev (cf : BoxV → BoxV → Int) : List BoxV → BoxV → List BoxV
  | [], x => [x]
  | y :: r, x => if cf x y < 0 then y :: insRev cf r x else x :: y :: r
theorem sift_ins (cf : BoxV → BoxV → Int) : ∀ (r : List BoxV) (x : BoxV) (post : List BoxV), sift cf r.length (r.reverse ++ x :: post) = (insRev cf r x).reverse ++ post := by
  intro r
  induction r with
  | nil => intro x post; simp [sift, insRev]
  | cons y r ih =>
    intro x post
    have e : (y :: r).reverse ++ x :: post = r.reverse ++ y :: x :: post := by simp
    have hx : (r.reverse ++ y :: x :: post)[r.length + 1]? = some x := by
      rw [List.getElem?_append_right (by simp)]; simp
    have hy : (r.reverse ++ y :: x :: post)[r.length]? = some y := by
      rw [List.getElem?_append_right (by simp)]; simp
    rw [e, List.length_cons]
    by_cases h : cf x y < 0
    · rw [sift_go hx hy h]
      have e2 : ((r.reverse ++ y :: x :: post).set (r.length + 1) y).set r.length x = r.reverse ++ x :: y :: post := by
        rw [List.set_append_right _ _ (by simp)]
        rw [List.set_append_right _ _ (by simp)]
        simp
      rw [e2, ih]
      simp [insRev, h]
    · rw [sift_stop hx hy h]
      simp [insRev, h]
theorem insRev_length (cf : BoxV → BoxV → Int) (r : List BoxV) (x : BoxV) : (insRev cf r x).length = r.length + 1 := by
  induction r with
  | nil => rfl
  | cons y r ih => unfold insRev; split <;> simp [ih]
theorem insRev_mem (cf : BoxV → BoxV → Int) (r : List BoxV) (x z : BoxV) : z ∈ insRev cf r x ↔ z = x ∨ z ∈ r := by
  induction r with
  | nil => simp [insRev]
  | cons y r ih =>
    unfold insRev
    split
    · simp only [List.mem_cons, ih]
      constructor
      · rintro (h | h | h)
        · exact .inr (.inl h)
        · exact .inl h
        · exact .inr (.inr h)
      · rintro (h | h | h)
        · exact .inr (.inl h)
        · exact .inl h
        · exact .inr (.inr h)
    · simp only [List.mem_cons]
def insAll (cf : BoxV → BoxV → Int) (q : List BoxV) : List BoxV := q.foldl (insRev cf) []
theorem insAll_snoc (cf : BoxV → BoxV → Int) (q : List BoxV) (x : BoxV) : insAll cf (q ++ [x]) = insRev cf (insAll cf q) x := by unfold insAll; rw [List.foldl_append]; rfl
theorem insAll_length (cf : BoxV → BoxV → Int) (q : List BoxV) : (insAll cf q).length = q.length := by
  have : ∀ (q : List BoxV) (r : List BoxV), (q.foldl (insRev cf) r).length = r.length + q.length := by
    intro q
    induction q with
    | nil => intro r; simp
    | cons x q ih => intro r; rw [List.foldl_cons, ih, insRev_length, List.length_cons]; omega
  unfold insAll; rw [this]; simp
theorem insAll_mem (cf : BoxV → BoxV → Int) (q : List BoxV) (z : BoxV) : z ∈ insAll cf q ↔ z ∈ q := by
  have : ∀ (q : List BoxV) (r : List BoxV), z ∈ q.foldl (insRev cf) r ↔ z ∈ r ∨ z ∈ q := by
    intro q
    induction q with
    | nil => intro r; simp
    | cons x q ih =>
      intro r
      rw [List.foldl_cons, ih, insRev_mem, List.mem_cons]
      constructor
      · rintro ((h | h) | h)
        · exact .inr (.inl h)
        · exact .inl h
        · exact .inr (.inr h)
      · rintro (h | h | h)
        · exact .inl (.inr h)
        · exact .inl (.inl h)
        · exact .inr h
  unfold insAll; rw [this]; simp
theorem insTo_all (cf : BoxV → BoxV → Int) (q : List BoxV) : ∀ k, k < q.length → insTo cf q k = (insAll cf (q.take (k + 1))).reverse ++ q.drop (k + 1) := by
  intro k
  induction k with
  | zero =>
    intro h
    cases q with
    | nil => simp at h
    | cons x q => simp [insTo, insAll, insRev]
  | succ k ih =>
    intro h
    have hx : q[k + 1]? = some q[k + 1] := List.getElem?_eq_getElem h
    rw [insTo, ih (by omega), List.drop_eq_getElem_cons h, take_next hx, insAll_snoc]
    have hl : (insAll cf (q.take (k + 1))).length = k + 1 := by rw [insAll_length, List.length_take]; omega
    have := sift_ins cf (insAll cf (q.take (k + 1))) q[k + 1] (q.drop (k + 1 + 1))
    rw [hl] at this
    exact this
theorem insS_all (cf : BoxV → BoxV → Int) (q : List BoxV) : insS cf q = (insAll cf q).reverse := by
  unfold insS
  cases q with
  | nil => rfl
  | cons x q =>
    rw [insTo_all cf (x :: q) _ (by simp)]
    rw [List.take_of_length_le (by simp), List.drop_eq_nil_of_le (by simp), List.append_nil]
theorem insRev_sorted {cf : BoxV → BoxV → Int} {x : BoxV} : ∀ r : List BoxV, (∀ y ∈ r, (cf x y < 0 ↔ keyB x < keyB y) ∧ keyB x ≠ keyB y) → r.Pairwise (fun a b => keyB b < keyB a) → (insRev cf r x).Pairwise (fun a b => keyB b < keyB a) := by
  intro r
  induction r with
  | nil => intro _ _; simp [insRev]
  | cons y r ih =>
    intro h hp
    obtain ⟨hy, hr⟩ := List.pairwise_cons.1 hp
    obtain ⟨h1, h2⟩ := h y (by simp)
    unfold insRev
    split
    · next hc =>
      refine List.pairwise_cons.2 ⟨fun z hz => ?_, ih (fun z hz => h z (List.mem_cons_of_mem _ hz)) hr⟩
      rcases (insRev_mem cf r x z).1 hz with rfl | hz
      · exact h1.1 hc
      · exact hy z hz
    · next hc =>
      have hyx : keyB y < keyB x := by
        have : ¬ keyB x < keyB y := fun a => hc (h1.2 a)
        omega
      refine List.pairwise_cons.2 ⟨fun z hz => ?_, hp⟩
      rcases List.mem_cons.1 hz with rfl | hz
      · exact hyx
      · have := hy z hz; omega
theorem insAll_sorted {l : List BoxV} (h : BV l) : ∀ k, (insAll cfB (l.take k)).Pairwise (fun a b => keyB b < keyB a) := by
  intro k
  induction k with
  | zero => simp [insAll]
  | succ k ih =>
    by_cases hk : k < l.length
    · have hx : l[k]? = some l[k] := List.getElem?_eq_getElem hk
      rw [take_next hx, insAll_snoc]
      refine insRev_sorted _ (fun y hy => ?_) ih
      have hy' := (insAll_mem cfB (l.take k) y).1 hy
      have hyl := List.mem_of_mem_take hy'
      refine ⟨cfB_key (h.ok _ (List.getElem_mem hk)) (h.ok _ hyl), fun e => ?_⟩
      have he := keyB_id (h.ok _ (List.getElem_mem hk)) (h.ok _ hyl) e
      obtain ⟨j, hj⟩ := List.getElem?_of_mem hy'
      rw [List.getElem?_take] at hj
      split at hj
      · next hjk => have := h.one j k _ _ hj hx he.symm; omega
      · cases hj
    · rw [List.take_of_length_le (by omega)]
      rwa [List.take_of_length_le (by omega)] at ih
/-- The boxes in the order in which they are loaded. -/
def ordB (l : List BoxV) : List BoxV := insS cfB l
theorem ordB_sorted {l : List BoxV} (h : BV l) : (ordB l).Pairwise (fun a b => keyB a < keyB b) := by
  unfold ordB
  rw [insS_all, List.pairwise_reverse]
  have := insAll_sorted h l.length
  rwa [List.take_of_length_le (Nat.le_refl _)] at this
theorem ordB_mem (l : List BoxV) (z : BoxV) : z ∈ ordB l ↔ z ∈ l := by unfold ordB; rw [insS_all, List.mem_reverse, insAll_mem]
theorem ordB_length (l : List BoxV) : (ordB l).length = l.length := by unfold ordB; rw [insS_all, List.length_reverse, insAll_length]
def fillS (l : List BoxV) : List Int := if bvS l = true then (ordB l).map (fun x => x.id) else []
theorem fillS_no {l : List BoxV} (h : bvS l = false) : fillS l = [] := by unfold fillS; rw [if_neg (by rw [h]; simp)]
theorem fillS_yes {l : List BoxV} (h : bvS l = true) : fillS l = (ordB l).map (fun x => x.id) := by unfold fillS; rw [if_pos h]
theorem fillS_short (l : List BoxV) : (fillS l).length ≤ 10 := by
  unfold fillS
  split
  · next h => rw [List.length_map, ordB_length]; exact (bvS_spec h).len
  · simp
theorem ordB_lt {l : List BoxV} (h : BV l) {i j : Nat} {x y : BoxV} (hi : (ordB l)[i]? = some x) (hj : (ordB l)[j]? = some y) (hij : i < j) : keyB x < keyB y := by
  obtain ⟨i1, rfl⟩ := List.getElem?_eq_some_iff.1 hi
  obtain ⟨j1, rfl⟩ := List.getElem?_eq_some_iff.1 hj
  exact (List.pairwise_iff_getElem.1 (ordB_sorted h)) i j i1 j1 hij
theorem ordB_one {l : List BoxV} (h : BV l) {i j : Nat} {x y : BoxV} (hi : (ordB l)[i]? = some x) (hj : (ordB l)[j]? = some y) (e : x.id = y.id) : i = j := by
  have hx := (ordB_mem l x).1 (List.mem_of_getElem? hi)
  have hy := (ordB_mem l y).1 (List.mem_of_getElem? hj)
  have := h.eq_of hx hy e
  subst this
  rcases Nat.lt_trichotomy i j with h1 | h1 | h1
  · have := ordB_lt h hi hj h1; omega
  · exact h1
  · have := ordB_lt h hj hi h1; omega

/-! The reference takes the first of those that are left. -/
def Sel (l : List BoxV) (out : List Int) (j : Nat) (v : Int) : Prop :=
  (v = -1 ∧ ∀ (i : Nat) (x : BoxV), i < j → l[i]? = some x → x.id ∈ out) ∨ (∃ (m : Nat) (y : BoxV), v = (m : Int) ∧ m < j ∧ l[m]? = some y ∧ y.id ∉ out ∧ ∀ (i : Nat) (z : BoxV), i < j → l[i]? = some z → z.id ∉ out → keyB y ≤ keyB z)
theorem Sel.start (l : List BoxV) (out : List Int) : Sel l out 0 (-1) := .inl ⟨rfl, fun i x hi => by omega⟩
section
variable {l : List BoxV} {out : List Int} {j : Nat} {v : Int} {x : BoxV}
theorem Sel.skip (h : Sel l out j v) (hx : l[j]? = some x) (ho : x.id ∈ out) : Sel l out (j + 1) v := by
  rcases h with ⟨h1, h2⟩ | ⟨m, y, h1, h2, h3, h4, h5⟩
  · refine .inl ⟨h1, fun i z hi hz => ?_⟩
    by_cases e : i = j
    · subst e; rw [hx] at hz; injection hz with hz; subst hz; exact ho
    · exact h2 i z (by omega) hz
  · refine .inr ⟨m, y, h1, by omega, h3, h4, fun i z hi hz hn => ?_⟩
    by_cases e : i = j
    · subst e; rw [hx] at hz; injection hz with hz; subst hz; exact absurd ho hn
    · exact h5 i z (by omega) hz hn
theorem Sel.first (h : Sel l out j v) (hx : l[j]? = some x) (ho : x.id ∉ out) (hv : v < 0) : Sel l out (j + 1) j := by
  rcases h with ⟨h1, h2⟩ | ⟨m, y, h1, h2, h3, h4, h5⟩
  · refine .inr ⟨j, x, rfl, by omega, hx, ho, fun i z hi hz hn => ?_⟩
    by_cases e : i = j
    · subst e; rw [hx] at hz; injection hz with hz; subst hz; omega
    · exact absurd (h2 i z (by omega) hz) hn
  · omega
theorem Sel.at_ (h : Sel l out j v) (hv : ¬ v < 0) : ∃ (m : Nat) (y : BoxV), v = (m : Int) ∧ m < j ∧ l[m]? = some y := by
  rcases h with ⟨h1, h2⟩ | ⟨m, y, h1, h2, h3, h4, h5⟩
  · omega
  · exact ⟨m, y, h1, h2, h3⟩
theorem Sel.better {m : Nat} {y : BoxV} (h : Sel l out j (m : Int)) (hx : l[j]? = some x) (ho : x.id ∉ out) (hy : l[m]? = some y) (hk : keyB x < keyB y) : Sel l out (j + 1) j := by
  rcases h with ⟨h1, h2⟩ | ⟨m', y', h1, h2, h3, h4, h5⟩
  · omega
  · obtain rfl : m = m' := by omega
    rw [hy] at h3
    injection h3 with h3
    subst h3
    refine .inr ⟨j, x, rfl, by omega, hx, ho, fun i z hi hz hn => ?_⟩
    by_cases e : i = j
    · subst e; rw [hx] at hz; injection hz with hz; subst hz; omega
    · have := h5 i z (by omega) hz hn; omega
theorem Sel.stay {m : Nat} {y : BoxV} (h : Sel l out j (m : Int)) (hx : l[j]? = some x) (hy : l[m]? = some y) (hk : ¬ keyB x < keyB y) : Sel l out (j + 1) m := by
  rcases h with ⟨h1, h2⟩ | ⟨m', y', h1, h2, h3, h4, h5⟩
  · omega
  · obtain rfl : m = m' := by omega
    rw [hy] at h3
    injection h3 with h3
    subst h3
    refine .inr ⟨m, y, rfl, by omega, hy, h4, fun i z hi hz hn => ?_⟩
    by_cases e : i = j
    · subst e; rw [hx] at hz; injection hz with hz; subst hz; omega
    · exact h5 i z (by omega) hz hn
end
theorem Sel.end_ {l : List BoxV} (hb : BV l) {k : Nat} {v : Int} (h : Sel l (((ordB l).take k).map (fun x => x.id)) l.length v) (hk : k < l.length) : ∃ (m : Nat) (y : BoxV), v = (m : Int) ∧ m < l.length ∧ l[m]? = some y ∧ (ordB l)[k]? = some y := by
  have hks : k < (ordB l).length := by rw [ordB_length]; exact hk
  have hx : (ordB l)[k]? = some (ordB l)[k] := List.getElem?_eq_getElem hks
  obtain ⟨n, hn⟩ := List.getElem?_of_mem ((ordB_mem l _).1 (List.getElem_mem hks))
  have hnl := (List.getElem?_eq_some_iff.1 hn).1
  have hno : ((ordB l)[k]).id ∉ ((ordB l).take k).map (fun x => x.id) := by
    intro hm
    obtain ⟨z, hz, he⟩ := List.mem_map.1 hm
    obtain ⟨i, hi⟩ := List.getElem?_of_mem hz
    rw [List.getElem?_take] at hi
    split at hi
    · next hik => have := ordB_one hb hi hx he; omega
    · cases hi
  rcases h with ⟨h1, h2⟩ | ⟨m, y, h1, h2, h3, h4, h5⟩
  · exact absurd (h2 n _ hnl hn) hno
  · refine ⟨m, y, h1, h2, h3, ?_⟩
    have hle := h5 n _ hnl hn hno
    obtain ⟨i, hi⟩ := List.getElem?_of_mem ((ordB_mem l y).2 (List.mem_of_getElem? h3))
    rcases Nat.lt_trichotomy i k with h6 | h6 | h6
    · exfalso
      apply h4
      refine List.mem_map.2 ⟨y, ?_, rfl⟩
      exact List.mem_of_getElem? (i := i) (by rw [List.getElem?_take, if_pos h6]; exact hi)
    · rw [← h6]; exact hi
    · have := ordB_lt hb hx hi h6; omega
end Go.Proofs.Ytphncbnnnickhaa
