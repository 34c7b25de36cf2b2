/- Plain laws on shares: all lists of numbers are listed; sums; the best division. No program. -/
import Derived.Test.YtoopmikcehmpdaaShareBest
namespace Go.Proofs.Ytoopmikcehmpdaa
open Go.RowKit
set_option linter.unusedVariables false
set_option linter.unusedSimpArgs false

theorem maxL_ge {L : List Int} {x : Int} (h : x ∈ L) : x ≤ maxL L := by
  have g : ∀ (L : List Int) (b : Int), b ≤ L.foldl max b ∧ ∀ x ∈ L, x ≤ L.foldl max b := by
    intro L
    induction L with
    | nil => intro b; simp
    | cons y L ih =>
      intro b
      obtain ⟨h1, h2⟩ := ih (max b y)
      rw [List.foldl_cons]
      refine ⟨by omega, fun x hx => ?_⟩
      rcases List.mem_cons.1 hx with rfl | hx
      · omega
      · exact h2 x hx
  exact (g L (-1)).2 x h
theorem maxL_le {L : List Int} {b : Int} (h : ∀ x ∈ L, x ≤ b) (hb : -1 ≤ b) : maxL L ≤ b := by
  have g : ∀ (L : List Int) (a : Int), a ≤ b → (∀ x ∈ L, x ≤ b) → L.foldl max a ≤ b := by
    intro L
    induction L with
    | nil => intro a ha _; exact ha
    | cons y L ih =>
      intro a ha h
      rw [List.foldl_cons]
      have := h y List.mem_cons_self
      exact ih (max a y) (by omega) (fun x hx => h x (List.mem_cons_of_mem _ hx))
  exact g L (-1) hb h
theorem enum_ok : ∀ n, n < 9 → ∀ m, m < 4 → ((enumF n 0 m).all fun x => cutsV x n) = true := by decide +kernel
theorem enum_0 : ∀ n, n < 9 → ∀ m, m < 4 → (enumF n 0 m)[0]? = some (List.replicate m 0) := by decide +kernel
theorem enum_sh {l q : List Int} {m : Nat} (hv : workV l = true) (hm : m ≤ 3) (hq : q ∈ enumF l.length 0 m) : sharesOk l q = true := by
  have hn := (workV_spec hv).2
  have h1 := List.all_eq_true.1 (enum_ok l.length (by omega) m (by omega)) q hq
  have h2 := (enumF_mem hq).1
  simp [sharesOk, hv, h1, h2, hm]
theorem shareS_ok {l q : List Int} (h : sharesOk l q = true) : shareS l q = sumsTo l q (q.length + 1) := by simp [shareS, h]
theorem great_ok {l q : List Int} (h : sharesOk l q = true) : 0 ≤ greatS l q ∧ greatS l q ≤ 792 := by
  have h4 := shareS_ok h
  have hne : shareS l q ≠ [] := by
    intro e; have h := congrArg List.length e; rw [h4, sumsTo_length] at h; simp at h
  obtain ⟨z, hz⟩ := List.exists_mem_of_ne_nil _ hne
  have h5 := shareS_bd z hz
  have h6 := maxL_ge hz
  have h7 := maxL_bd (l := shareS l q) (fun x hx => shareS_bd x hx)
  unfold greatS
  omega
theorem great_nn {l q : List Int} {m : Nat} (hv : workV l = true) (hm : m ≤ 3) (hq : q ∈ enumF l.length 0 m) : 0 ≤ greatS l q ∧ greatS l q ≤ 792 :=
  great_ok (enum_sh hv hm hq)

def asc (n : Nat) : Nat → List Int → Prop
  | _, [] => True
  | a, y :: t => (a : Int) ≤ y ∧ y ≤ n ∧ asc n y.toNat t
theorem asc_mem {n : Nat} : ∀ {x : List Int} {a : Nat}, asc n a x → x ∈ enumF n a x.length := by
  intro x
  induction x with
  | nil => intro a _; simp [enumF]
  | cons y t ih =>
    intro a h
    obtain ⟨h1, h2, h3⟩ := h
    have h4 := ih h3
    simp only [List.length_cons, enumF, List.mem_flatMap, List.mem_range, List.mem_map]
    have e : a + (y.toNat - a) = y.toNat := by omega
    refine ⟨y.toNat - a, by omega, t, by rw [e]; exact h4, by rw [e]; congr 1; omega⟩
theorem asc_of {n : Nat} : ∀ (x : List Int) (a : Nat), (∀ k y, x[k]? = some y → (if k = 0 then (a : Int) else x.getD (k - 1) 0) ≤ y ∧ y ≤ n) → asc n a x := by
  intro x
  induction x with
  | nil => intro a _; trivial
  | cons y t ih =>
    intro a h
    have h0 := h 0 y rfl
    simp at h0
    refine ⟨h0.1, h0.2, ih _ fun k z hz => ?_⟩
    have h1 := h (k + 1) z (by simpa using hz)
    refine ⟨?_, h1.2⟩
    have h2 := h1.1
    cases k with
    | zero => simp at h2 ⊢; omega
    | succ k => simpa using h2
theorem cuts_mem {l q : List Int} (h : sharesOk l q = true) : q ∈ enumF l.length 0 q.length := by
  unfold sharesOk at h
  simp only [Bool.and_eq_true] at h
  have hc := cutsV_spec h.2
  refine asc_mem (asc_of q 0 fun k y hy => ?_)
  have hk := (List.getElem?_eq_some_iff.1 hy).1
  have h1 := hc k (by omega)
  unfold okCut at h1
  rw [bnd_at l.length hy] at h1
  refine ⟨?_, h1.2⟩
  have h2 := h1.1
  cases k with
  | zero => simpa [bnd] using h2
  | succ k => simpa [bnd, show k < q.length from by omega] using h2
theorem best_le {l b q : List Int} {m : Nat} (hb : bestS l m = some b) (h : sharesOk l q = true) (hm : q.length = m) : greatS l b ≤ greatS l q :=
  (firstMin_mem hb).2 q (by rw [← hm]; exact cuts_mem h)
theorem best_in {l b : List Int} {m : Nat} (hb : bestS l m = some b) : b ∈ enumF l.length 0 m := (firstMin_mem hb).1
theorem best_some (l : List Int) (m : Nat) : ∃ b, bestS l m = some b := firstMin_some (enumF_ne (Nat.zero_le _))

theorem seg_eq {l : List Int} {a b : Nat} (h : a ≤ b) : seg l a b = sumL (l.take b) - sumL (l.take a) := by
  have h1 : (l.drop a).take (b - a) = (l.take b).drop a := by rw [List.drop_take]
  have h2 := sumL_append ((l.take b).take a) ((l.take b).drop a)
  rw [List.take_append_drop, List.take_take, Nat.min_eq_left h] at h2
  unfold seg
  rw [h1]
  omega
theorem sums_total {l q : List Int} : ∀ k, (∀ i, i < k → okCut q l.length i) → sumL (sumsTo l q k) = sumL (l.take (bnd q l.length k).toNat) := by
  intro k
  induction k with
  | zero => intro _; simp [sumsTo, bnd, sumL]
  | succ k ih =>
    intro h
    have h1 := ih (fun i hi => h i (by omega))
    have h2 := h k (by omega)
    have h3 := bnd_bd (k := k) (fun i hi => h i (by omega))
    rw [sumsTo_next, sumL_append, h1, show ∀ x : Int, sumL [x] = x from fun x => by simp [sumL], seg_eq (by unfold okCut at h2; omega)]
    omega
theorem share_total {l q : List Int} (h : sharesOk l q = true) : sumL (shareS l q) = sumL l := by
  rw [shareS_ok h]
  unfold sharesOk at h
  simp only [Bool.and_eq_true] at h
  rw [sums_total _ (cutsV_spec h.2), bnd_end]
  simp
theorem sum_le {x : Int} : ∀ {L : List Int}, (∀ y ∈ L, y ≤ x) → sumL L ≤ x * (L.length : Int) := by
  intro L
  induction L with
  | nil => intro _; simp [sumL]
  | cons y L ih =>
    intro h
    have h1 := ih (fun z hz => h z (List.mem_cons_of_mem _ hz))
    have h2 := h y List.mem_cons_self
    have h3 : sumL (y :: L) = y + sumL L := by rw [show y :: L = [y] ++ L from rfl, sumL_append]; simp [sumL]
    rw [h3, List.length_cons]
    have : x * ((L.length + 1 : Nat) : Int) = x * (L.length : Int) + x := by rw [Int.natCast_add, Int.mul_add]; simp
    omega
theorem great_total {l q : List Int} (h : sharesOk l q = true) : sumL l ≤ greatS l q * ((q.length : Int) + 1) := by
  have h1 := sum_le (L := shareS l q) (x := greatS l q) (fun y hy => maxL_ge hy)
  rw [share_total h] at h1
  have h2 : (shareS l q).length = q.length + 1 := by rw [shareS_ok h, sumsTo_length]
  rw [h2] at h1
  exact_mod_cast h1
theorem pre_mono {l : List Int} (hv : ∀ x ∈ l, 0 ≤ x ∧ x ≤ 99) {a b : Nat} (h : a ≤ b) : sumL (l.take a) ≤ sumL (l.take b) := by
  have := seg_eq (l := l) h
  have := (seg_bd hv a b).1
  omega
theorem seg_has {l : List Int} (hv : ∀ x ∈ l, 0 ≤ x ∧ x ≤ 99) {a b k : Nat} {x : Int} (hx : l[k]? = some x) (h1 : a ≤ k) (h2 : k < b) : x ≤ seg l a b := by
  have e1 := seg_eq (l := l) (show a ≤ b by omega)
  have e2 := sumL_next hx
  have e3 := pre_mono hv h1
  have e4 := pre_mono hv (show k + 1 ≤ b by omega)
  omega
theorem great_bay {l q : List Int} (h : sharesOk l q = true) {k : Nat} {x : Int} (hx : l[k]? = some x) : x ≤ greatS l q := by
  have h4 := shareS_ok h
  unfold sharesOk at h
  simp only [Bool.and_eq_true] at h
  have hv := (workV_spec h.1.1).1
  have hc := cutsV_spec h.2
  have hk := (List.getElem?_eq_some_iff.1 hx).1
  have g : ∀ i, i ≤ q.length + 1 → (k : Int) < bnd q l.length i → ∃ y ∈ sumsTo l q i, x ≤ y := by
    intro i
    induction i with
    | zero => intro _ h; simp [bnd] at h; omega
    | succ i ih =>
      intro hi hlt
      rw [sumsTo_next]
      by_cases h1 : (k : Int) < bnd q l.length i
      · obtain ⟨y, hy, hxy⟩ := ih (by omega) h1
        exact ⟨y, List.mem_append_left _ hy, hxy⟩
      · have h2 := bnd_bd (k := i) (fun j hj => hc j (by omega))
        exact ⟨_, List.mem_append_right _ (List.mem_singleton.2 rfl), seg_has hv hx (by omega) (by omega)⟩
  obtain ⟨y, hy, hxy⟩ := g (q.length + 1) (Nat.le_refl _) (by rw [bnd_end]; omega)
  rw [← h4] at hy
  have := maxL_ge hy
  unfold greatS
  omega

theorem bnd_more (q : List Int) (n k : Nat) (hk : k ≤ q.length + 1) : bnd (q ++ [(n : Int)]) n k = bnd q n k := by
  cases k with
  | zero => rfl
  | succ k =>
    simp only [bnd, List.length_append, List.length_singleton]
    rw [if_pos (show k < q.length + 1 by omega)]
    by_cases h : k < q.length
    · rw [if_pos h]; simp [List.getD_eq_getElem?_getD, List.getElem?_append_left h]
    · rw [if_neg h]; obtain rfl : k = q.length := by omega
      simp [List.getD_eq_getElem?_getD]
theorem more_ok {l q : List Int} (h : sharesOk l q = true) (hq : q.length ≤ 2) : sharesOk l (q ++ [(l.length : Int)]) = true := by
  unfold sharesOk at h ⊢
  simp only [Bool.and_eq_true] at h ⊢
  have hc := cutsV_spec h.2
  refine ⟨⟨h.1.1, by simp; omega⟩, cutsV_yes fun k hk => ?_⟩
  simp at hk
  by_cases h1 : k < q.length + 1
  · have h2 := hc k h1
    unfold okCut at h2 ⊢
    rw [bnd_more _ _ _ (by omega), bnd_more _ _ _ (by omega)]
    exact h2
  · obtain rfl : k = q.length + 1 := by omega
    unfold okCut
    rw [bnd_more _ _ _ (by omega), bnd_end, show q.length + 1 + 1 = (q ++ [(l.length : Int)]).length + 1 from by simp, bnd_end]
    omega
theorem more_great {l q : List Int} (h : sharesOk l q = true) (hq : q.length ≤ 2) : greatS l (q ++ [(l.length : Int)]) = greatS l q := by
  have h1 := more_ok h hq
  unfold greatS
  rw [shareS_ok h, shareS_ok h1]
  have e : sumsTo l (q ++ [(l.length : Int)]) ((q ++ [(l.length : Int)]).length + 1) = sumsTo l q (q.length + 1) ++ [0] := by
    have e0 : (q ++ [(l.length : Int)]).length + 1 = (q.length + 1) + 1 := by simp
    rw [e0, sumsTo_next]
    congr 1
    · unfold sumsTo
      refine List.map_congr_left fun i hi => ?_
      have := List.mem_range.1 hi
      rw [bnd_more _ _ _ (by omega), bnd_more _ _ _ (by omega)]
    · rw [bnd_more _ _ _ (by omega), bnd_end, ← e0, bnd_end]
      simp [seg, sumL]
  rw [e]
  unfold maxL
  rw [List.foldl_append]
  have h2 := (great_ok h).1
  unfold greatS at h2
  rw [shareS_ok h] at h2
  unfold maxL at h2
  simp
  omega
theorem best_more {l b c : List Int} {m : Nat} (hv : workV l = true) (hm : m ≤ 2) (hb : bestS l m = some b) (hc : bestS l (m + 1) = some c) : greatS l c ≤ greatS l b := by
  have h1 := enum_sh hv (by omega) (best_in hb)
  have h2 := (enumF_mem (best_in hb)).1
  have h3 := best_le hc (more_ok h1 (by omega)) (by simp [h2])
  rw [more_great h1 (by omega)] at h3
  exact h3

/-- The last place, up to n, at which F is at most b. -/
def cutAt (F : Nat → Int) (b : Int) : Nat → Nat
  | 0 => 0
  | p + 1 => if F (p + 1) ≤ b then p + 1 else cutAt F b p
theorem cutAt_le (F : Nat → Int) (b : Int) (n : Nat) : cutAt F b n ≤ n := by
  induction n with
  | zero => exact Nat.le_refl _
  | succ n ih => unfold cutAt; split <;> omega
theorem cutAt_ok {F : Nat → Int} {b : Int} (h : F 0 ≤ b) (n : Nat) : F (cutAt F b n) ≤ b := by
  induction n with
  | zero => exact h
  | succ n ih =>
    unfold cutAt
    split
    · assumption
    · exact ih
theorem cutAt_next (F : Nat → Int) (b : Int) (n : Nat) : cutAt F b n = n ∨ b < F (cutAt F b n + 1) := by
  induction n with
  | zero => exact .inl rfl
  | succ n ih =>
    unfold cutAt
    split
    · exact .inl rfl
    · next h =>
      rcases ih with h1 | h1
      · rw [h1]; exact .inr (by omega)
      · exact .inr h1
theorem cutAt_mono (F : Nat → Int) {b c : Int} (h : b ≤ c) (n : Nat) : cutAt F b n ≤ cutAt F c n := by
  induction n with
  | zero => exact Nat.le_refl _
  | succ n ih =>
    have := cutAt_le F b n
    unfold cutAt
    split
    · rw [if_pos (by omega)]; exact Nat.le_refl _
    · split
      · omega
      · exact ih
/-- The division in equal parts, as far as whole bays go. -/
def fairF (l : List Int) (c : Nat) (p : Nat) : Int := (c : Int) * sumL (l.take p)
def fairQ (l : List Int) (c : Nat) : List Int := (List.range (c - 1)).map fun i => ((cutAt (fairF l c) (((i + 1 : Nat) : Int) * sumL l) l.length : Nat) : Int)
theorem fairQ_length (l : List Int) (c : Nat) : (fairQ l c).length = c - 1 := by simp [fairQ]
theorem fairQ_bnd (l : List Int) (c k : Nat) (hk : k ≤ c - 1) (hv : ∀ x ∈ l, 0 ≤ x ∧ x ≤ 99) (hT : 0 < k) : bnd (fairQ l c) l.length k = (cutAt (fairF l c) ((k : Int) * sumL l) l.length : Nat) := by
  cases k with
  | zero => omega
  | succ k => simp [bnd, fairQ_length, show k < c - 1 from by omega, fairQ, List.getD_eq_getElem?_getD]
theorem fair_0 (l : List Int) (c : Nat) : fairF l c 0 = 0 := by simp [fairF, sumL]
theorem fair_lo {l : List Int} (hv : ∀ x ∈ l, 0 ≤ x ∧ x ≤ 99) {c k : Nat} (hc : 1 ≤ c) (hk : k ≤ c) {most : Int} (hm : ∀ x ∈ l, x ≤ most) (h0 : 0 ≤ most) : (k : Int) * sumL l ≤ fairF l c (cutAt (fairF l c) ((k : Int) * sumL l) l.length) + (c : Int) * most := by
  have hS := (sumL_bd hv).1
  have hcm : 0 ≤ (c : Int) * most := Int.mul_nonneg (by omega) h0
  rcases cutAt_next (fairF l c) ((k : Int) * sumL l) l.length with h | h
  · rw [h]
    have h1 : fairF l c l.length = (c : Int) * sumL l := by simp [fairF]
    have h2 : (k : Int) * sumL l ≤ (c : Int) * sumL l := Int.mul_le_mul_of_nonneg_right (by omega) hS
    omega
  · generalize hp : cutAt (fairF l c) ((k : Int) * sumL l) l.length = p at h ⊢
    have hpl : p ≤ l.length := by rw [← hp]; exact cutAt_le _ _ _
    by_cases hlt : p < l.length
    · have h1 := sumL_next (List.getElem?_eq_getElem hlt)
      have h2 := hm _ (List.getElem_mem hlt)
      have h3 : fairF l c (p + 1) ≤ fairF l c p + (c : Int) * most := by
        unfold fairF
        rw [h1, Int.mul_add]
        have := Int.mul_le_mul_of_nonneg_left h2 (show (0 : Int) ≤ (c : Int) by omega)
        omega
      omega
    · obtain rfl : p = l.length := by omega
      have h1 : fairF l c (l.length + 1) = fairF l c l.length := by unfold fairF; rw [List.take_of_length_le (Nat.le_succ _), List.take_length]
      omega
theorem fair_ok {l : List Int} {c : Nat} (hv : workV l = true) (hc : 1 ≤ c) (hc4 : c ≤ 4) : sharesOk l (fairQ l c) = true := by
  have hw := (workV_spec hv).1
  have hS := (sumL_bd hw).1
  unfold sharesOk
  simp only [Bool.and_eq_true]
  refine ⟨⟨hv, by simp [fairQ_length]; omega⟩, cutsV_yes fun k hk => ?_⟩
  rw [fairQ_length] at hk
  unfold okCut
  have hend : bnd (fairQ l c) l.length (c - 1 + 1) = l.length := by rw [← fairQ_length l c]; exact bnd_end _ _
  by_cases h1 : k + 1 ≤ c - 1
  · rw [fairQ_bnd l c (k + 1) h1 hw (by omega)]
    have h2 := cutAt_le (fairF l c) (((k + 1 : Nat) : Int) * sumL l) l.length
    refine ⟨?_, by omega⟩
    by_cases h3 : 0 < k
    · rw [fairQ_bnd l c k (by omega) hw h3]
      have h4 := cutAt_mono (fairF l c) (show (k : Int) * sumL l ≤ ((k + 1 : Nat) : Int) * sumL l from Int.mul_le_mul_of_nonneg_right (by omega) hS) l.length
      omega
    · obtain rfl : k = 0 := by omega
      rw [bnd_0]; omega
  · obtain rfl : k = c - 1 := by omega
    rw [hend]
    refine ⟨?_, by omega⟩
    by_cases h3 : 0 < c - 1
    · rw [fairQ_bnd l c _ (Nat.le_refl _) hw h3]
      have h2 := cutAt_le (fairF l c) (((c - 1 : Nat) : Int) * sumL l) l.length
      omega
    · rw [show c - 1 = 0 from by omega, bnd_0]; omega
theorem fair_great {l : List Int} {c : Nat} (hv : workV l = true) (hc : 1 ≤ c) (hc4 : c ≤ 4) {most : Int} (hm : ∀ x ∈ l, x ≤ most) (h0 : 0 ≤ most) : (c : Int) * greatS l (fairQ l c) ≤ sumL l + (c : Int) * most := by
  have hw := (workV_spec hv).1
  have hS := (sumL_bd hw).1
  have hok := fair_ok hv hc hc4
  have hbd := cutsV_spec (show cutsV (fairQ l c) l.length = true by unfold sharesOk at hok; simp only [Bool.and_eq_true] at hok; exact hok.2)
  have hcm : 0 ≤ (c : Int) * most := Int.mul_nonneg (by omega) h0
  have each : ∀ y ∈ shareS l (fairQ l c), (c : Int) * y ≤ sumL l + (c : Int) * most := by
    intro y hy
    rw [shareS_ok hok] at hy
    unfold sumsTo at hy
    rw [List.mem_map] at hy
    obtain ⟨k, hk, rfl⟩ := hy
    rw [List.mem_range] at hk
    have hk2 := hk
    rw [fairQ_length] at hk2
    have b1 := hbd k hk
    have b0 := bnd_bd (k := k) (fun j hj => hbd j (by omega))
    unfold okCut at b1
    rw [seg_eq (by omega), Int.mul_sub]
    have lo : (k : Int) * sumL l ≤ (c : Int) * sumL (l.take (bnd (fairQ l c) l.length k).toNat) + (c : Int) * most := by
      by_cases h3 : 0 < k
      · rw [fairQ_bnd l c k (by omega) hw h3]
        exact fair_lo hw hc (by omega) hm h0
      · obtain rfl : k = 0 := by omega
        rw [bnd_0]
        simp [sumL]
        exact hcm
    have hi : (c : Int) * sumL (l.take (bnd (fairQ l c) l.length (k + 1)).toNat) ≤ ((k + 1 : Nat) : Int) * sumL l := by
      by_cases h3 : k + 1 ≤ c - 1
      · rw [fairQ_bnd l c (k + 1) h3 hw (by omega)]
        exact cutAt_ok (F := fairF l c) (by rw [fair_0]; exact Int.mul_nonneg (by omega) hS) l.length
      · obtain rfl : k = c - 1 := by omega
        have hend : bnd (fairQ l c) l.length (c - 1 + 1) = l.length := by rw [← fairQ_length l c]; exact bnd_end _ _
        rw [hend]
        simp
        rw [show c - 1 + 1 = c from by omega] at *
        have : (((c - 1 : Nat) : Int) + 1) = (c : Int) := by omega
        rw [this]
        exact Int.le_refl _
    have e : ((k + 1 : Nat) : Int) * sumL l = (k : Int) * sumL l + sumL l := by rw [Int.natCast_add, Int.add_mul]; simp
    omega
  have hne : shareS l (fairQ l c) ≠ [] := by
    intro e; have h := congrArg List.length e; rw [shareS_ok hok, sumsTo_length] at h; simp at h
  have hmax : greatS l (fairQ l c) ∈ shareS l (fairQ l c) := by
    have g : ∀ (L : List Int) (a : Int), L.foldl max a ∈ L ∨ L.foldl max a = a := by
      intro L
      induction L with
      | nil => intro a; exact .inr rfl
      | cons y L ih =>
        intro a
        rw [List.foldl_cons]
        rcases ih (max a y) with h | h
        · exact .inl (List.mem_cons_of_mem _ h)
        · rw [h]
          rcases Int.le_total a y with h1 | h1
          · rw [Int.max_eq_right h1]; exact .inl List.mem_cons_self
          · rw [Int.max_eq_left h1]; exact .inr rfl
    rcases g (shareS l (fairQ l c)) (-1) with h | h
    · exact h
    · have := (great_ok hok).1
      unfold greatS maxL at this
      omega
  exact each _ hmax
theorem best_fair {l b : List Int} {c : Nat} (hv : workV l = true) (hc : 1 ≤ c) (hc4 : c ≤ 4) (hb : bestS l (c - 1) = some b) {most : Int} (hm : ∀ x ∈ l, x ≤ most) (h0 : 0 ≤ most) : (c : Int) * greatS l b ≤ sumL l + (c : Int) * most := by
  have h1 := best_le hb (fair_ok hv hc hc4) (fairQ_length l c)
  have h2 := fair_great hv hc hc4 hm h0
  have h3 := Int.mul_le_mul_of_nonneg_left h1 (show (0 : Int) ≤ (c : Int) by omega)
  omega
end Go.Proofs.Ytoopmikcehmpdaa
