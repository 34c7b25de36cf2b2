/- The weight of each row, of the program and of the reference. -/
import Derived.Test.YtphncbnnnickhaaPut
namespace Go.Proofs.Ytphncbnnnickhaa
open Go.RowKit
set_option linter.unusedVariables false
set_option linter.unusedSimpArgs false

/-- The weight of the box with an id; 0 for none. -/
def wt (l : List BoxV) (id : Int) : Int := if id = 0 then 0 else match l[(atTo l id l.length).toNat]? with
  | some x => x.weight
  | none => 0
def wtAt (l : List BoxV) (pl : List Int) (k : Nat) : Int := wt l (pl[k]?.getD 0)
/-- The weight of row s, of the first k slots. -/
def sumTo (l : List BoxV) (t : Nat) (pl : List Int) (s : Nat) : Nat → Int
  | 0 => 0
  | k + 1 => sumTo l t pl s k + if k / t = s then wtAt l pl k else 0
def segTo (l : List BoxV) (pl : List Int) (a : Nat) : Nat → Int
  | 0 => 0
  | j + 1 => segTo l pl a j + wtAt l pl (a + j)
def rowsTo (l : List BoxV) (t : Nat) (pl : List Int) (m k : Nat) : List Int := (List.range m).map fun s => sumTo l t pl s k
/-- How many rows, how many tiers. -/
def rowsV (h : HullV) : Nat := (h.bays * h.rows).toNat
def tiersV (h : HullV) : Nat := h.tiers.toNat
def rowsS (h : HullV) (l : List BoxV) (pl : List Int) : List Int := if pvS h l pl = true then rowsTo l (tiersV h) pl (rowsV h) pl.length else []
theorem hull_nat {h : HullV} (hk : hullOk h) : h.tiers = (tiersV h : Int) ∧ h.bays * h.rows = (rowsV h : Int) ∧ slotsV h = rowsV h * tiersV h ∧ 1 ≤ tiersV h ∧ tiersV h ≤ 3 ∧ 1 ≤ rowsV h ∧ rowsV h ≤ 12 := by
  refine hull_ways (P := fun h => h.tiers = (tiersV h : Int) ∧ h.bays * h.rows = (rowsV h : Int) ∧ slotsV h = rowsV h * tiersV h ∧ 1 ≤ tiersV h ∧ tiersV h ≤ 3 ∧ 1 ≤ rowsV h ∧ rowsV h ≤ 12) h hk (fun b b1 b4 => ?_)
  unfold tiersV rowsV slotsV
  refine ⟨?_, ?_, ?_, ?_, ?_, ?_, ?_, ?_, ?_⟩ <;> (simp only; have e1 : Int.toNat 1 = 1 := rfl; have e2 : Int.toNat 2 = 2 := rfl; have e3 : Int.toNat 3 = 3 := rfl; refine ⟨?_, ?_, ?_, ?_, ?_, ?_, ?_⟩ <;> first | omega | (rw [e1]; omega) | (rw [e2]; omega) | (rw [e3]; omega))
theorem rowsTo_length (l : List BoxV) (t : Nat) (pl : List Int) (m k : Nat) : (rowsTo l t pl m k).length = m := by simp [rowsTo]
theorem rowsTo_at {l : List BoxV} {t : Nat} {pl : List Int} {m k s : Nat} (h : s < m) : (rowsTo l t pl m k)[s]? = some (sumTo l t pl s k) := by simp [rowsTo, h]
theorem rowsTo_next {l : List BoxV} {t : Nat} {pl : List Int} {m k s : Nat} (hs : k / t = s) (h : s < m) : rowsTo l t pl m (k + 1) = (rowsTo l t pl m k).set s (sumTo l t pl s k + wtAt l pl k) := by
  apply List.ext_getElem?
  intro i
  by_cases hi : i < m
  · rw [rowsTo_at hi]
    by_cases e : s = i
    · subst e
      rw [List.getElem?_set_self (by rw [rowsTo_length]; exact h)]
      show some (sumTo l t pl s k + if k / t = s then _ else _) = _
      rw [if_pos hs]
    · rw [List.getElem?_set_ne e, rowsTo_at hi]
      show some (sumTo l t pl i k + if k / t = i then _ else _) = _
      rw [if_neg (by omega)]
      simp
  · rw [List.getElem?_eq_none (by rw [rowsTo_length]; omega), List.getElem?_eq_none (by rw [List.length_set, rowsTo_length]; omega)]
theorem sum_seg (l : List BoxV) (t : Nat) (pl : List Int) (s : Nat) (ht : 0 < t) : ∀ k, (k ≤ s * t → sumTo l t pl s k = 0) ∧ (∀ j, k = s * t + j → j ≤ t → sumTo l t pl s k = segTo l pl (s * t) j) ∧ (s * t + t ≤ k → sumTo l t pl s k = segTo l pl (s * t) t) := by
  have hd : ∀ k, k / t = s ↔ s * t ≤ k ∧ k < s * t + t := by
    intro k
    rw [Nat.div_eq_iff ht]
    constructor
    · rintro ⟨a, b⟩
      have e1 : t * s = s * t := Nat.mul_comm _ _
      omega
    · rintro ⟨a, b⟩
      have e1 : t * s = s * t := Nat.mul_comm _ _
      omega
  intro k
  induction k with
  | zero =>
    refine ⟨fun _ => rfl, fun j hj hjt => ?_, fun hk => by omega⟩
    obtain rfl : j = 0 := by omega
    rfl
  | succ k ih =>
    obtain ⟨i1, i2, i3⟩ := ih
    refine ⟨fun hk => ?_, fun j hj hjt => ?_, fun hk => ?_⟩
    · show sumTo l t pl s k + (if k / t = s then _ else _) = 0
      rw [if_neg (by rw [hd]; omega), i1 (by omega)]; rfl
    · show sumTo l t pl s k + (if k / t = s then _ else _) = _
      cases j with
      | zero => rw [if_neg (by rw [hd]; omega), i1 (by omega)]; rfl
      | succ j =>
        rw [if_pos (by rw [hd]; omega), i2 j (by omega) (by omega)]
        show _ = segTo l pl (s * t) j + wtAt l pl (s * t + j)
        rw [show s * t + j = k from by omega]
    · show sumTo l t pl s k + (if k / t = s then _ else _) = _
      by_cases e : s * t + t ≤ k
      · rw [if_neg (by rw [hd]; omega), i3 e]; simp
      · obtain ⟨j, rfl⟩ : ∃ j, t = j + 1 := ⟨t - 1, by omega⟩
        rw [if_pos (by rw [hd]; omega), i2 j (by omega) (by omega)]
        show _ = segTo l pl (s * (j + 1)) j + wtAt l pl (s * (j + 1) + j)
        rw [show s * (j + 1) + j = k from by omega]
/-- Where the boxes of a plan are known. -/
def idsOk (l : List BoxV) (pl : List Int) : Prop := ∀ (i : Nat) (id : Int), pl[i]? = some id → id = 0 ∨ (0 ≤ atTo l id l.length ∧ ∃ x, l[(atTo l id l.length).toNat]? = some x ∧ 1 ≤ x.weight ∧ x.weight ≤ 30)
theorem ids_ok {h : HullV} {l : List BoxV} {pl : List Int} (hv : pvS h l pl = true) : idsOk l pl := by
  intro i id hx
  rcases pv_id hv hx with h1 | ⟨j, x, e, hj, hi⟩
  · exact .inl h1
  · refine .inr ⟨by omega, x, by rw [e, Int.toNat_natCast]; exact hj, ?_⟩
    have := (bvS_spec (pv_of hv).2.1).ok x (mem_at hj)
    unfold boxOk at this
    omega
theorem wtAt_bd {l : List BoxV} {pl : List Int} (h : idsOk l pl) (k : Nat) : 0 ≤ wtAt l pl k ∧ wtAt l pl k ≤ 30 := by
  unfold wtAt
  cases hx : pl[k]? with
  | none => simp [wt]
  | some id =>
    show 0 ≤ wt l id ∧ wt l id ≤ 30
    unfold wt
    split
    · omega
    · next h0 =>
      rcases h k id hx with h1 | ⟨_, x, h2, h3, h4⟩
      · exact absurd h1 h0
      · rw [h2]; exact ⟨by show 0 ≤ x.weight; omega, by show x.weight ≤ 30; omega⟩
theorem sumTo_bd {l : List BoxV} {pl : List Int} (h : idsOk l pl) (t s : Nat) : ∀ k, 0 ≤ sumTo l t pl s k ∧ sumTo l t pl s k ≤ 30 * (k : Int) := by
  intro k
  induction k with
  | zero => simp [sumTo]
  | succ k ih =>
    have := wtAt_bd h k
    show 0 ≤ sumTo l t pl s k + (if k / t = s then _ else _) ∧ sumTo l t pl s k + (if k / t = s then _ else _) ≤ _
    split <;> omega
theorem segTo_bd {l : List BoxV} {pl : List Int} (h : idsOk l pl) (a : Nat) : ∀ j, 0 ≤ segTo l pl a j ∧ segTo l pl a j ≤ 30 * (j : Int) := by
  intro k
  induction k with
  | zero => simp [segTo]
  | succ k ih =>
    have := wtAt_bd h (a + k)
    show 0 ≤ segTo l pl a k + _ ∧ segTo l pl a k + _ ≤ _
    omega
theorem wt_zero (l : List BoxV) : wt l 0 = 0 := by simp [wt]
theorem wt_box {l : List BoxV} {id : Int} {x : BoxV} (h0 : id ≠ 0) (hx : l[(atTo l id l.length).toNat]? = some x) : wt l id = x.weight := by unfold wt; rw [if_neg h0, hx]
theorem wtAt_of {l : List BoxV} {pl : List Int} {k : Nat} {id : Int} (h : pl[k]? = some id) : wtAt l pl k = wt l id := by unfold wtAt; rw [h]; rfl
set_option maxHeartbeats 1600000 in
theorem weightAt_any (A : Option Addr) (l : List BoxV) (c : Nat) (id : Int) (w : World) (ha : RdBox w A l) (hl : l.length ≤ 1048576) (ho : id = 0 ∨ (0 ≤ atTo l id l.length ∧ ∃ x, l[(atTo l id l.length).toNat]? = some x ∧ 1 ≤ x.weight ∧ x.weight ≤ 30)) :
    Calls Try.prog 104 #[.slice A l.length c, .int .i64 id] w fun e w' => e = .returned (.int .i64 (wt l id)) ∧ Below w.heap.size w w' := by
  by_cases h0 : id = 0
  · subst h0
    rw [wt_zero]
    go_enter Try.func104, Try.ntmps104
    go_wp2_with fail
    go_ret
    exact ⟨rfl, Below.refl _ _⟩
  · obtain ⟨h1, x, hx, _, _⟩ : 0 ≤ atTo l id l.length ∧ ∃ x, l[(atTo l id l.length).toNat]? = some x ∧ 1 ≤ x.weight ∧ x.weight ≤ 30 := by
      rcases ho with h2 | h2
      · exact absurd h2 h0
      · exact h2
    have HB := Lib.hid (boxAt_any A l l.length c id w ha (Nat.le_refl _) hl)
    rw [wt_box h0 hx]
    obtain ⟨j, HJ⟩ : ∃ j : Nat, Hid (atTo l id l.length = j) := ⟨_, (Int.toNat_of_nonneg h1).symm⟩
    rw [HJ.out] at HB hx
    have t0 : (id == 0) = false := beq_eq_false_iff_ne.2 h0
    have hj : j < l.length := by rw [Int.toNat_natCast] at hx; exact (List.getElem?_eq_some_iff.1 hx).1
    obtain ⟨b, off, e, hb, _, hw, _⟩ := ha j x (by rw [Int.toNat_natCast] at hx; exact hx)
    subst e
    have p0 : (0 : Int) ≤ (j : Int) := by omega
    have p1 : (j : Int) < (l.length : Int) := by omega
    clear h0 h1 ho hx
    go_enter Try.func104, Try.ntmps104
    go_wp2_with fail
    refine HB.out.mono ?_
    rintro e w1 ⟨rfl, b1⟩
    have hw := (b1.cell (p := ⟨b, off + j * 5 + 1, none⟩) hb).trans hw
    go_wp2_with fail
    go_ret
    exact ⟨rfl, b1⟩
set_option maxHeartbeats 1600000 in
theorem l8Weight_any (A P : Option Addr) (l : List BoxV) (pl : List Int) (c d k : Nat) (w : World) (ha : RdBox w A l) (hl : l.length ≤ 1048576) (hp : Rd w P pl) (hpl : pl.length ≤ 1048576) (hk : k < pl.length) (ho : idsOk l pl) :
    Calls Try.prog 103 #[.slice A l.length c, .slice P pl.length d, .int .i64 k] w fun e w' => e = .returned (.int .i64 (wtAt l pl k)) ∧ w = w' := by
  obtain ⟨bp, op, id, rfl, hbp, Hid_, hid⟩ := hp.at_ (k := k) hk
  have q0 : (0 : Int) ≤ (k : Int) := by omega
  have q1 : (k : Int) < (pl.length : Int) := by omega
  rw [wtAt_of Hid_.out]
  have ho := ho k id Hid_.out
  by_cases h0 : id = 0
  · subst h0
    rw [wt_zero]
    clear ho
    go_enter Try.func103, Try.ntmps103
    go_wp2_with fail
    go_ret
    exact ⟨rfl, rfl⟩
  · obtain ⟨h1, x, hx, _, _⟩ : 0 ≤ atTo l id l.length ∧ ∃ x, l[(atTo l id l.length).toNat]? = some x ∧ 1 ≤ x.weight ∧ x.weight ≤ 30 := by
      rcases ho with h2 | h2
      · exact absurd h2 h0
      · exact h2
    have HB := Lib.hid (l2Find_any A l c id w ha hl)
    rw [wt_box h0 hx]
    obtain ⟨j, HJ⟩ : ∃ j : Nat, Hid (atTo l id l.length = j) := ⟨_, (Int.toNat_of_nonneg h1).symm⟩
    rw [HJ.out] at HB hx
    have t0 : (id == 0) = false := beq_eq_false_iff_ne.2 h0
    have hj : j < l.length := by rw [Int.toNat_natCast] at hx; exact (List.getElem?_eq_some_iff.1 hx).1
    obtain ⟨b, off, e, hb, _, hw, _⟩ := ha j x (by rw [Int.toNat_natCast] at hx; exact hx)
    subst e
    have p0 : (0 : Int) ≤ (j : Int) := by omega
    have p1 : (j : Int) < (l.length : Int) := by omega
    clear h0 h1 ho hx
    go_enter Try.func103, Try.ntmps103
    go_wp2_with fail
    refine HB.out.mono ?_
    rintro e w1 ⟨rfl, rfl⟩
    go_wp2_with fail
    go_ret
    exact ⟨rfl, rfl⟩
end Go.Proofs.Ytphncbnnnickhaa
