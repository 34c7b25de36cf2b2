/- PlanEmpty of the program and of the reference; PlanPut of the reference. -/
import Derived.Test.YtphncbnnnickhaaNext
namespace Go.Proofs.Ytphncbnnnickhaa
open Go.RowKit
set_option linter.unusedVariables false
set_option linter.unusedSimpArgs false

theorem zeros1 (n : Nat) : (madeCells (Value.int .i64 0).cells n).toList = (List.replicate n (0 : Int)).map (Value.int .i64) := by
  apply List.ext_getElem
  · simp [size_madeCells]
  · intro i h1 h2
    have hm : i % 1 = 0 := by omega
    simp [madeCells, Value.cells, hm]
def zeros (n : Nat) : List Int := List.replicate n 0
def emptyS (h : HullV) : List Int := if hullOk h then zeros (slotsV h) else []
theorem zeros_length (n : Nat) : (zeros n).length = n := by simp [zeros]
/-- New memory that reads as so many zeros. -/
def GotZeros (n : Nat) (w : World) (e : Ending) (w' : World) : Prop := ∃ g, e = .returned (.slice (some ⟨g, 0, none⟩) n n) ∧ w'.ownsRow w.heap.size 3 1 (.slice (some ⟨g, 0, none⟩) n n) n ((zeros n).map (Value.int .i64)) ∧ Below w.heap.size w w'
/-- New memory, of which the room is known. -/
def RowPost (L : List Int) (w : World) (e : Ending) (w' : World) : Prop := ∃ A c, e = .returned (.slice A L.length c) ∧ L.length ≤ c ∧ w'.ownsRow w.heap.size 3 1 (.slice A L.length c) L.length (L.map (Value.int .i64)) ∧ Below w.heap.size w w'
set_option maxHeartbeats 1600000 in
theorem empty_impl (h : HullV) (w : World) (hk : hullOk h) :
    Calls Try.prog 49 #[.agg #[.int .i64 h.bays, .int .i64 h.rows, .int .i64 h.tiers]] w (GotZeros (slotsV h) w) := by
  obtain ⟨i0, hi, hz0, hz1, hz2⟩ := info_parts info_int
  have HV := Lib.hid (fun W => hv_t _ (hv_impl h W) hk)
  have HM := Lib.hid (fun W => slots_any h W hk)
  have hs := (slots_bd hk).2
  obtain ⟨n, hn⟩ : ∃ n, slotsV h = n := ⟨_, rfl⟩
  rw [hn] at HM hs ⊢
  clear hn hk
  have kx := Blk.new w 36 #[.int .i64 h.bays, .int .i64 h.rows, .int .i64 h.tiers]
  have B0 := below_one (w := w) (.cells #[.int .i64 h.bays, .int .i64 h.rows, .int .i64 h.tiers] 36)
  go_enter Try.func49, Try.ntmps49
  go_wp2_with fail
  refine (HV.out _).mono ?_
  rintro e w1 ⟨rfl, b1⟩
  have k1 := kx.below b1 kx.lt
  have c0 := k1.cell 0
  have c1 := k1.cell 1
  have c2 := k1.cell 2
  simp only [List.getElem?_toArray, List.getElem?_cons_zero, List.getElem?_cons_succ] at c0 c1 c2
  have B1 := B0.trans (b1.mono B0.size)
  clear kx B0 b1
  go_wp2_with fail
  refine (HM.out _).mono ?_
  rintro e w2 ⟨rfl, b2⟩
  have B2 := B1.trans (b2.mono B1.size)
  clear c0 c1 c2 B1 b2 k1
  go_wp2_with (at_make; refine wpList_make_full _ rfl _ _ 24 rfl w.heap.size 3 i0 (.int .i64 0) 1 Try.underlying24 hi hz0 hz1 .i64 .i64 _ _ n rfl rfl rfl rfl ?c1 ?c2 B2.size ?_)
  case c1 => rw [hz2]; omega
  case c2 => unfold maxLen; omega
  intro w3 hrow hg1
  have HB := Lib.hid (B2.trans ((below_grown hg1).mono B2.size))
  have HO : Hid (w3.ownsRow w.heap.size 3 1 (.slice (some ⟨w2.heap.size, 0, none⟩) n n) n ((zeros n).map (Value.int .i64))) := by
    have e : (madeCells #[Value.int .i64 0] n).toList = (zeros n).map (Value.int .i64) := zeros1 n
    have hr := hrow
    rw [e] at hr
    exact hr
  clear hrow hg1
  go_wp2_with fail
  go_ret
  exact ⟨_, rfl, HO.out, HB.out⟩
set_option maxHeartbeats 1600000 in
theorem empty_spec (h : HullV) (w : World) (hk : hullOk h) :
    Calls Try.prog 46 #[.agg #[.int .i64 h.bays, .int .i64 h.rows, .int .i64 h.tiers]] w (GotZeros (slotsV h) w) := by
  obtain ⟨i0, hi, hz0, hz1, hz2⟩ := info_parts info_int
  have HV := Lib.hid (fun W => hv_t _ (hv_spec h W) hk)
  have HM := Lib.hid (fun W => many_spec h W hk)
  have hs := (slots_bd hk).2
  obtain ⟨n, hn⟩ : ∃ n, slotsV h = n := ⟨_, rfl⟩
  rw [hn] at HM hs ⊢
  clear hn hk
  have kx := Blk.new w 36 #[.int .i64 h.bays, .int .i64 h.rows, .int .i64 h.tiers]
  have B0 := below_one (w := w) (.cells #[.int .i64 h.bays, .int .i64 h.rows, .int .i64 h.tiers] 36)
  go_enter Try.func46, Try.ntmps46
  go_wp2_with fail
  refine (HV.out _).mono ?_
  rintro e w1 ⟨rfl, b1⟩
  have k1 := kx.below b1 kx.lt
  have c0 := k1.cell 0
  have c1 := k1.cell 1
  have c2 := k1.cell 2
  simp only [List.getElem?_toArray, List.getElem?_cons_zero, List.getElem?_cons_succ] at c0 c1 c2
  have B1 := B0.trans (b1.mono B0.size)
  clear kx B0 b1
  go_wp2_with fail
  refine (HM.out _).mono ?_
  rintro e w2 ⟨rfl, b2⟩
  have B2 := B1.trans (b2.mono B1.size)
  clear c0 c1 c2 B1 b2 k1
  go_wp2_with (at_make; refine wpList_make_full _ rfl _ _ 24 rfl w.heap.size 3 i0 (.int .i64 0) 1 Try.underlying24 hi hz0 hz1 .i64 .i64 _ _ n rfl rfl rfl rfl ?c1 ?c2 B2.size ?_)
  case c1 => rw [hz2]; omega
  case c2 => unfold maxLen; omega
  intro w3 hrow hg1
  have HB := Lib.hid (B2.trans ((below_grown hg1).mono B2.size))
  have HO : Hid (w3.ownsRow w.heap.size 3 1 (.slice (some ⟨w2.heap.size, 0, none⟩) n n) n ((zeros n).map (Value.int .i64))) := by
    have e : (madeCells #[Value.int .i64 0] n).toList = (zeros n).map (Value.int .i64) := zeros1 n
    have hr := hrow
    rw [e] at hr
    exact hr
  clear hrow hg1
  go_wp2_with fail
  go_ret
  exact ⟨_, rfl, HO.out, HB.out⟩
set_option maxHeartbeats 800000 in
theorem empty_impl_no (h : HullV) (w : World) (hk : ¬ hullOk h) :
    Calls Try.prog 49 #[.agg #[.int .i64 h.bays, .int .i64 h.rows, .int .i64 h.tiers]] w fun e w' => e = .returned (.slice none 0 0) ∧ Below w.heap.size w w' := by
  have HV := Lib.hid (fun W => hv_f _ (hv_impl h W) hk)
  have B0 := below_one (w := w) (.cells #[.int .i64 h.bays, .int .i64 h.rows, .int .i64 h.tiers] 36)
  clear hk
  go_enter Try.func49, Try.ntmps49
  go_wp2_with fail
  refine (HV.out _).mono ?_
  rintro e w1 ⟨rfl, b1⟩
  go_wp2_with fail
  go_ret
  exact ⟨rfl, B0.trans (b1.mono B0.size)⟩
set_option maxHeartbeats 800000 in
theorem empty_spec_no (h : HullV) (w : World) (hk : ¬ hullOk h) :
    Calls Try.prog 46 #[.agg #[.int .i64 h.bays, .int .i64 h.rows, .int .i64 h.tiers]] w (RowPost [] w) := by
  have HV := Lib.hid (fun W => hv_f _ (hv_spec h W) hk)
  have B0 := below_one (w := w) (.cells #[.int .i64 h.bays, .int .i64 h.rows, .int .i64 h.tiers] 36)
  clear hk
  go_enter Try.func46, Try.ntmps46
  go_wp2_with fail
  refine (HV.out _).mono ?_
  rintro e w1 ⟨rfl, b1⟩
  have B1 := B0.trans (b1.mono B0.size)
  have HLIT : Hid ((w1.alloc (.cells #[] 3)).ownsRow w.heap.size 3 1 (.slice (some ⟨w1.heap.size, 0, none⟩) 0 0) 0 (([] : List Int).map (Value.int .i64))) := World.ownsRow_lit w1 #[] 0 B1.size (by unfold maxLen; omega) rfl
  go_wp2_with fail
  go_ret
  exact ⟨_, _, rfl, Nat.le_refl _, HLIT.out, B1.alloc B1.size _⟩
theorem empty_spec_all (h : HullV) (w : World) : Calls Try.prog 46 #[.agg #[.int .i64 h.bays, .int .i64 h.rows, .int .i64 h.tiers]] w (RowPost (emptyS h) w) := by
  by_cases hk : hullOk h
  · refine (empty_spec h w hk).mono ?_
    rintro e w' ⟨g, rfl, h1, h2⟩
    have e1 : emptyS h = zeros (slotsV h) := by unfold emptyS; rw [if_pos hk]
    rw [e1]
    refine ⟨some ⟨g, 0, none⟩, slotsV h, by rw [zeros_length], by rw [zeros_length]; exact Nat.le_refl _, by rw [zeros_length]; exact h1, h2⟩
  · have e1 : emptyS h = [] := by unfold emptyS; rw [if_neg hk]
    rw [e1]
    exact empty_spec_no h w hk
def putS (h : HullV) (l : List BoxV) (pl : List Int) (s id : Int) : List Int × Bool :=
  if pvS h l pl = true then (if (0 ≤ s ∧ s ≤ (pl.length : Int) - 1) ∧ (pl[s.toNat]? = some 0 ∧ id ≠ 0) ∧ pvS h l (pl.set s.toNat id) = true then (pl.set s.toNat id, true) else (pl, false)) else ([], false)
theorem putS_no {h : HullV} {l : List BoxV} {pl : List Int} {s id : Int} (hv : pvS h l pl = false) : putS h l pl s id = ([], false) := by unfold putS; rw [hv]; rfl
theorem putS_stay {h : HullV} {l : List BoxV} {pl : List Int} {s id : Int} (hv : pvS h l pl = true) (k : ¬ ((0 ≤ s ∧ s ≤ (pl.length : Int) - 1) ∧ (pl[s.toNat]? = some 0 ∧ id ≠ 0) ∧ pvS h l (pl.set s.toNat id) = true)) : putS h l pl s id = (pl, false) := by unfold putS; rw [if_pos hv, if_neg k]
theorem putS_yes {h : HullV} {l : List BoxV} {pl : List Int} {s id : Int} (hv : pvS h l pl = true) (k : (0 ≤ s ∧ s ≤ (pl.length : Int) - 1) ∧ (pl[s.toNat]? = some 0 ∧ id ≠ 0) ∧ pvS h l (pl.set s.toNat id) = true) : putS h l pl s id = (pl.set s.toNat id, true) := by unfold putS; rw [if_pos hv, if_pos k]
theorem own_blk {t : TypeId} {w : World} {lo hi : Nat} {A : Option Addr} {l : List Int} (h : Own t w lo hi A l) (hl : 0 < l.length) : ∃ (g : Nat) (cs : Array Value), A = some ⟨g, 0, none⟩ ∧ lo ≤ g ∧ g < hi ∧ Blk w g t cs ∧ ∀ (k : Nat) (x : Int), l[k]? = some x → cs[k]? = some (.int .i64 x) := by
  rcases h with rfl | h
  · simp at hl
  · exact h
theorem row_base {w : World} {b b' size n : Nat} {t : TypeId} {v : Value} {xs : List Value} (h : w.ownsRow b t size v n xs) (hb : b' ≤ b) : w.ownsRow b' t size v n xs := by
  refine ⟨h.1, ?_⟩
  rcases h.2 with hn | ⟨g, cap, cur, rfl, hbg, rest⟩
  · exact .inl hn
  · exact .inr ⟨g, cap, cur, rfl, by omega, rest⟩
theorem row_set1 {w : World} {b n c g i : Nat} {t : TypeId} {L : List Int} {x : Int} (h : w.ownsRow b t 1 (.slice (some ⟨g, 0, none⟩) n c) n (L.map (Value.int .i64))) : (w.setCell ⟨g, i, none⟩ (.int .i64 x)).ownsRow b t 1 (.slice (some ⟨g, 0, none⟩) n c) n ((L.set i x).map (Value.int .i64)) := by
  refine ⟨by have := h.1; simpa using this, ?_⟩
  rcases h.2 with ⟨e, _⟩ | ⟨g', cap, cur, e, hb, hg, h1, h2, h3, h4⟩
  · cases e
  · injection e with e1 e2 e3
    injection e1 with e1
    injection e1 with e1
    subst e1 e3
    refine .inr ⟨_, _, cur.setIfInBounds i (.int .i64 x), rfl, hb, Blk.set_ (cs := cur) hg i (.int .i64 x), h1, h2, by simpa using h3, ?_⟩
    rw [Array.toList_setIfInBounds, List.map_set, ← h4, List.take_set]
/-- What PlanPut hands back. -/
def PutPost (h : HullV) (l : List BoxV) (pl : List Int) (s id : Int) (w : World) (e : Ending) (w' : World) : Prop :=
  ∃ A c, e = .returned (.tuple #[.slice A (putS h l pl s id).1.length c, .bool (putS h l pl s id).2]) ∧ (putS h l pl s id).1.length ≤ c ∧ w'.ownsRow w.heap.size 3 1 (.slice A (putS h l pl s id).1.length c) (putS h l pl s id).1.length ((putS h l pl s id).1.map (Value.int .i64)) ∧ Below w.heap.size w w'
theorem putPost {h : HullV} {l : List BoxV} {pl L : List Int} {s id : Int} {b : Bool} {w w' : World} {A : Option Addr} {c B n : Nat} (hp : putS h l pl s id = (L, b)) (hn : L.length = n) (hc : n ≤ c) (ho : w'.ownsRow B 3 1 (.slice A n c) n (L.map (Value.int .i64))) (hB : w.heap.size ≤ B) (hb : Below w.heap.size w w') :
    PutPost h l pl s id w (.returned (.tuple #[.slice A n c, .bool b])) w' := by
  subst hn
  unfold PutPost
  rw [hp]
  exact ⟨A, c, rfl, hc, row_base ho hB, hb⟩
set_option maxHeartbeats 12800000 in
set_option maxRecDepth 20000 in
theorem put_spec (h : HullV) (A P : Option Addr) (l : List BoxV) (pl : List Int) (c d : Nat) (s id : Int) (w : World) (ha : RdBox w A l) (hl : l.length ≤ 1048576) (hp : Rd w P pl) (hpl : pl.length ≤ 1048576) (hpd : pl.length ≤ d) :
    Calls Try.prog 48 #[.agg #[.int .i64 h.bays, .int .i64 h.rows, .int .i64 h.tiers], .slice A l.length c, .slice P pl.length d, .int .i64 s, .int .i64 id] w (PutPost h l pl s id w) := by
  obtain ⟨i0, hi, hz0, hz1, hz2⟩ := info_parts info_int
  have kx := Blk.new w 36 #[.int .i64 h.bays, .int .i64 h.rows, .int .i64 h.tiers]
  have bx : Below w.heap.size w (w.alloc (.cells #[.int .i64 h.bays, .int .i64 h.rows, .int .i64 h.tiers] 36)) := below_one _
  obtain ⟨W0, HW0⟩ : ∃ W0, Hid (w.alloc (.cells #[.int .i64 h.bays, .int .i64 h.rows, .int .i64 h.tiers] 36) = W0) := ⟨_, rfl⟩
  rw [HW0.out] at kx bx
  have HA0 := Lib.hid (ha.below bx)
  have HP0 := Lib.hid (hp.below bx)
  obtain ⟨X, HX⟩ : ∃ X, Hid (w.heap.size = X) := ⟨_, rfl⟩
  rw [HX.out] at kx
  have hXl := kx.lt
  have HFIN : Hid (∀ W, Below W0.heap.size W0 W → Below w.heap.size w W) := fun W hW => bx.trans (hW.mono bx.size)
  have HZ0 : Hid (w.heap.size ≤ W0.heap.size) := bx.size
  have HZX : Hid (W0.heap.size = X + 1) := by show _ = _; rw [← HW0.out, ← HX.out]; simp
  have HS : Hid (∀ W, Below W0.heap.size W0 W → W.cell? ⟨X, 0, none⟩ = some (.int .i64 h.bays) ∧ W.cell? ⟨X, 1, none⟩ = some (.int .i64 h.rows) ∧ W.cell? ⟨X, 2, none⟩ = some (.int .i64 h.tiers)) := fun W hW => ⟨(kx.below hW hXl).cell 0, (kx.below hW hXl).cell 1, (kx.below hW hXl).cell 2⟩
  have B0 := Below.refl W0.heap.size W0
  obtain ⟨z0, z1, z2⟩ := HS.out W0 B0
  clear kx bx hXl ha hp
  have HPV : Hid (∀ W, Below W0.heap.size W0 W → Calls Try.prog 35 #[.agg #[.int .i64 h.bays, .int .i64 h.rows, .int .i64 h.tiers], .slice A l.length c, .slice P pl.length d] W fun e w' => e = .returned (.bool (pvS h l pl)) ∧ Below W0.heap.size W0 w') := fun W hW => (pv_spec h A P l pl c d W (HA0.out.below hW) hl (HP0.out.below hW) hpl hpd).mono fun e w' ⟨h1, h2⟩ => ⟨h1, hW.trans (h2.mono hW.size)⟩
  cases hv : pvS h l pl with
  | false =>
    have HO := Lib.hid (putS_no (s := s) (id := id) hv)
    have HPF := Lib.hid (bool_to' (HPV.out W0 B0) hv)
    clear hv
    go_enter Try.func48, Try.ntmps48
    go_wp2_with fail
    rw [HW0.out, HX.out]
    refine HPF.out.mono ?_
    rintro e w1 ⟨rfl, b1⟩
    have b2 := b1.alloc b1.size (.cells #[] 3)
    have HLIT : Hid ((w1.alloc (.cells #[] 3)).ownsRow W0.heap.size 3 1 (.slice (some ⟨w1.heap.size, 0, none⟩) 0 0) 0 (([] : List Int).map (Value.int .i64))) := World.ownsRow_lit w1 #[] 0 b1.size (by unfold maxLen; omega) rfl
    go_wp2_with fail
    go_ret2
    exact putPost HO.out rfl (Nat.le_refl _) HLIT.out HZ0.out (HFIN.out _ b2)
  | true =>
    have HPT := Lib.hid (bool_to' (HPV.out W0 B0) hv)
    have HNL := Lib.hid (pv_of hv).2.2.1
    have hn36 : pl.length ≤ 36 ∧ 1 ≤ pl.length := by have := (slots_bd (pv_of hv).1).2; have := HNL.out; omega
    obtain ⟨hn36, hn1⟩ := hn36
    have hnL : ((pl.length : Nat) : Int) - 1 ≤ 36 := by omega
    have HVT := Lib.hid hv
    have HLT : Hid (∀ W, Calls Try.prog 76 #[.int .i64 s, .int .i64 0, .int .i64 ((pl.length : Int) - 1)] W fun e w' => e = .returned (.bool (decide (0 ≤ s ∧ s ≤ (pl.length : Int) - 1))) ∧ W = w') := fun W => l1In_any s 0 _ W
    clear hv
    obtain ⟨b, off, x00, hP, hb0, _, _⟩ := HP0.out.at_ (k := 0) hn1
    subst hP
    by_cases hr : 0 ≤ s ∧ s ≤ (pl.length : Int) - 1
    · obtain ⟨n, rfl⟩ := Int.eq_ofNat_of_zero_le hr.1
      have hnl : n < pl.length := by omega
      have HRR := Lib.hid hr
      rw [decide_eq_true hr] at HLT
      clear hr
      obtain ⟨b2, off2, y, e2, hb2, Hy, hy0⟩ := (HP0.out).at_ (k := n) hnl
      injection e2 with e2
      injection e2 with e2a e2b e2c
      subst e2a e2b
      clear e2c
      have p0 : (0 : Int) ≤ (n : Int) := by omega
      have p1 : (n : Int) < (pl.length : Int) := by omega
      by_cases hy : y = 0
      · have t3 : (y != 0) = false := by simp [hy]
        have HY := Lib.hid hy
        clear hy
        by_cases hid : id = 0
        · have t4 : (id == 0) = true := beq_iff_eq.2 hid
          have HO := Lib.hid (putS_stay (s := (n : Int)) (id := id) HVT.out (fun k => k.2.1.2 hid))
          clear hid hy0
          go_enter Try.func48, Try.ntmps48
          go_wp2_with fail
          rw [HW0.out, HX.out]
          refine HPT.out.mono ?_
          rintro e w1 ⟨rfl, b1⟩
          clear z0 z1 z2
          go_wp2_with (at_builtin; refine wpList_append_own _ rfl _ _ 24 rfl W0.heap.size 3 i0 (.int .i64 0) 1 8 Try.underlying24 hi hz0 hz1 hz2 rfl (by decide) _ 0 [] rfl (World.ownsRow_lit w1 #[] 0 b1.size (by unfold maxLen; omega) rfl) ⟨b, off, none⟩ pl.length d (pl.map (Value.int .i64)) rfl (by simp) (((HP0.out.below b1)).news (cell_alloc_old _)) (ints_oneCell .i64 pl) ?c3 ?c4 ?c5 ?_)
          case c3 => unfold maxLen; omega
          case c4 => omega
          case c5 => have := b1.size; simp; omega
          intro v3 w3 hown3 hgrow3 _
          have K3 : Hid (w3.ownsRow W0.heap.size 3 1 v3 pl.length (pl.map (Value.int .i64))) := by
            show World.ownsRow _ _ _ _ _ _ _
            simpa using hown3
          have c3 := Lib.hid ((b1.alloc b1.size (.cells #[] 3)).grown hgrow3 (by have := b1.size; simp; omega) (fun k e => by have := b1.size; simp [Value.ownBlock] at e; omega))
          clear hown3 hgrow3
          obtain ⟨A3, q3, hA3, hq3⟩ := own_slice K3.out
          subst hA3
          have O3 : Hid (Own 3 w3 W0.heap.size w3.heap.size A3 pl) := Own.of_row K3.out (Nat.le_refl _)
          obtain ⟨g3, cs3, hA3, lo3, hi3, bk3, cc3⟩ := own_blk O3.out hn1
          subst hA3
          have CC3 := Lib.hid cc3
          have HBK3 := Lib.hid bk3
          clear cc3 bk3
          have hy3 := (c3.out.cell (p := ⟨b, off + n, none⟩) hb2).trans ((HP0.out n _ Hy.out).elim fun b' h => h.elim fun o' h => by
            obtain ⟨e, _, hh⟩ := h
            injection e with e
            injection e with ea eb ec
            subst ea eb
            exact hh)
          go_wp2_with fail
          refine (HLT.out _).mono ?_
          rintro e w' ⟨rfl, rfl⟩
          go_wp2_with fail
          go_ret2
          exact putPost HO.out rfl hq3 K3.out HZ0.out (HFIN.out _ c3.out)
        · have t4 : (id == 0) = false := beq_eq_false_iff_ne.2 hid
          have HID := Lib.hid hid
          clear hid hy0
          go_enter Try.func48, Try.ntmps48
          go_wp2_with fail
          rw [HW0.out, HX.out]
          refine HPT.out.mono ?_
          rintro e w1 ⟨rfl, b1⟩
          clear z0 z1 z2
          go_wp2_with (at_builtin; refine wpList_append_own _ rfl _ _ 24 rfl W0.heap.size 3 i0 (.int .i64 0) 1 8 Try.underlying24 hi hz0 hz1 hz2 rfl (by decide) _ 0 [] rfl (World.ownsRow_lit w1 #[] 0 b1.size (by unfold maxLen; omega) rfl) ⟨b, off, none⟩ pl.length d (pl.map (Value.int .i64)) rfl (by simp) (((HP0.out.below b1)).news (cell_alloc_old _)) (ints_oneCell .i64 pl) ?c3 ?c4 ?c5 ?_)
          case c3 => unfold maxLen; omega
          case c4 => omega
          case c5 => have := b1.size; simp; omega
          intro v3 w3 hown3 hgrow3 _
          have K3 : Hid (w3.ownsRow W0.heap.size 3 1 v3 pl.length (pl.map (Value.int .i64))) := by
            show World.ownsRow _ _ _ _ _ _ _
            simpa using hown3
          have c3 := Lib.hid ((b1.alloc b1.size (.cells #[] 3)).grown hgrow3 (by have := b1.size; simp; omega) (fun k e => by have := b1.size; simp [Value.ownBlock] at e; omega))
          clear hown3 hgrow3
          obtain ⟨A3, q3, hA3, hq3⟩ := own_slice K3.out
          subst hA3
          have O3 : Hid (Own 3 w3 W0.heap.size w3.heap.size A3 pl) := Own.of_row K3.out (Nat.le_refl _)
          obtain ⟨g3, cs3, hA3, lo3, hi3, bk3, cc3⟩ := own_blk O3.out hn1
          subst hA3
          have CC3 := Lib.hid cc3
          have HBK3 := Lib.hid bk3
          clear cc3 bk3
          have hy3 := (c3.out.cell (p := ⟨b, off + n, none⟩) hb2).trans ((HP0.out n _ Hy.out).elim fun b' h => h.elim fun o' h => by
            obtain ⟨e, _, hh⟩ := h
            injection e with e
            injection e with ea eb ec
            subst ea eb
            exact hh)
          have hz3 := (HBK3.out.cell n).trans (CC3.out n y Hy.out)
          have hf3 := HBK3.out.frozen n
          go_wp2_with fail
          refine (HLT.out _).mono ?_
          rintro e w' ⟨rfl, rfl⟩
          have bk4 := HBK3.out.set_ n (.int .i64 id)
          have c4 := c3.out.setCell (p := ⟨g3, n, none⟩) lo3 (.int .i64 id)
          have HC4 : Hid (∀ (k : Nat) (x : Int), (pl.set n id)[k]? = some x → (cs3.setIfInBounds n (.int .i64 id))[k]? = some (.int .i64 x)) := cells_set id hnl CC3.out
          obtain ⟨z0, z1, z2⟩ := HS.out _ c3.out
          obtain ⟨z40, z41, z42⟩ := HS.out _ c4
          have HBK4 := Lib.hid bk4
          have HC44 := Lib.hid c4
          clear bk4 c4
          go_wp2_with fail
          clear hy3 hz3 hf3 z0 z1 z2 z40 z41 z42
          have bk4 := HBK4.out
          have c4 := HC44.out
          have k4 := row_set1 (i := n) (x := id) K3.out
          obtain ⟨W4, HW4⟩ : ∃ W, Hid (w3.setCell ⟨g3, n, none⟩ (.int .i64 id) = W) := ⟨_, rfl⟩
          rw [HW4.out] at bk4 c4 k4 ⊢
          have HK4 := Lib.hid k4
          clear k4
          have HC4W := Lib.hid c4
          have HR4 : Hid (Own 3 W4 W0.heap.size W4.heap.size (some ⟨g3, 0, none⟩) (pl.set n id)) := Own.of_blk bk4 lo3 bk4.lt HC4.out
          clear bk4 c4 HBK4 HC44
          have hset : (pl.set n id).length = pl.length := List.length_set ..
          cases hv2 : pvS h l (pl.set n id) with
          | true =>
            have HO := Lib.hid (putS_yes (s := (n : Int)) (id := id) HVT.out ⟨HRR.out, ⟨by rw [Int.toNat_natCast, Hy.out, HY.out], HID.out⟩, by rw [Int.toNat_natCast]; exact hv2⟩)
            have HP2 : Hid (Calls Try.prog 35 #[.agg #[.int .i64 h.bays, .int .i64 h.rows, .int .i64 h.tiers], .slice A l.length c, .slice (some ⟨g3, 0, none⟩) pl.length q3] W4 fun e w' => e = .returned (.bool true) ∧ Below W4.heap.size W4 w') := by
              have hq := bool_to (pv_spec h A (some ⟨g3, 0, none⟩) l (pl.set n id) c q3 W4 (HA0.out.below HC4W.out) hl HR4.out.rd (by omega) (by omega)) hv2
              rw [hset] at hq
              exact hq
            have HSE := Lib.hid hset
            clear hv2 hset
            refine HP2.out.mono ?_
            rintro e w5 ⟨rfl, b5⟩
            have HB5 := Lib.hid (HC4W.out.trans (b5.mono HC4W.out.size))
            have HK5 := Lib.hid (row_chg HK4.out (Chg.of_below (lo := 0) (hi := 0) b5 (Nat.le_refl _)) (Nat.zero_le _))
            clear b5
            go_wp2_with fail
            go_ret2
            exact putPost HO.out (by rw [Int.toNat_natCast, HSE.out]) hq3 (by rw [Int.toNat_natCast]; exact HK5.out) HZ0.out (HFIN.out _ HB5.out)
          | false =>
            have HO := Lib.hid (putS_stay (s := (n : Int)) (id := id) HVT.out (fun k => by have := k.2.2; rw [Int.toNat_natCast, hv2] at this; cases this))
            have HP2 : Hid (Calls Try.prog 35 #[.agg #[.int .i64 h.bays, .int .i64 h.rows, .int .i64 h.tiers], .slice A l.length c, .slice (some ⟨g3, 0, none⟩) pl.length q3] W4 fun e w' => e = .returned (.bool false) ∧ Below W4.heap.size W4 w') := by
              have hq := bool_to (pv_spec h A (some ⟨g3, 0, none⟩) l (pl.set n id) c q3 W4 (HA0.out.below HC4W.out) hl HR4.out.rd (by omega) (by omega)) hv2
              rw [hset] at hq
              exact hq
            clear hv2 hset
            refine HP2.out.mono ?_
            rintro e w5 ⟨rfl, b5⟩
            have b5 := HC4W.out.trans (b5.mono HC4W.out.size)
            clear HBK3 CC3 lo3 hi3 O3 K3 c3
            go_wp2_with (at_builtin; refine wpList_append_own _ rfl _ _ 24 rfl W0.heap.size 3 i0 (.int .i64 0) 1 8 Try.underlying24 hi hz0 hz1 hz2 rfl (by decide) _ 0 [] rfl (World.ownsRow_lit w5 #[] 0 b5.size (by unfold maxLen; omega) rfl) ⟨b, off, none⟩ pl.length d (pl.map (Value.int .i64)) rfl (by simp) (((HP0.out.below b5)).news (cell_alloc_old _)) (ints_oneCell .i64 pl) ?c3 ?c4 ?c5 ?_)
            case c3 => unfold maxLen; omega
            case c4 => omega
            case c5 => have := b5.size; simp; omega
            intro v6 w6 hown6 hgrow6 _
            have K6 : Hid (w6.ownsRow W0.heap.size 3 1 v6 pl.length (pl.map (Value.int .i64))) := by
              show World.ownsRow _ _ _ _ _ _ _
              simpa using hown6
            have c6 := Lib.hid ((b5.alloc b5.size (.cells #[] 3)).grown hgrow6 (by have := b5.size; simp; omega) (fun k e => by have := b5.size; simp [Value.ownBlock] at e; omega))
            clear hown6 hgrow6
            obtain ⟨A6, q6, hA6, hq6⟩ := own_slice K6.out
            subst hA6
            have O6 : Hid (Own 3 w6 W0.heap.size w6.heap.size A6 pl) := Own.of_row K6.out (Nat.le_refl _)
            obtain ⟨g6, cs6, hA6, lo6, hi6, bk6, cc6⟩ := own_blk O6.out hn1
            subst hA6
            have CC6 := Lib.hid cc6
            have HBK6 := Lib.hid bk6
            clear cc6 bk6
            go_wp2_with fail
            go_ret2
            exact putPost HO.out rfl hq6 K6.out HZ0.out (HFIN.out _ c6.out)
      · have t3 : (y != 0) = true := by simp [hy]
        have HO := Lib.hid (putS_stay (s := (n : Int)) (id := id) HVT.out (fun k => by
          have h2 := k.2.1.1
          rw [Int.toNat_natCast, Hy.out] at h2
          injection h2 with h2
          exact hy h2))
        clear hy hy0
        go_enter Try.func48, Try.ntmps48
        go_wp2_with fail
        rw [HW0.out, HX.out]
        refine HPT.out.mono ?_
        rintro e w1 ⟨rfl, b1⟩
        clear z0 z1 z2
        go_wp2_with (at_builtin; refine wpList_append_own _ rfl _ _ 24 rfl W0.heap.size 3 i0 (.int .i64 0) 1 8 Try.underlying24 hi hz0 hz1 hz2 rfl (by decide) _ 0 [] rfl (World.ownsRow_lit w1 #[] 0 b1.size (by unfold maxLen; omega) rfl) ⟨b, off, none⟩ pl.length d (pl.map (Value.int .i64)) rfl (by simp) (((HP0.out.below b1)).news (cell_alloc_old _)) (ints_oneCell .i64 pl) ?c3 ?c4 ?c5 ?_)
        case c3 => unfold maxLen; omega
        case c4 => omega
        case c5 => have := b1.size; simp; omega
        intro v3 w3 hown3 hgrow3 _
        have K3 : Hid (w3.ownsRow W0.heap.size 3 1 v3 pl.length (pl.map (Value.int .i64))) := by
          show World.ownsRow _ _ _ _ _ _ _
          simpa using hown3
        have c3 := Lib.hid ((b1.alloc b1.size (.cells #[] 3)).grown hgrow3 (by have := b1.size; simp; omega) (fun k e => by have := b1.size; simp [Value.ownBlock] at e; omega))
        clear hown3 hgrow3
        obtain ⟨A3, q3, hA3, hq3⟩ := own_slice K3.out
        subst hA3
        have O3 : Hid (Own 3 w3 W0.heap.size w3.heap.size A3 pl) := Own.of_row K3.out (Nat.le_refl _)
        obtain ⟨g3, cs3, hA3, lo3, hi3, bk3, cc3⟩ := own_blk O3.out hn1
        subst hA3
        have CC3 := Lib.hid cc3
        have HBK3 := Lib.hid bk3
        clear cc3 bk3
        have hy3 := (c3.out.cell (p := ⟨b, off + n, none⟩) hb2).trans ((HP0.out n _ Hy.out).elim fun b' h => h.elim fun o' h => by
          obtain ⟨e, _, hh⟩ := h
          injection e with e
          injection e with ea eb ec
          subst ea eb
          exact hh)
        go_wp2_with fail
        refine (HLT.out _).mono ?_
        rintro e w' ⟨rfl, rfl⟩
        go_wp2_with fail
        go_ret2
        exact putPost HO.out rfl hq3 K3.out HZ0.out (HFIN.out _ c3.out)
    · have HO := Lib.hid (putS_stay (s := s) (id := id) HVT.out (fun k => hr k.1))
      rw [decide_eq_false hr] at HLT
      clear hr
      go_enter Try.func48, Try.ntmps48
      go_wp2_with fail
      rw [HW0.out, HX.out]
      refine HPT.out.mono ?_
      rintro e w1 ⟨rfl, b1⟩
      clear z0 z1 z2
      go_wp2_with (at_builtin; refine wpList_append_own _ rfl _ _ 24 rfl W0.heap.size 3 i0 (.int .i64 0) 1 8 Try.underlying24 hi hz0 hz1 hz2 rfl (by decide) _ 0 [] rfl (World.ownsRow_lit w1 #[] 0 b1.size (by unfold maxLen; omega) rfl) ⟨b, off, none⟩ pl.length d (pl.map (Value.int .i64)) rfl (by simp) (((HP0.out.below b1)).news (cell_alloc_old _)) (ints_oneCell .i64 pl) ?c3 ?c4 ?c5 ?_)
      case c3 => unfold maxLen; omega
      case c4 => omega
      case c5 => have := b1.size; simp; omega
      intro v3 w3 hown3 hgrow3 _
      have K3 : Hid (w3.ownsRow W0.heap.size 3 1 v3 pl.length (pl.map (Value.int .i64))) := by
        show World.ownsRow _ _ _ _ _ _ _
        simpa using hown3
      have c3 := Lib.hid ((b1.alloc b1.size (.cells #[] 3)).grown hgrow3 (by have := b1.size; simp; omega) (fun k e => by have := b1.size; simp [Value.ownBlock] at e; omega))
      clear hown3 hgrow3
      obtain ⟨A3, q3, hA3, hq3⟩ := own_slice K3.out
      subst hA3
      have O3 : Hid (Own 3 w3 W0.heap.size w3.heap.size A3 pl) := Own.of_row K3.out (Nat.le_refl _)
      obtain ⟨g3, cs3, hA3, lo3, hi3, bk3, cc3⟩ := own_blk O3.out hn1
      subst hA3
      have CC3 := Lib.hid cc3
      have HBK3 := Lib.hid bk3
      clear cc3 bk3
      go_wp2_with fail
      refine (HLT.out _).mono ?_
      rintro e w' ⟨rfl, rfl⟩
      go_wp2_with fail
      go_ret2
      exact putPost HO.out rfl hq3 K3.out HZ0.out (HFIN.out _ c3.out)
end Go.Proofs.Ytphncbnnnickhaa
