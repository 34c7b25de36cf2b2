/- RowWeights of the program and of the reference: the walks. -/
import Derived.Test.YtphncbnnnickhaaWts
namespace Go.Proofs.Ytphncbnnnickhaa
open Go.RowKit
set_option linter.unusedVariables false
set_option linter.unusedSimpArgs false

set_option maxHeartbeats 6400000 in
set_option maxRecDepth 20000 in
theorem rows_impl (h : HullV) (A P : Option Addr) (l : List BoxV) (pl : List Int) (c d : Nat) (w : World) (ha : RdBox w A l) (hl : l.length ≤ 1048576) (hlc : l.length ≤ c) (hp : Rd w P pl) (hpl : pl.length ≤ 1048576) (hpd : pl.length ≤ d) :
    Calls Try.prog 77 #[.agg #[.int .i64 h.bays, .int .i64 h.rows, .int .i64 h.tiers], .slice A l.length c, .slice P pl.length d] w (AnsC (fun s => s) (rowsS h l pl).length (rowsS h l pl) 3 w) := by
  obtain ⟨i0, hi, hz0, hz1, hz2⟩ := info_parts info_int
  obtain ⟨N, HN⟩ : ∃ N, Hid (rowsS h l pl = N) := ⟨_, rfl⟩
  rw [HN.out]
  have kx := Blk.new w 36 #[.int .i64 h.bays, .int .i64 h.rows, .int .i64 h.tiers]
  have bx : Below w.heap.size w (w.alloc (.cells #[.int .i64 h.bays, .int .i64 h.rows, .int .i64 h.tiers] 36)) := below_one _
  obtain ⟨W0, HW0⟩ : ∃ W0, Hid (w.alloc (.cells #[.int .i64 h.bays, .int .i64 h.rows, .int .i64 h.tiers] 36) = W0) := ⟨_, rfl⟩
  rw [HW0.out] at kx bx
  have HA0 := Lib.hid (ha.below bx)
  have HP0 := Lib.hid (hp.below bx)
  obtain ⟨X, HX⟩ : ∃ X, Hid (w.heap.size = X) := ⟨_, rfl⟩
  rw [HX.out] at kx
  have hXl := kx.lt
  have HFIN : Hid (∀ W, Below W0.heap.size W0 W → Below w.heap.size w W) := fun W hW => bx.trans (hW.mono bx.size)
  have HZ0 : Hid (w.heap.size ≤ W0.heap.size) := bx.size
  have HZX : Hid (W0.heap.size = X + 1) := by show _ = _; rw [← HW0.out, ← HX.out]; simp
  have HS : Hid (∀ W, Below W0.heap.size W0 W → W.cell? ⟨X, 0, none⟩ = some (.int .i64 h.bays) ∧ W.cell? ⟨X, 1, none⟩ = some (.int .i64 h.rows) ∧ W.cell? ⟨X, 2, none⟩ = some (.int .i64 h.tiers)) := fun W hW => ⟨(kx.below hW hXl).cell 0, (kx.below hW hXl).cell 1, (kx.below hW hXl).cell 2⟩
  have B0 := Below.refl W0.heap.size W0
  obtain ⟨z0, z1, z2⟩ := HS.out W0 B0
  clear kx bx hXl ha hp
  have HPV : Hid (∀ W, Below W0.heap.size W0 W → Calls Try.prog 28 #[.agg #[.int .i64 h.bays, .int .i64 h.rows, .int .i64 h.tiers], .slice A l.length c, .slice P pl.length d] W fun e w' => e = .returned (.bool (pvS h l pl)) ∧ Below W0.heap.size W0 w') := fun W hW => (pv_impl h A P l pl c d W (HA0.out.below hW) hl hlc (HP0.out.below hW) hpl hpd).mono fun e w' ⟨h1, h2⟩ => ⟨h1, hW.trans (h2.mono hW.size)⟩
  cases hv : pvS h l pl with
  | false =>
    have HO : Hid (N = []) := by show _ = _; rw [← HN.out]; unfold rowsS; rw [hv]; rfl
    have HPF := Lib.hid (bool_to' (HPV.out W0 B0) hv)
    clear hv
    go_enter Try.func77, Try.ntmps77
    go_wp2_with fail
    rw [HW0.out, HX.out]
    refine HPF.out.mono ?_
    rintro e w1 ⟨rfl, b1⟩
    go_wp2_with fail
    go_ret
    rw [HO.out]
    exact ⟨none, 0, rfl, Nat.le_refl _, Own.nil_, HFIN.out _ b1⟩
  | true =>
    have HO : Hid (N = rowsTo l (tiersV h) pl (rowsV h) pl.length) := by show _ = _; rw [← HN.out]; unfold rowsS; rw [hv]; rfl
    have HPT := Lib.hid (bool_to' (HPV.out W0 B0) hv)
    have HK := Lib.hid (pv_of hv).1
    have HNL := Lib.hid (pv_of hv).2.2.1
    have HOK := Lib.hid (ids_ok hv)
    have HNT := Lib.hid (hull_nat HK.out)
    have hn36 : pl.length ≤ 36 := by have := (slots_bd HK.out).2.2; have := HNL.out; omega
    obtain ⟨t, HT⟩ : ∃ t, Hid (tiersV h = t) := ⟨_, rfl⟩
    obtain ⟨m, HM⟩ : ∃ m, Hid (rowsV h = m) := ⟨_, rfl⟩
    have hNT := HNT.out
    rw [HT.out, HM.out] at hNT HO
    obtain ⟨n1, n2, n3, n4, n5, n6, n7⟩ := hNT
    have HN1 := Lib.hid n1
    have HN3 : Hid (pl.length = m * t) := by show _ = _; rw [← n3]; exact HNL.out
    clear hv n1 n3 HNT
    go_enter Try.func77, Try.ntmps77
    go_wp2_with fail
    rw [HW0.out, HX.out]
    refine HPT.out.mono ?_
    rintro e w1 ⟨rfl, b1⟩
    clear z0 z1 z2
    obtain ⟨z0, z1, z2⟩ := HS.out _ b1
    go_wp2_with (at_make; refine wpList_make_full _ rfl _ _ 24 rfl W0.heap.size 3 i0 (.int .i64 0) 1 Try.underlying24 hi hz0 hz1 .i64 .i64 _ _ m rfl rfl rfl rfl ?c1 ?c2 b1.size ?_)
    case c1 => rw [hz2]; omega
    case c2 => unfold maxLen; omega
    intro w2 hrow hg1
    have b2 := b1.trans ((below_grown hg1).mono b1.size)
    obtain ⟨cs0, hb0, hcs0⟩ := blk_of_full hrow rfl
    obtain ⟨g, HG⟩ : ∃ g, Hid (w1.heap.size = g) := ⟨_, rfl⟩
    have hg0 : W0.heap.size ≤ g := by have := b1.size; have := HG.out; omega
    rw [HG.out] at hb0
    have HC0 : Hid (∀ (s : Nat) (x : Int), (rowsTo l t pl m 0)[s]? = some x → cs0[s]? = some (.int .i64 x)) := fun s x hx => by
      have hs : s < m := by have := (List.getElem?_eq_some_iff.1 hx).1; rw [rowsTo_length] at this; exact this
      rw [rowsTo_at hs] at hx
      injection hx with hx
      subst hx
      have e : cs0.toList = (zeros m).map (Value.int .i64) := by rw [hcs0]; exact zeros1 m
      rw [← Array.getElem?_toList, e]
      simp [zeros, hs, sumTo]
    clear z0 z1 z2 hrow hg1 hcs0 n2
    go_wp2_with fail
    rw [HG.out]
    go_loopw [23] (fun i wr => ∃ (k : Nat) (cs : Array Value), k ≤ pl.length ∧ i = .int .i64 k ∧ Blk wr g 3 cs ∧ Hid (∀ (s : Nat) (x : Int), (rowsTo l t pl m k)[s]? = some x → cs[s]? = some (.int .i64 x)) ∧ Below W0.heap.size W0 wr) (fun i _ => pl.length - (intOf i).toNat)
    case atStart => exact ⟨0, cs0, by omega, rfl, hb0, HC0.out, b2⟩
    case round =>
      obtain ⟨k, cs, hk, rfl, hblk, HC, hbw⟩ := hrel
      by_cases hlt : k < pl.length
      · obtain ⟨b, off, x, eP, hbx, Hx, hx0⟩ := (HP0.out.below hbw).at_ (k := k) hlt
        subst eP
        have q0 : (0 : Int) ≤ (k : Int) := by omega
        have q1 : (k : Int) < (pl.length : Int) := by omega
        obtain ⟨s, HSS⟩ : ∃ s, Hid (k / t = s) := ⟨_, rfl⟩
        have hsm : s < m := by rw [← HSS.out]; exact (Nat.div_lt_iff_lt_mul (by omega)).2 (by have := HN3.out; omega)
        obtain ⟨v, HV⟩ : ∃ v, Hid (sumTo l t pl s k = v) := ⟨_, rfl⟩
        obtain ⟨u, HU⟩ : ∃ u, Hid (wt l x = u) := ⟨_, rfl⟩
        have HVC : Hid (cs[s]? = some (.int .i64 v)) := by show _ = _; rw [← HV.out]; exact HC.out s _ (rowsTo_at hsm)
        have hvb : 0 ≤ v ∧ v ≤ 2000 := by rw [← HV.out]; have := sumTo_bd HOK.out t s k; omega
        have hub : 0 ≤ u ∧ u ≤ 30 := by rw [← HU.out, ← wtAt_of Hx.out]; exact wtAt_bd HOK.out k
        have HNX : Hid (∀ (i : Nat) (y : Int), (rowsTo l t pl m (k + 1))[i]? = some y → (cs.setIfInBounds s (.int .i64 (v + u)))[i]? = some (.int .i64 y)) := by
          rw [rowsTo_next HSS.out hsm, wtAt_of Hx.out, HU.out, HV.out]
          exact cells_set (v + u) (by rw [rowsTo_length]; exact hsm) HC.out
        have HST : Hid (∀ W, Below W0.heap.size W0 W → Calls Try.prog 78 #[.agg #[.int .i64 h.bays, .int .i64 h.rows, .int .i64 h.tiers], .int .i64 k] W fun e w' => e = .returned (.int .i64 (s : Int)) ∧ Below W.heap.size W w') := fun W hW => by
          have hq := stack_any h k W HK.out (by omega) (by omega)
          have e : (k : Int) / h.tiers = (s : Int) := by rw [HN1.out, ← HSS.out]; exact (Int.natCast_ediv k t).symm
          rw [e] at hq
          exact hq
        have HWT : Hid (∀ W, Below W0.heap.size W0 W → Calls Try.prog 104 #[.slice A l.length c, .int .i64 x] W fun e w' => e = .returned (.int .i64 u) ∧ Below W.heap.size W w') := fun W hW => by
          rw [← HU.out]; exact weightAt_any A l c x W (HA0.out.below hW) hl (HOK.out k x Hx.out)
        obtain ⟨z0, z1, z2⟩ := HS.out _ hbw
        have p0 : (0 : Int) ≤ (s : Int) := by omega
        have p1 : (s : Int) < (m : Int) := by omega
        obtain ⟨v0, v9⟩ := hvb
        obtain ⟨u0, u9⟩ := hub
        have hwrap : IntKind.i64.wrap (v + u) = v + u := IntWalk.i64_in _ (by omega)
        go_wp2_with fail
        refine wp_region_any (by kernel_rfl) ?_
        change wpAny _ _ _ _ _ _ _ (World.drew _)
        refine wpAny_take (i := 0) (oi := ⟨some 28, _, _, _, _, _⟩) (v := ?_) rfl (by kernel_rfl) (by kernel_rfl) (by kernel_rfl) (fun _ _ _ h => h) (Or.inl ⟨by rfl, ?_⟩) ?_
        rotate_left
        · intro w; go_simp; try rfl
        try simp only [Act.put, List.setIfInBounds_toArray, List.set_cons_zero, List.set_cons_succ]
        refine wpAny_take (i := 2) (oi := ⟨some 30, _, _, _, _, _⟩) (v := ?_) rfl (by kernel_rfl) (by kernel_rfl) (by kernel_rfl) (fun _ _ _ h => h) (Or.inl ⟨by rfl, ?_⟩) ?_
        rotate_left
        · intro w; go_simp; try rfl
        try simp only [Act.put, List.setIfInBounds_toArray, List.set_cons_zero, List.set_cons_succ]
        refine wpAny_take (i := 6) (oi := ⟨some 34, _, _, _, _, _⟩) (v := ?_) rfl (by kernel_rfl) (by kernel_rfl) (by kernel_rfl) (fun _ _ _ h => h) (Or.inl ⟨by rfl, ?_⟩) ?_
        rotate_left
        · intro w; go_simp; try rfl
        try simp only [Act.put, List.setIfInBounds_toArray, List.set_cons_zero, List.set_cons_succ]
        refine wpAny_take (i := 7) (oi := ⟨some 35, _, _, _, _, _⟩) (v := ?_) rfl (by kernel_rfl) (by kernel_rfl) (by kernel_rfl) (fun _ _ _ h => h) (Or.inl ⟨by rfl, ?_⟩) ?_
        rotate_left
        · intro w; go_simp; try rfl
        try simp only [Act.put, List.setIfInBounds_toArray, List.set_cons_zero, List.set_cons_succ]
        refine wpAny_ready (rs := [1]) (by kernel_rfl) (by simp) ?_
        refine AllReady.cons (o := ⟨some 29, _, _, _, _, _⟩) rfl (fun K hK => ?_) AllReady.nil
        go_simp
        refine hK _ _ ?_
        clear hK K
        try simp only [Act.put, List.setIfInBounds_toArray, List.set_cons_zero, List.set_cons_succ]
        refine wpAny_ready (rs := [3]) (by kernel_rfl) (by simp) ?_
        refine AllReady.cons (o := ⟨some 31, _, _, _, _, _⟩) rfl (fun K hK => ?_) AllReady.nil
        go_simp
        refine (HST.out _ (bel_drB hbw)).mono ?_
        rintro e w5 ⟨rfl, b5⟩
        dsimp only
        have bk5 := (hblk.drewN 1).below b5 hblk.lt
        have hb5 := (bel_drB hbw).trans (b5.mono (bel_drB hbw).size)
        have v5 := (bk5.cell s).trans HVC.out
        have f5 := bk5.frozen s
        refine hK _ _ ?_
        clear hK K
        try simp only [Act.put, List.setIfInBounds_toArray, List.set_cons_zero, List.set_cons_succ]
        refine wpAny_take (i := 4) (oi := ⟨some 32, _, _, _, _, _⟩) (v := ?_) rfl (by kernel_rfl) (by kernel_rfl) (by kernel_rfl) (fun _ _ _ h => h) (Or.inl ⟨by rfl, ?_⟩) ?_
        rotate_left
        · intro w; go_simp; try rfl
        try simp only [Act.put, List.setIfInBounds_toArray, List.set_cons_zero, List.set_cons_succ]
        refine wpAny_ready (rs := [5, 8]) (by kernel_rfl) (by simp) ?_
        refine AllReady.cons (o := ⟨some 33, _, _, _, _, _⟩) rfl (fun K hK => ?_) (AllReady.cons (o := ⟨some 36, _, _, _, _, _⟩) rfl (fun K hK => ?_) AllReady.nil)
        · go_simp
          refine hK _ _ ?_
          clear hK K
          try simp only [Act.put, List.setIfInBounds_toArray, List.set_cons_zero, List.set_cons_succ]
          refine wpAny_ready (rs := [8]) (by kernel_rfl) (by simp) ?_
          refine AllReady.cons (o := ⟨some 36, _, _, _, _, _⟩) rfl (fun K hK => ?_) AllReady.nil
          go_simp
          refine (HWT.out _ hb5).mono ?_
          rintro e w6 ⟨rfl, b6⟩
          dsimp only
          have bk6 := bk5.below b6 bk5.lt
          have hb6 := hb5.trans (b6.mono hb5.size)
          have v6 := (bk6.cell s).trans HVC.out
          have f6 := bk6.frozen s
          refine hK _ _ ?_
          clear hK K
          try simp only [Act.put, List.setIfInBounds_toArray, List.set_cons_zero, List.set_cons_succ]
          refine wpAny_take (i := 9) (oi := ⟨some 37, _, _, _, _, _⟩) (v := ?_) rfl (by kernel_rfl) (by kernel_rfl) (by kernel_rfl) (fun _ _ _ h => h) (Or.inl ⟨by rfl, ?_⟩) ?_
          rotate_left
          · intro w; go_simp; try rfl
          try simp only [Act.put, List.setIfInBounds_toArray, List.set_cons_zero, List.set_cons_succ]
          refine wpAny_take (i := 10) (oi := ⟨some 38, _, _, _, _, _⟩) (v := ?_) rfl (by kernel_rfl) (by kernel_rfl) (by kernel_rfl) (fun _ _ _ h => h) (Or.inl ⟨by rfl, ?_⟩) ?_
          rotate_left
          · intro w; go_simp; try rfl
          try simp only [Act.put, List.setIfInBounds_toArray, List.set_cons_zero, List.set_cons_succ]
          refine wpAny_ready (rs := [11]) (by kernel_rfl) (by simp) ?_
          refine AllReady.cons (o := ⟨none, _, _, _, _, _⟩) rfl (fun K hK => ?_) AllReady.nil
          go_simp
          refine hK _ _ ?_
          clear hK K
          try simp only [Act.put, List.setIfInBounds_toArray, List.set_cons_zero, List.set_cons_succ]
          refine wpAny_done (by kernel_rfl) ?_ _
          clear hwrap
          have bk7 := bk6.set_ s (.int .i64 (v + u))
          have hb7 := hb6.setCell (p := ⟨g, s, none⟩) hg0 (.int .i64 (v + u))
          clear bk5 bk6 v5 v6 f5 f6 b5 b6
          go_wp2_with fail
          exact ⟨⟨k + 1, _, by omega, by go_num, bk7, HNX.out, hb7⟩, by simp [intOf]; omega⟩
        · go_simp
          refine (HWT.out _ hb5).mono ?_
          rintro e w6 ⟨rfl, b6⟩
          dsimp only
          have bk6 := bk5.below b6 bk5.lt
          have hb6 := hb5.trans (b6.mono hb5.size)
          have v6 := (bk6.cell s).trans HVC.out
          have f6 := bk6.frozen s
          refine hK _ _ ?_
          clear hK K
          try simp only [Act.put, List.setIfInBounds_toArray, List.set_cons_zero, List.set_cons_succ]
          refine wpAny_ready (rs := [5]) (by kernel_rfl) (by simp) ?_
          refine AllReady.cons (o := ⟨some 33, _, _, _, _, _⟩) rfl (fun K hK => ?_) AllReady.nil
          go_simp
          refine hK _ _ ?_
          clear hK K
          try simp only [Act.put, List.setIfInBounds_toArray, List.set_cons_zero, List.set_cons_succ]
          refine wpAny_take (i := 9) (oi := ⟨some 37, _, _, _, _, _⟩) (v := ?_) rfl (by kernel_rfl) (by kernel_rfl) (by kernel_rfl) (fun _ _ _ h => h) (Or.inl ⟨by rfl, ?_⟩) ?_
          rotate_left
          · intro w; go_simp; try rfl
          try simp only [Act.put, List.setIfInBounds_toArray, List.set_cons_zero, List.set_cons_succ]
          refine wpAny_take (i := 10) (oi := ⟨some 38, _, _, _, _, _⟩) (v := ?_) rfl (by kernel_rfl) (by kernel_rfl) (by kernel_rfl) (fun _ _ _ h => h) (Or.inl ⟨by rfl, ?_⟩) ?_
          rotate_left
          · intro w; go_simp; try rfl
          try simp only [Act.put, List.setIfInBounds_toArray, List.set_cons_zero, List.set_cons_succ]
          refine wpAny_ready (rs := [11]) (by kernel_rfl) (by simp) ?_
          refine AllReady.cons (o := ⟨none, _, _, _, _, _⟩) rfl (fun K hK => ?_) AllReady.nil
          go_simp
          refine hK _ _ ?_
          clear hK K
          try simp only [Act.put, List.setIfInBounds_toArray, List.set_cons_zero, List.set_cons_succ]
          refine wpAny_done (by kernel_rfl) ?_ _
          clear hwrap
          have bk7 := bk6.set_ s (.int .i64 (v + u))
          have hb7 := hb6.setCell (p := ⟨g, s, none⟩) hg0 (.int .i64 (v + u))
          clear bk5 bk6 v5 v6 f5 f6 b5 b6
          go_wp2_with fail
          exact ⟨⟨k + 1, _, by omega, by go_num, bk7, HNX.out, hb7⟩, by simp [intOf]; omega⟩
      · obtain rfl : k = pl.length := by omega
        have HR : Hid (Own 3 wr W0.heap.size wr.heap.size (some ⟨g, 0, none⟩) N) := by rw [HO.out]; exact Own.of_blk hblk hg0 hblk.lt HC.out
        have HLN : Hid (m = N.length) := by show _ = _; rw [HO.out, rowsTo_length]
        clear hblk
        go_wp2_with fail
        go_ret
        exact ⟨some ⟨g, 0, none⟩, m, by rw [← HLN.out]; rfl, by rw [← HLN.out]; exact Nat.le_refl _, HR.out.wide HZ0.out (Nat.le_refl _), HFIN.out _ hbw⟩
set_option maxHeartbeats 6400000 in
set_option maxRecDepth 20000 in
theorem rows_spec (h : HullV) (A P : Option Addr) (l : List BoxV) (pl : List Int) (c d : Nat) (w : World) (ha : RdBox w A l) (hl : l.length ≤ 1048576) (hp : Rd w P pl) (hpl : pl.length ≤ 1048576) (hpd : pl.length ≤ d) :
    Calls Try.prog 75 #[.agg #[.int .i64 h.bays, .int .i64 h.rows, .int .i64 h.tiers], .slice A l.length c, .slice P pl.length d] w (AnsC (fun s => s) (rowsS h l pl).length (rowsS h l pl) 3 w) := by
  obtain ⟨i0, hi, hz0, hz1, hz2⟩ := info_parts info_int
  obtain ⟨N, HN⟩ : ∃ N, Hid (rowsS h l pl = N) := ⟨_, rfl⟩
  rw [HN.out]
  have kx := Blk.new w 36 #[.int .i64 h.bays, .int .i64 h.rows, .int .i64 h.tiers]
  have bx : Below w.heap.size w (w.alloc (.cells #[.int .i64 h.bays, .int .i64 h.rows, .int .i64 h.tiers] 36)) := below_one _
  obtain ⟨W0, HW0⟩ : ∃ W0, Hid (w.alloc (.cells #[.int .i64 h.bays, .int .i64 h.rows, .int .i64 h.tiers] 36) = W0) := ⟨_, rfl⟩
  rw [HW0.out] at kx bx
  have HA0 := Lib.hid (ha.below bx)
  have HP0 := Lib.hid (hp.below bx)
  obtain ⟨X, HX⟩ : ∃ X, Hid (w.heap.size = X) := ⟨_, rfl⟩
  rw [HX.out] at kx
  have hXl := kx.lt
  have HFIN : Hid (∀ W, Below W0.heap.size W0 W → Below w.heap.size w W) := fun W hW => bx.trans (hW.mono bx.size)
  have HZ0 : Hid (w.heap.size ≤ W0.heap.size) := bx.size
  have HZX : Hid (W0.heap.size = X + 1) := by show _ = _; rw [← HW0.out, ← HX.out]; simp
  have HS : Hid (∀ W, Below W0.heap.size W0 W → W.cell? ⟨X, 0, none⟩ = some (.int .i64 h.bays) ∧ W.cell? ⟨X, 1, none⟩ = some (.int .i64 h.rows) ∧ W.cell? ⟨X, 2, none⟩ = some (.int .i64 h.tiers)) := fun W hW => ⟨(kx.below hW hXl).cell 0, (kx.below hW hXl).cell 1, (kx.below hW hXl).cell 2⟩
  have B0 := Below.refl W0.heap.size W0
  obtain ⟨z0, z1, z2⟩ := HS.out W0 B0
  clear kx bx hXl ha hp
  have HPV : Hid (∀ W, Below W0.heap.size W0 W → Calls Try.prog 35 #[.agg #[.int .i64 h.bays, .int .i64 h.rows, .int .i64 h.tiers], .slice A l.length c, .slice P pl.length d] W fun e w' => e = .returned (.bool (pvS h l pl)) ∧ Below W0.heap.size W0 w') := fun W hW => (pv_spec h A P l pl c d W (HA0.out.below hW) hl (HP0.out.below hW) hpl hpd).mono fun e w' ⟨h1, h2⟩ => ⟨h1, hW.trans (h2.mono hW.size)⟩
  have bl : Below W0.heap.size W0 (W0.alloc (.cells #[] 3)) := below_one _
  have hown0 : (W0.alloc (.cells #[] 3)).ownsRow W0.heap.size 3 1 (.slice (some ⟨W0.heap.size, 0, none⟩) 0 0) ([] : List Int).length (([] : List Int).map (Value.int .i64)) := World.ownsRow_lit W0 #[] 0 (Nat.le_refl _) (by unfold maxLen; omega) rfl
  cases hv : pvS h l pl with
  | false =>
    have HO : Hid (N = []) := by show _ = _; rw [← HN.out]; unfold rowsS; rw [hv]; rfl
    have HPF : Hid (∀ W, Below W0.heap.size W0 W → _) := fun W hW => bool_to' (HPV.out W hW) hv
    have HBL := Lib.hid bl
    clear hv
    clear z0 z1 z2
    obtain ⟨z0, z1, z2⟩ := HS.out _ bl
    go_enter Try.func75, Try.ntmps75
    go_wp2_with fail
    rw [HW0.out, HX.out]
    refine (HPF.out _ HBL.out).mono ?_
    rintro e w1 ⟨rfl, b1⟩
    go_wp2_with fail
    go_ret
    rw [HO.out]
    exact ⟨_, _, rfl, Nat.le_refl _, Own.nil_, HFIN.out _ b1⟩
  | true =>
    have HPT : Hid (∀ W, Below W0.heap.size W0 W → Calls Try.prog 35 #[.agg #[.int .i64 h.bays, .int .i64 h.rows, .int .i64 h.tiers], .slice A l.length c, .slice P pl.length d] W fun e w' => e = .returned (.bool true) ∧ Below W.heap.size W w') := fun W hW => bool_to (pv_spec h A P l pl c d W (HA0.out.below hW) hl (HP0.out.below hW) hpl hpd) hv
    have HO : Hid (N = rowsTo l (tiersV h) pl (rowsV h) pl.length) := by show _ = _; rw [← HN.out]; unfold rowsS; rw [hv]; rfl
    have HK := Lib.hid (pv_of hv).1
    have HNL := Lib.hid (pv_of hv).2.2.1
    have HOK := Lib.hid (ids_ok hv)
    have HNT := Lib.hid (hull_nat HK.out)
    have hn36 : pl.length ≤ 36 := by have := (slots_bd HK.out).2.2; have := HNL.out; omega
    obtain ⟨t, HT⟩ : ∃ t, Hid (tiersV h = t) := ⟨_, rfl⟩
    obtain ⟨m, HM⟩ : ∃ m, Hid (rowsV h = m) := ⟨_, rfl⟩
    have hNT := HNT.out
    rw [HT.out, HM.out] at hNT HO
    obtain ⟨n1, n2, n3, n4, n5, n6, n7⟩ := hNT
    have HN1 := Lib.hid n1
    have HN3 : Hid (pl.length = m * t) := by show _ = _; rw [← n3]; exact HNL.out
    have ht3 : h.tiers ≤ 3 := by omega
    have ht1 : 1 ≤ h.tiers := by omega
    clear hv n1 n2 n3 HNT
    clear z0 z1 z2
    obtain ⟨z0, z1, z2⟩ := HS.out _ bl
    go_enter Try.func75, Try.ntmps75
    go_wp2_with fail
    rw [HW0.out, HX.out]
    refine (HPT.out _ bl).mono ?_
    rintro e w1 ⟨rfl, b1⟩
    have hown1 := row_chg hown0 (Chg.of_below (lo := 0) (hi := 0) b1 (Nat.le_refl _)) (Nat.zero_le _)
    have b1 := bl.trans (b1.mono bl.size)
    clear z0 z1 z2 bl hown0
    go_wp2_with fail
    go_loopw [7, 8] (fun v i wr => ∃ (i' rw_ : Nat) (L : List Int), i' ≤ m ∧ i = .int .i64 rw_ ∧ rw_ ≤ 36 ∧ Hid (rw_ = i' * t) ∧ L.length ≤ 36 ∧ Hid ((rowsTo l t pl m pl.length).take i' = L) ∧ wr.ownsRow W0.heap.size 3 1 v L.length (L.map (Value.int .i64)) ∧ Below W0.heap.size W0 wr) (fun _ i _ => 100 - (intOf i).toNat)
    case atStart => exact ⟨0, 0, [], by omega, rfl, by omega, (Nat.zero_mul _).symm, by simp, rfl, by rw [← HZX.out]; exact hown1, b1⟩
    case round =>
      clear hown1 b1
      obtain ⟨i, rw_, L, hiM, rfl, hrw36, HRW, hL36, HL, hown, hbw⟩ := hrel
      by_cases hlt : i < m
      · have hmul : (i + 1) * t ≤ m * t := Nat.mul_le_mul_right t hlt
        have hrwn : rw_ + t ≤ pl.length := by have h1 := HRW.out; have h2 := HN3.out; rw [Nat.succ_mul] at hmul; omega
        have q1 : (rw_ : Int) < (pl.length : Int) := by omega
        clear hmul
        obtain ⟨z0, z1, z2⟩ := HS.out _ hbw
        go_wp2_with fail
        go_loop [9, 10] (fun s q => ∃ (j kk : Nat) (sv : Int), j ≤ t ∧ q = .int .i64 kk ∧ Hid (kk = rw_ + j) ∧ kk ≤ 40 ∧ s = .int .i64 sv ∧ 0 ≤ sv ∧ sv ≤ 2000 ∧ Hid (segTo l pl rw_ j = sv)) (fun _ q => 100 - (intOf q).toNat)
        case atStart => exact ⟨0, rw_, 0, by omega, rfl, rfl, by omega, rfl, by omega, by omega, rfl⟩
        case round =>
          obtain ⟨j, kk, sv, hj, rfl, HKK, hk40, rfl, hs0, hs9, HSG⟩ := hrel
          by_cases hlj : j < t
          · have p1 : (kk : Int) < (rw_ : Int) + h.tiers := by have h1 := HKK.out; have h2 := HN1.out; omega
            have hkn : kk < pl.length := by have h1 := HKK.out; omega
            have HW8 := Lib.hid (l8Weight_any A P l pl c d kk wr (HA0.out.below hbw) hl (HP0.out.below hbw) hpl hkn HOK.out)
            obtain ⟨u, HU⟩ : ∃ u, Hid (wtAt l pl kk = u) := ⟨_, rfl⟩
            rw [HU.out] at HW8
            have hub : 0 ≤ u ∧ u ≤ 30 := by rw [← HU.out]; exact wtAt_bd HOK.out kk
            obtain ⟨u0, u9⟩ := hub
            have HSN : Hid (segTo l pl rw_ (j + 1) = sv + u) := by
              show segTo l pl rw_ j + wtAt l pl (rw_ + j) = _
              rw [HSG.out, ← HKK.out, HU.out]
            have hsb : sv + u ≤ 2000 := by have := (segTo_bd HOK.out rw_ (j + 1)).2; rw [HSN.out] at this; omega
            go_wp2_with fail
            refine HW8.out.mono ?_
            rintro e w' ⟨rfl, rfl⟩
            go_wp2_with fail
            exact ⟨⟨j + 1, kk + 1, sv + u, by omega, by go_num, by show _ = _; have := HKK.out; omega, by omega, rfl, by omega, hsb, HSN.out⟩, by simp [intOf]; omega⟩
          · have p1 : ¬ (kk : Int) < (rw_ : Int) + h.tiers := by have h1 := HKK.out; have h2 := HN1.out; omega
            obtain rfl : j = t := by omega
            have HNX : Hid ((rowsTo l j pl m pl.length).take (i + 1) = L ++ [sv]) := by
              show _ = _
              rw [take_next (rowsTo_at hlt), HL.out, (sum_seg l j pl i (by omega) pl.length).2.2 (by have h1 := HRW.out; omega), ← HRW.out, HSG.out]
            have hLi : L.length ≤ 12 := by rw [← HL.out, List.length_take]; omega
            have hone : ∀ u ∈ [Value.int .i64 sv], u.oneCell' = true := fun u hu => by rw [List.mem_singleton.1 hu]; rfl
            have hbk := hown.lt
            have hsz := hbw.size
            go_wp2_with (at_builtin; refine wpList_append_own _ rfl _ _ 24 rfl W0.heap.size 3 i0 (.int .i64 0) 1 8 Try.underlying24 hi hz0 hz1 hz2 rfl (by decide) _ _ _ rfl (hown.alloc _) ⟨_, 0, none⟩ 1 1 [.int .i64 sv] rfl rfl (cell_one_new _ _ _) hone ?c3 ?c4 ?c5 ?_)
            case c3 => unfold maxLen; omega
            case c4 => omega
            case c5 => first | omega | (simp; omega)
            intro v' w9 hown9 hgrow _
            have hb5 := Lib.hid ((hbw.alloc hsz (.cells #[.int .i64 sv] 3)).grown hgrow (by first | omega | (simp; omega)) (fun b e => (hbk b e).1))
            have hown5 : Hid (w9.ownsRow W0.heap.size 3 1 v' (L ++ [sv]).length ((L ++ [sv]).map (Value.int .i64))) := by
              show World.ownsRow _ _ _ _ _ _ _
              rw [List.length_append, List.length_singleton]
              exact row_more hown9 rfl
            clear hown9 hgrow
            have z2' := (hb5.out.cell (p := ⟨X, 2, none⟩) (by have := HZX.out; show X < _; omega))
            obtain ⟨zz0, zz1, zz2⟩ := HS.out _ hb5.out
            clear z2'
            go_wp2_with fail
            exact ⟨⟨i + 1, rw_ + j, L ++ [sv], by omega, by rw [HN1.out]; go_num, by omega, by show _ = _; rw [Nat.succ_mul, ← HRW.out], by simp; omega, HNX.out, hown5.out, hb5.out⟩, by simp [intOf]; have := HN1.out; omega⟩
      · obtain rfl : i = m := by omega
        have HNE : Hid (N = L) := by show _ = _; rw [HO.out, ← HL.out, List.take_of_length_le (by rw [rowsTo_length]; exact Nat.le_refl _)]
        have HROW := Lib.hid hown
        have q1 : ¬ (rw_ : Int) < (pl.length : Int) := by have h1 := HRW.out; have h2 := HN3.out; omega
        clear hown
        go_wp2_with fail
        go_ret
        rw [HNE.out]
        exact row_ans HROW.out HZ0.out (HFIN.out _ hbw)
end Go.Proofs.Ytphncbnnnickhaa
