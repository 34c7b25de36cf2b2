/- FillPlan of the program and of the reference: the walks. -/
import Derived.Test.YtphncbnnnickhaaFillP
import Derived.Test.YtphncbnnnickhaaFillOrd2
namespace Go.Proofs.Ytphncbnnnickhaa
open Go.RowKit
set_option linter.unusedVariables false
set_option linter.unusedSimpArgs false

theorem ansC_of' {v : Value → Value} {L L' : List Int} {t : TypeId} {f : FuncId} {args : Array Value} {w : World} (h : Calls Try.prog f args w (AnsC v L.length L t w)) (e : L = L') : Calls Try.prog f args w (AnsC v L'.length L' t w) := by rw [← e]; exact h
set_option maxHeartbeats 12800000 in
set_option maxRecDepth 20000 in
theorem fillp_impl (h : HullV) (A : Option Addr) (l : List BoxV) (c : Nat) (w : World) (ha : RdBox w A l) (hl : l.length ≤ 1048576) (hlc : l.length ≤ c) :
    Calls Try.prog 19 #[.agg #[.int .i64 h.bays, .int .i64 h.rows, .int .i64 h.tiers], .slice A l.length c] w (AnsC (fun s => s) (fillP h l).length (fillP h l) 3 w) := by
  obtain ⟨i0, hi, hz0, hz1, hz2⟩ := info_parts info_int
  obtain ⟨N, HN⟩ : ∃ N, Hid (fillP h l = N) := ⟨_, rfl⟩
  rw [HN.out]
  have kx := Blk.new w 36 #[.int .i64 h.bays, .int .i64 h.rows, .int .i64 h.tiers]
  have bx : Below w.heap.size w (w.alloc (.cells #[.int .i64 h.bays, .int .i64 h.rows, .int .i64 h.tiers] 36)) := below_one _
  obtain ⟨W0, HW0⟩ : ∃ W0, Hid (w.alloc (.cells #[.int .i64 h.bays, .int .i64 h.rows, .int .i64 h.tiers] 36) = W0) := ⟨_, rfl⟩
  rw [HW0.out] at kx bx
  have HA0 := Lib.hid (ha.below bx)
  obtain ⟨X, HX⟩ : ∃ X, Hid (w.heap.size = X) := ⟨_, rfl⟩
  rw [HX.out] at kx
  have hXl := kx.lt
  have HFIN : Hid (∀ W, Below W0.heap.size W0 W → Below w.heap.size w W) := fun W hW => bx.trans (hW.mono bx.size)
  have HZ0 : Hid (w.heap.size ≤ W0.heap.size) := bx.size
  have HS : Hid (∀ W, Below W0.heap.size W0 W → W.cell? ⟨X, 0, none⟩ = some (.int .i64 h.bays) ∧ W.cell? ⟨X, 1, none⟩ = some (.int .i64 h.rows) ∧ W.cell? ⟨X, 2, none⟩ = some (.int .i64 h.tiers)) := fun W hW => ⟨(kx.below hW hXl).cell 0, (kx.below hW hXl).cell 1, (kx.below hW hXl).cell 2⟩
  have B0 := Below.refl W0.heap.size W0
  obtain ⟨z0, z1, z2⟩ := HS.out W0 B0
  clear kx bx hXl ha
  by_cases hk : hullOk h
  · have HE := Lib.hid (empty_impl h W0 hk)
    have HK := Lib.hid hk
    have hs36 := (slots_bd hk).2
    obtain ⟨ns, HNS⟩ : ∃ n, Hid (slotsV h = n) := ⟨_, rfl⟩
    rw [HNS.out] at HE hs36
    clear hk
    cases hv : bvS l with
    | false =>
      have HO : Hid (N = []) := by show _ = _; rw [← HN.out]; exact fillP_noboxes hv
      have HQ : Hid (∀ W, Below W0.heap.size W0 W → Calls Try.prog 39 #[.slice A l.length c] W fun e w' => e = .returned (.bool false) ∧ Below W.heap.size W w') := fun W hW => bool_to (bsv_impl A l c W (HA0.out.below hW) hl hlc) hv
      clear hv
      go_enter Try.func19, Try.ntmps19
      go_wp2_with fail
      rw [HW0.out, HX.out]
      refine HE.out.mono ?_
      rintro e w1 ⟨g, rfl, row, b1⟩
      have hnil := fun W => Lib.run_eql_slice_nil (P := Try.prog) W 24 3 (some ⟨g, 0, none⟩) ns ns 0 0 Try.underlying24
      go_wp2_with fail
      refine (HQ.out _ b1).mono ?_
      rintro e w2 ⟨rfl, b2⟩
      have b12 := b1.trans (b2.mono b1.size)
      clear hnil
      go_wp2_with fail
      go_ret
      rw [HO.out]
      exact ⟨none, 0, rfl, Nat.le_refl _, Own.nil_, HFIN.out _ b12⟩
    | true =>
      have HO : Hid (N = fillTo h l (fillS l).length) := by show _ = _; rw [← HN.out]; exact fillP_yes hv
      have HQ : Hid (∀ W, Below W0.heap.size W0 W → Calls Try.prog 39 #[.slice A l.length c] W fun e w' => e = .returned (.bool true) ∧ Below W.heap.size W w') := fun W hW => bool_to (bsv_impl A l c W (HA0.out.below hW) hl hlc) hv
      have HI := Lib.hid (fun k => (fill_inv (l := l) HK.out hv k).1)
      obtain ⟨D, HD⟩ : ∃ D, Hid (fillS l = D) := ⟨_, rfl⟩
      have hD10 : D.length ≤ 10 := by rw [← HD.out]; exact fillS_short l
      have HFO : Hid (∀ W, Below W0.heap.size W0 W → Calls Try.prog 11 #[.slice A l.length c] W (AnsC (fun s => s) D.length D 3 W)) := fun W hW => ansC_of' (fo_impl A l c W (HA0.out.below hW) hl hlc) HD.out
      have HL0 : Hid (∀ k, (fillTo h l k).length = ns) := fun k => by
        rw [fillTo_length]; unfold emptyS; rw [if_pos HK.out, zeros_length]; exact HNS.out
      rw [HD.out] at HO
      clear hv
      go_enter Try.func19, Try.ntmps19
      go_wp2_with fail
      rw [HW0.out, HX.out]
      refine HE.out.mono ?_
      rintro e w1 ⟨g, rfl, row, b1⟩
      have hnil := fun W => Lib.run_eql_slice_nil (P := Try.prog) W 24 3 (some ⟨g, 0, none⟩) ns ns 0 0 Try.underlying24
      obtain ⟨g', cs0, eg, hg0, hg1, bk0, cc0⟩ := own_blk (Own.of_row row (Nat.le_refl _)) (by rw [zeros_length]; omega)
      injection eg with eg
      injection eg with eg
      subst eg
      go_wp2_with fail
      refine (HQ.out _ b1).mono ?_
      rintro e w2 ⟨rfl, b2⟩
      have b12 := b1.trans (b2.mono b1.size)
      have bk2 := bk0.below b2 hg1
      clear hnil row b1 bk0
      go_wp2_with fail
      refine (HFO.out _ b12).mono ?_
      rintro e w3 ⟨DA, dc, rfl, hdc, od, b3⟩
      have b13 := b12.trans (b3.mono b12.size)
      have bk3 := bk2.below b3 bk2.lt
      have hg2 : g < w2.heap.size := bk2.lt
      have HRD : Hid (∀ W, Chg g (g + 1) w3 W → Rd W DA D) := fun W hW => (od.chg hW (.inr (by omega))).rd
      have HC0 : Hid (∀ (k : Nat) (x : Int), (fillTo h l 0)[k]? = some x → cs0[k]? = some (.int .i64 x)) := by
        have e : fillTo h l 0 = zeros ns := by show emptyS h = _; unfold emptyS; rw [if_pos HK.out, HNS.out]
        rw [e]; exact cc0
      clear b2 b3 bk2 b12 od cc0 z0 z1 z2
      go_wp2_with fail
      go_loopw [21] (fun i wr => ∃ (k : Nat) (cs : Array Value), k ≤ D.length ∧ i = .int .i64 k ∧ Blk wr g 3 cs ∧ Hid (∀ (j : Nat) (x : Int), (fillTo h l k)[j]? = some x → cs[j]? = some (.int .i64 x)) ∧ Chg g (g + 1) w3 wr ∧ Below W0.heap.size W0 wr) (fun i _ => D.length - (intOf i).toNat)
      case atStart => exact ⟨0, cs0, by omega, rfl, bk3, HC0.out, Chg.refl _ _ _, b13⟩
      case round =>
        obtain ⟨k, cs, hk, rfl, bk, HC, hch, hbw⟩ := hrel
        by_cases hlt : k < D.length
        · obtain ⟨bD, oD, id, eD, hbD, Hid2, hid2⟩ := (HRD.out _ hch).at_ (k := k) hlt
          subst eD
          have q0 : (0 : Int) ≤ (k : Int) := by omega
          have q1 : (k : Int) < (D.length : Int) := by omega
          obtain ⟨p, HP⟩ : ∃ p, Hid (fillTo h l k = p) := ⟨_, rfl⟩
          have hpn : p.length = ns := by rw [← HP.out]; exact HL0.out k
          have HPN := Lib.hid hpn
          have HCC : Hid (∀ (j : Nat) (x : Int), p[j]? = some x → cs[j]? = some (.int .i64 x)) := by rw [← HP.out]; exact HC.out
          have HPV : Hid (pvS h l p = true) := by show _ = _; rw [← HP.out]; exact HI.out k
          have HRP : Hid (∀ W, Below wr.heap.size wr W → Rd W (some ⟨g, 0, none⟩) p) := fun W hW => (Own.of_blk (bk.below hW bk.lt) (Nat.le_refl g) (Nat.lt_succ_self g) HCC.out).rd
          obtain ⟨v, HV⟩ : ∃ v, Hid (lightS h l p = v) := ⟨_, rfl⟩
          obtain ⟨NX, HNX⟩ : ∃ x, Hid (nextS h l p = x) := ⟨_, rfl⟩
          have HNXT : Hid (∀ W, Below W0.heap.size W0 W → Below wr.heap.size wr W → Calls Try.prog 51 #[.agg #[.int .i64 h.bays, .int .i64 h.rows, .int .i64 h.tiers], .slice A l.length c, .slice (some ⟨g, 0, none⟩) ns ns] W (AnsC (fun s => s) NX.length NX 3 W)) := fun W hW hW2 => by
            have hq := next_impl h A (some ⟨g, 0, none⟩) l p c ns W (HA0.out.below hW) hl hlc (HRP.out W hW2) (by omega) (by omega)
            rw [HNX.out, hpn] at hq
            exact hq
          have HLGT : Hid (∀ (SA : Option Addr) (sc : Nat) (W : World), Below W0.heap.size W0 W → Below wr.heap.size wr W → Rd W SA NX → Calls Try.prog 50 #[.agg #[.int .i64 h.bays, .int .i64 h.rows, .int .i64 h.tiers], .slice A l.length c, .slice (some ⟨g, 0, none⟩) ns ns, .slice SA NX.length sc] W fun e w' => e = .returned (.int .i64 v) ∧ Below W.heap.size W w') := fun SA sc W hW hW2 hs => by
            have hq := light_impl h A (some ⟨g, 0, none⟩) SA l p NX c ns sc W (HA0.out.below hW) hl hlc (HRP.out W hW2) (by omega) (by omega) hs HNX.out
            rw [HV.out, hpn] at hq
            exact hq
          have hgl := bk.lt
          have HBK := Lib.hid bk
          have HCH := Lib.hid hch
          have B9 := Below.refl wr.heap.size wr
          clear bk hch hpn
          go_wp2_with fail
          refine wp_region_held_drew (S := (fun W => W.cell? ⟨X, 0, none⟩ = some (.int .i64 h.bays) ∧ W.cell? ⟨X, 1, none⟩ = some (.int .i64 h.rows) ∧ W.cell? ⟨X, 2, none⟩ = some (.int .i64 h.tiers))) (by kernel_rfl) (by (try dsimp only); exact HS.out _ (bel_drB hbw)) (fun hHeld => ?_)
          refine wpAnyH_take (i := 0) (oi := ⟨some 25, _, _, _, _, _⟩) (v := ?_) rfl (by kernel_rfl) (by kernel_rfl) (by kernel_rfl) (fun _ _ _ h => h) (Or.inl ⟨by rfl, ?_⟩) (by assumption) ?_
          rotate_left
          · intro w hSw; (try dsimp only at hSw); go_simp; try rfl
          try simp only [Act.put, List.setIfInBounds_toArray, List.set_cons_zero, List.set_cons_succ]
          refine wpAnyH_take (i := 1) (oi := ⟨some 26, _, _, _, _, _⟩) (v := ?_) rfl (by kernel_rfl) (by kernel_rfl) (by kernel_rfl) (fun _ _ _ h => h) (Or.inl ⟨by rfl, ?_⟩) (by assumption) ?_
          rotate_left
          · intro w hSw; (try dsimp only at hSw); go_simp; try rfl
          try simp only [Act.put, List.setIfInBounds_toArray, List.set_cons_zero, List.set_cons_succ]
          refine wpAnyH_take (i := 2) (oi := ⟨some 27, _, _, _, _, _⟩) (v := ?_) rfl (by kernel_rfl) (by kernel_rfl) (by kernel_rfl) (fun _ _ _ h => h) (Or.inl ⟨by rfl, ?_⟩) (by assumption) ?_
          rotate_left
          · intro w hSw; (try dsimp only at hSw); go_simp; try rfl
          try simp only [Act.put, List.setIfInBounds_toArray, List.set_cons_zero, List.set_cons_succ]
          refine wpAnyH_take (i := 3) (oi := ⟨some 28, _, _, _, _, _⟩) (v := ?_) rfl (by kernel_rfl) (by kernel_rfl) (by kernel_rfl) (fun _ _ _ h => h) (Or.inl ⟨by rfl, ?_⟩) (by assumption) ?_
          rotate_left
          · intro w hSw; (try dsimp only at hSw); go_simp; try rfl
          try simp only [Act.put, List.setIfInBounds_toArray, List.set_cons_zero, List.set_cons_succ]
          refine wpAnyH_take (i := 4) (oi := ⟨some 29, _, _, _, _, _⟩) (v := ?_) rfl (by kernel_rfl) (by kernel_rfl) (by kernel_rfl) (fun _ _ _ h => h) (Or.inl ⟨by rfl, ?_⟩) (by assumption) ?_
          rotate_left
          · intro w hSw; (try dsimp only at hSw); go_simp; try rfl
          try simp only [Act.put, List.setIfInBounds_toArray, List.set_cons_zero, List.set_cons_succ]
          refine wpAnyH_take (i := 5) (oi := ⟨some 30, _, _, _, _, _⟩) (v := ?_) rfl (by kernel_rfl) (by kernel_rfl) (by kernel_rfl) (fun _ _ _ h => h) (Or.inl ⟨by rfl, ?_⟩) (by assumption) ?_
          rotate_left
          · intro w hSw; (try dsimp only at hSw); go_simp; try rfl
          try simp only [Act.put, List.setIfInBounds_toArray, List.set_cons_zero, List.set_cons_succ]
          refine wpAnyH_ready (rs := [6]) (by kernel_rfl) (by simp) ?_
          refine AllReadyH.cons (o := ⟨some 31, _, _, _, _, _⟩) rfl (fun K hK => ?_) AllReadyH.nil
          go_simp
          refine (HNXT.out _ (bel_drB hbw) (below_drewN B9 1)).mono ?_
          rintro e w4 ⟨SA, sc, rfl, hsc, os, b4⟩
          dsimp only
          have c4 := (bel_drB hbw).trans (b4.mono (bel_drB hbw).size); have d4 : Below wr.heap.size wr w4 := (below_drewN B9 1).trans b4
          refine hK.out _ _ ?_ (fun hHeld => ?_)
          · (try dsimp only); (exact HS.out _ c4)
          clear hK K
          try simp only [Act.put, List.setIfInBounds_toArray, List.set_cons_zero, List.set_cons_succ]
          refine wpAnyH_ready (rs := [7]) (by kernel_rfl) (by simp) ?_
          refine AllReadyH.cons (o := ⟨some 32, _, _, _, _, _⟩) rfl (fun K hK => ?_) AllReadyH.nil
          go_simp
          refine (HLGT.out SA sc w4 c4 d4 os.rd).mono ?_
          rintro e w5 ⟨rfl, b5⟩
          dsimp only
          have c5 := c4.trans (b5.mono c4.size)
          refine hK.out _ _ ?_ (fun hHeld => ?_)
          · (try dsimp only); (exact HS.out _ c5)
          clear hK K
          try simp only [Act.put, List.setIfInBounds_toArray, List.set_cons_zero, List.set_cons_succ]
          refine wpAnyH_take (i := 8) (oi := ⟨some 8, _, _, _, _, _⟩) (v := ?_) rfl (by kernel_rfl) (by kernel_rfl) (by kernel_rfl) (fun _ _ _ h => h) (Or.inl ⟨by rfl, ?_⟩) (by assumption) ?_
          rotate_left
          · intro w hSw; (try dsimp only at hSw); go_simp; try rfl
          try simp only [Act.put, List.setIfInBounds_toArray, List.set_cons_zero, List.set_cons_succ]
          refine wpAnyH_done (by kernel_rfl) ?_ _
          have e5 : Below wr.heap.size wr w5 := d4.trans (b5.mono d4.size)
          have bk5 := HBK.out.below e5 hgl
          have ch5 := HCH.out.trans (Chg.of_below (lo := g) (hi := g + 1) e5 (Nat.le_refl _))
          clear b4 b5 os d4
          by_cases hvn : v < 0
          · have tv : decide (v < 0) = true := decide_eq_true hvn
            have HNE : Hid (N = p) := by
              show _ = _
              rw [HO.out, ← HP.out]
              exact fillTo_end (by rw [HP.out, HV.out]; exact hvn) _ hk
            have HOW : Hid (Own 3 w5 W0.heap.size w5.heap.size (some ⟨g, 0, none⟩) p) := Own.of_blk bk5 hg0 bk5.lt HCC.out
            clear hvn bk5 ch5
            go_wp2_with fail
            go_ret
            rw [HNE.out, HPN.out]
            exact ⟨some ⟨g, 0, none⟩, ns, rfl, Nat.le_refl _, HOW.out.wide HZ0.out (Nat.le_refl _), HFIN.out _ c5⟩
          · have tv : decide (v < 0) = false := decide_eq_false hvn
            obtain ⟨s, rfl⟩ := Int.eq_ofNat_of_zero_le (Int.not_lt.1 hvn)
            have hsl : s < ns := by
              rcases light_mem h l p with h1 | h1
              · rw [HV.out] at h1; omega
              · rw [HV.out] at h1
                obtain ⟨_, i, e1, h2, _⟩ := nextS_mem h1
                have := HPN.out
                omega
            have HNX2 : Hid (fillTo h l (k + 1) = p.set s id) := by
              show _ = _
              rw [fillTo_put (by rw [HD.out]; exact Hid2.out) (by rw [HP.out, HV.out]; exact hvn), HP.out, HV.out, Int.toNat_natCast]
            have hps : s < p.length := by have := HPN.out; omega
            have cz := (bk5.cell s).trans (HCC.out s _ (List.getElem?_eq_getElem hps))
            have fz := bk5.frozen s
            have p0 : (0 : Int) ≤ (s : Int) := by omega
            have p1 : (s : Int) < (ns : Int) := by omega
            have HC5 : Hid (∀ (j : Nat) (x : Int), (fillTo h l (k + 1))[j]? = some x → (cs.setIfInBounds s (.int .i64 id))[j]? = some (.int .i64 x)) := by rw [HNX2.out]; exact cells_set id hps HCC.out
            have hid5 := HRD.out _ ch5
            obtain ⟨bD2, oD2, eD2, _, hid5⟩ := hid5 k id Hid2.out
            injection eD2 with eD2
            injection eD2 with eD2a eD2b eD2c
            subst eD2a eD2b
            clear eD2c hvn
            have HB5 := Lib.hid bk5
            have HCH5 := Lib.hid ch5
            clear bk5 ch5
            go_wp2_with fail
            exact ⟨⟨k + 1, _, by omega, by go_num, HB5.out.set_ s (.int .i64 id), HC5.out, HCH5.out.setCell (p := ⟨g, s, none⟩) (Nat.le_refl _) (Nat.lt_succ_self _) _, c5.setCell (p := ⟨g, s, none⟩) hg0 _⟩, by simp [intOf]; omega⟩
        · obtain rfl : k = D.length := by omega
          have HOW : Hid (Own 3 wr W0.heap.size wr.heap.size (some ⟨g, 0, none⟩) N) := by rw [HO.out]; exact Own.of_blk bk hg0 bk.lt HC.out
          have HLN : Hid (N.length = ns) := by show _ = _; rw [HO.out]; exact HL0.out _
          clear bk hch
          go_wp2_with fail
          go_ret
          rw [HLN.out]
          exact ⟨some ⟨g, 0, none⟩, ns, rfl, Nat.le_refl _, HOW.out.wide HZ0.out (Nat.le_refl _), HFIN.out _ hbw⟩
  · have HE := Lib.hid (empty_impl_no h W0 hk)
    have HO : Hid (N = []) := by show _ = _; rw [← HN.out]; exact fillP_nohull hk
    have hnil : ∀ w : World, (binOp .eql 24 (.slice none 0 0) (.slice none 0 0)).run Try.prog w = .ok (.bool true) w := fun w => by kernel_rfl
    clear hk
    go_enter Try.func19, Try.ntmps19
    go_wp2_with fail
    rw [HW0.out, HX.out]
    refine HE.out.mono ?_
    rintro e w1 ⟨rfl, b1⟩
    go_wp2_with fail
    go_ret
    rw [HO.out]
    exact ⟨none, 0, rfl, Nat.le_refl _, Own.nil_, HFIN.out _ b1⟩
set_option maxHeartbeats 12800000 in
set_option maxRecDepth 20000 in
theorem fillp_spec (h : HullV) (A : Option Addr) (l : List BoxV) (c : Nat) (w : World) (ha : RdBox w A l) (hl : l.length ≤ 1048576) (hlc : l.length ≤ c) :
    Calls Try.prog 17 #[.agg #[.int .i64 h.bays, .int .i64 h.rows, .int .i64 h.tiers], .slice A l.length c] w (AnsC (fun s => s) (fillP h l).length (fillP h l) 3 w) := by
  obtain ⟨i0, hi, hz0, hz1, hz2⟩ := info_parts info_int
  obtain ⟨N, HN⟩ : ∃ N, Hid (fillP h l = N) := ⟨_, rfl⟩
  rw [HN.out]
  have kx := Blk.new w 36 #[.int .i64 h.bays, .int .i64 h.rows, .int .i64 h.tiers]
  have bx : Below w.heap.size w (w.alloc (.cells #[.int .i64 h.bays, .int .i64 h.rows, .int .i64 h.tiers] 36)) := below_one _
  obtain ⟨W0, HW0⟩ : ∃ W0, Hid (w.alloc (.cells #[.int .i64 h.bays, .int .i64 h.rows, .int .i64 h.tiers] 36) = W0) := ⟨_, rfl⟩
  rw [HW0.out] at kx bx
  have HA0 := Lib.hid (ha.below bx)
  obtain ⟨X, HX⟩ : ∃ X, Hid (w.heap.size = X) := ⟨_, rfl⟩
  rw [HX.out] at kx
  have hXl := kx.lt
  have HFIN : Hid (∀ W, Below W0.heap.size W0 W → Below w.heap.size w W) := fun W hW => bx.trans (hW.mono bx.size)
  have HZ0 : Hid (w.heap.size ≤ W0.heap.size) := bx.size
  have HS : Hid (∀ W, Below W0.heap.size W0 W → W.cell? ⟨X, 0, none⟩ = some (.int .i64 h.bays) ∧ W.cell? ⟨X, 1, none⟩ = some (.int .i64 h.rows) ∧ W.cell? ⟨X, 2, none⟩ = some (.int .i64 h.tiers)) := fun W hW => ⟨(kx.below hW hXl).cell 0, (kx.below hW hXl).cell 1, (kx.below hW hXl).cell 2⟩
  have B0 := Below.refl W0.heap.size W0
  obtain ⟨z0, z1, z2⟩ := HS.out W0 B0
  clear kx bx hXl ha
  cases hv : bvS l with
  | false =>
    have HO : Hid (N = []) := by show _ = _; rw [← HN.out]; exact fillP_noboxes hv
    have HQ := Lib.hid (bool_to (bsv_spec A l c W0 HA0.out hl) hv)
    clear hv
    go_enter Try.func17, Try.ntmps17
    go_wp2_with fail
    rw [HW0.out, HX.out]
    refine HQ.out.mono ?_
    rintro e w1 ⟨rfl, b1⟩
    have b2 := b1.alloc b1.size (.cells #[] 3)
    go_wp2_with fail
    go_ret
    rw [HO.out]
    exact ⟨_, _, rfl, Nat.le_refl _, Own.nil_, HFIN.out _ b2⟩
  | true =>
    have HO : Hid (N = fillTo h l (fillS l).length) := by show _ = _; rw [← HN.out]; exact fillP_yes hv
    have HQ := Lib.hid (bool_to (bsv_spec A l c W0 HA0.out hl) hv)
    have HVT := Lib.hid hv
    obtain ⟨D, HD⟩ : ∃ D, Hid (fillS l = D) := ⟨_, rfl⟩
    have hD10 : D.length ≤ 10 := by rw [← HD.out]; exact fillS_short l
    have HFO : Hid (∀ W, Below W0.heap.size W0 W → Calls Try.prog 9 #[.slice A l.length c] W (AnsC (fun s => s) D.length D 3 W)) := fun W hW => ansC_of' (fo_spec A l c W (HA0.out.below hW) hl) HD.out
    have HEM : Hid (∀ W, Calls Try.prog 46 #[.agg #[.int .i64 h.bays, .int .i64 h.rows, .int .i64 h.tiers]] W (RowPost (emptyS h) W)) := fun W => empty_spec_all h W
    obtain ⟨E, HE⟩ : ∃ E, Hid (emptyS h = E) := ⟨_, rfl⟩
    rw [HE.out] at HEM
    have hE36 : E.length ≤ 36 := by
      rw [← HE.out]
      unfold emptyS
      split
      · next hk => rw [zeros_length]; exact (slots_bd hk).2.2
      · simp
    have HL0 : Hid (∀ k, (fillTo h l k).length = E.length) := fun k => by rw [fillTo_length, HE.out]
    rw [HD.out] at HO
    clear hv
    go_enter Try.func17, Try.ntmps17
    go_wp2_with fail
    rw [HW0.out, HX.out]
    refine HQ.out.mono ?_
    rintro e w1 ⟨rfl, b1⟩
    clear z0 z1 z2
    obtain ⟨z0, z1, z2⟩ := HS.out _ b1
    go_wp2_with fail
    refine (HEM.out _).mono ?_
    rintro e w2 ⟨A0, c0, rfl, hc0, row, b2⟩
    have b12 := b1.trans (b2.mono b1.size)
    have o2 := (Own.of_row row (Nat.le_refl _)).wide b1.size (Nat.le_refl _)
    clear z0 z1 z2 row b2 b1
    go_wp2_with fail
    refine (HFO.out _ b12).mono ?_
    rintro e w3 ⟨DA, dc, rfl, hdc, od, b3⟩
    have b13 := b12.trans (b3.mono b12.size)
    have o3 := (o2.below b3 (Nat.le_refl _)).wide (Nat.le_refl _) b3.size
    have HRD := Lib.hid od.rd
    have HB13 := Lib.hid b13
    clear o2 b12 b3 od
    go_wp2_with fail
    go_loopw [5, 7] (fun v i wr => ∃ (k : Nat) (p : List Int) (PA : Option Addr) (pc : Nat), k ≤ D.length ∧ i = .int .i64 k ∧ Hid (fillTo h l k = p) ∧ v = .slice PA p.length pc ∧ p.length ≤ pc ∧ Own 3 wr W0.heap.size wr.heap.size PA p ∧ Below w3.heap.size w3 wr) (fun _ i _ => D.length - (intOf i).toNat)
    case atStart => exact ⟨0, E, A0, c0, by omega, rfl, HE.out, rfl, hc0, o3, Below.refl _ _⟩
    case round =>
      clear o3 b13
      obtain ⟨k, p, PA, pc, hk, rfl, HP, rfl, hpc, op, hbr⟩ := hrel
      have hbw := HB13.out.trans (hbr.mono HB13.out.size)
      have hp36 : p.length ≤ 36 := by have := HL0.out k; rw [HP.out] at this; omega
      by_cases hlt : k < D.length
      · obtain ⟨bD, oD, id, eD, hbD, Hid2, hid2⟩ := (HRD.out.below hbr).at_ (k := k) hlt
        subst eD
        have q0 : (0 : Int) ≤ (k : Int) := by omega
        have q1 : (k : Int) < (D.length : Int) := by omega
        obtain ⟨v, HV⟩ : ∃ v, Hid (lightS h l p = v) := ⟨_, rfl⟩
        have HLGT := light_spec h A PA l p c pc wr (HA0.out.below hbw) hl op.rd (by omega) hpc
        rw [HV.out] at HLGT
        have HLGT := Lib.hid HLGT
        obtain ⟨z0, z1, z2⟩ := HS.out _ hbw
        have hvlo : -1 ≤ v := by
          rcases light_mem h l p with h1 | h1
          · rw [HV.out] at h1; omega
          · rw [HV.out] at h1
            obtain ⟨_, i, e1, _⟩ := nextS_mem h1
            omega
        go_wp2_with fail
        refine HLGT.out.mono ?_
        rintro e w4 ⟨rfl, b4⟩
        have hbw4 := hbw.trans (b4.mono hbw.size)
        have hbr4 := hbr.trans (b4.mono hbr.size)
        have op4 := (op.below b4 (Nat.le_refl _)).wide (Nat.le_refl _) b4.size
        clear z0 z1 z2 b4 op hbr hid2
        by_cases hvn : v < 0
        · have tv : decide (0 ≤ v) = false := by simpa using hvn
          have HNX : Hid (fillTo h l (k + 1) = p) := by show _ = _; rw [fillTo_stay (by rw [HD.out]; exact Hid2.out) (by rw [HP.out, HV.out]; exact hvn)]; exact HP.out
          clear hvn
          go_wp2_with fail
          exact ⟨⟨k + 1, p, PA, pc, by omega, by go_num, HNX.out, rfl, hpc, op4, hbr4⟩, by simp [intOf]; omega⟩
        · obtain ⟨s, rfl⟩ := Int.eq_ofNat_of_zero_le (Int.not_lt.1 hvn)
          have tv : decide ((0 : Int) ≤ (s : Int)) = true := by simp
          have HPV : Hid (pvS h l p = true ∧ s < p.length ∧ p[s]? = some 0) := by
            rcases light_mem h l p with h1 | h1
            · rw [HV.out] at h1; omega
            · rw [HV.out] at h1
              obtain ⟨a1, i, e1, h2, h3, _⟩ := nextS_mem h1
              obtain rfl : s = i := by omega
              exact ⟨a1, h2, h3⟩
          have HNX2 : Hid (fillTo h l (k + 1) = p.set s id) := by
            show _ = _
            rw [fillTo_put (by rw [HD.out]; exact Hid2.out) (by rw [HP.out, HV.out]; exact hvn), HP.out, HV.out, Int.toNat_natCast]
          have HPVN : Hid (pvS h l (p.set s id) = true) := by
            show _ = _
            rw [← HNX2.out]
            exact (fill_inv (pv_of HPV.out.1).1 HVT.out (k + 1)).1
          have HID0 : Hid (id ≠ 0) := by
            show _ ≠ _
            have hm : id ∈ fillS l := by rw [HD.out]; exact mem_at Hid2.out
            rw [fillS_yes HVT.out] at hm
            obtain ⟨x, hx, he⟩ := List.mem_map.1 hm
            have := (bvS_spec HVT.out).ok x ((ordB_mem l x).1 hx)
            unfold boxOk at this
            omega
          have HPS : Hid (putS h l p (s : Int) id = (p.set s id, true)) := by
            have hq := putS_yes (s := (s : Int)) (id := id) HPV.out.1 ⟨⟨by omega, by have := HPV.out.2.1; omega⟩, ⟨by rw [Int.toNat_natCast]; exact HPV.out.2.2, HID0.out⟩, by rw [Int.toNat_natCast]; exact HPVN.out⟩
            rw [Int.toNat_natCast] at hq
            exact hq
          have hset : (p.set s id).length = p.length := List.length_set ..
          have HPUT : Hid (∀ W, Below W0.heap.size W0 W → Below w4.heap.size w4 W → Calls Try.prog 48 #[.agg #[.int .i64 h.bays, .int .i64 h.rows, .int .i64 h.tiers], .slice A l.length c, .slice PA p.length pc, .int .i64 s, .int .i64 id] W fun e w' => ∃ A' c', e = .returned (.tuple #[.slice A' p.length c', .bool true]) ∧ p.length ≤ c' ∧ w'.ownsRow W.heap.size 3 1 (.slice A' p.length c') p.length ((p.set s id).map (Value.int .i64)) ∧ Below W.heap.size W w') := fun W hW hW2 => by
            have hq := put_spec h A PA l p c pc (s : Int) id W (HA0.out.below hW) hl (op4.below hW2 (Nat.le_refl _)).rd (by omega) hpc
            unfold PutPost at hq
            rw [HPS.out, hset] at hq
            exact hq
          have HKS : Hid (∀ W, Below w4.heap.size w4 W → W.cell? ⟨X, 0, none⟩ = some (.int .i64 h.bays) ∧ W.cell? ⟨X, 1, none⟩ = some (.int .i64 h.rows) ∧ W.cell? ⟨X, 2, none⟩ = some (.int .i64 h.tiers) ∧ W.cell? ⟨bD, oD + k, none⟩ = some (.int .i64 id)) := fun W hW => by
            obtain ⟨a0, a1, a2⟩ := HS.out W (hbw4.trans (hW.mono hbw4.size))
            obtain ⟨bD2, oD2, eD2, _, hid5⟩ := (HRD.out.below (hbr4.trans (hW.mono hbr4.size))) k id Hid2.out
            injection eD2 with eD2
            injection eD2 with eD2a eD2b eD2c
            subst eD2a eD2b
            exact ⟨a0, a1, a2, hid5⟩
          have B9 := Below.refl w4.heap.size w4
          have HSE := Lib.hid hset
          clear hvn op4 hset
          go_wp2_with fail
          refine wp_region_held_drew (S := (fun W => W.cell? ⟨X, 0, none⟩ = some (.int .i64 h.bays) ∧ W.cell? ⟨X, 1, none⟩ = some (.int .i64 h.rows) ∧ W.cell? ⟨X, 2, none⟩ = some (.int .i64 h.tiers) ∧ W.cell? ⟨bD, oD + k, none⟩ = some (.int .i64 id))) (by kernel_rfl) (by (try dsimp only); exact HKS.out _ (below_drewN B9 1)) (fun hHeld => ?_)
          refine wpAnyH_take (i := 0) (oi := ⟨some 32, _, _, _, _, _⟩) (v := ?_) rfl (by kernel_rfl) (by kernel_rfl) (by kernel_rfl) (fun _ _ _ h => h) (Or.inl ⟨by rfl, ?_⟩) (by assumption) ?_
          rotate_left
          · intro w hSw; (try dsimp only at hSw); go_simp; try rfl
          try simp only [Act.put, List.setIfInBounds_toArray, List.set_cons_zero, List.set_cons_succ]
          refine wpAnyH_take (i := 1) (oi := ⟨some 33, _, _, _, _, _⟩) (v := ?_) rfl (by kernel_rfl) (by kernel_rfl) (by kernel_rfl) (fun _ _ _ h => h) (Or.inl ⟨by rfl, ?_⟩) (by assumption) ?_
          rotate_left
          · intro w hSw; (try dsimp only at hSw); go_simp; try rfl
          try simp only [Act.put, List.setIfInBounds_toArray, List.set_cons_zero, List.set_cons_succ]
          refine wpAnyH_take (i := 2) (oi := ⟨some 34, _, _, _, _, _⟩) (v := ?_) rfl (by kernel_rfl) (by kernel_rfl) (by kernel_rfl) (fun _ _ _ h => h) (Or.inl ⟨by rfl, ?_⟩) (by assumption) ?_
          rotate_left
          · intro w hSw; (try dsimp only at hSw); go_simp; try rfl
          try simp only [Act.put, List.setIfInBounds_toArray, List.set_cons_zero, List.set_cons_succ]
          refine wpAnyH_take (i := 3) (oi := ⟨some 35, _, _, _, _, _⟩) (v := ?_) rfl (by kernel_rfl) (by kernel_rfl) (by kernel_rfl) (fun _ _ _ h => h) (Or.inl ⟨by rfl, ?_⟩) (by assumption) ?_
          rotate_left
          · intro w hSw; (try dsimp only at hSw); go_simp; try rfl
          try simp only [Act.put, List.setIfInBounds_toArray, List.set_cons_zero, List.set_cons_succ]
          refine wpAnyH_take (i := 4) (oi := ⟨some 36, _, _, _, _, _⟩) (v := ?_) rfl (by kernel_rfl) (by kernel_rfl) (by kernel_rfl) (fun _ _ _ h => h) (Or.inl ⟨by rfl, ?_⟩) (by assumption) ?_
          rotate_left
          · intro w hSw; (try dsimp only at hSw); go_simp; try rfl
          try simp only [Act.put, List.setIfInBounds_toArray, List.set_cons_zero, List.set_cons_succ]
          refine wpAnyH_take (i := 5) (oi := ⟨some 37, _, _, _, _, _⟩) (v := ?_) rfl (by kernel_rfl) (by kernel_rfl) (by kernel_rfl) (fun _ _ _ h => h) (Or.inl ⟨by rfl, ?_⟩) (by assumption) ?_
          rotate_left
          · intro w hSw; (try dsimp only at hSw); go_simp; try rfl
          try simp only [Act.put, List.setIfInBounds_toArray, List.set_cons_zero, List.set_cons_succ]
          refine wpAnyH_take (i := 6) (oi := ⟨some 38, _, _, _, _, _⟩) (v := ?_) rfl (by kernel_rfl) (by kernel_rfl) (by kernel_rfl) (fun _ _ _ h => h) (Or.inl ⟨by rfl, ?_⟩) (by assumption) ?_
          rotate_left
          · intro w hSw; (try dsimp only at hSw); go_simp; try rfl
          try simp only [Act.put, List.setIfInBounds_toArray, List.set_cons_zero, List.set_cons_succ]
          refine wpAnyH_take (i := 7) (oi := ⟨some 39, _, _, _, _, _⟩) (v := ?_) rfl (by kernel_rfl) (by kernel_rfl) (by kernel_rfl) (fun _ _ _ h => h) (Or.inl ⟨by rfl, ?_⟩) (by assumption) ?_
          rotate_left
          · intro w hSw; (try dsimp only at hSw); go_simp; try rfl
          try simp only [Act.put, List.setIfInBounds_toArray, List.set_cons_zero, List.set_cons_succ]
          refine wpAnyH_ready (rs := [8]) (by kernel_rfl) (by simp) ?_
          refine AllReadyH.cons (o := ⟨some 40, _, _, _, _, _⟩) rfl (fun K hK => ?_) AllReadyH.nil
          go_simp
          refine (HPUT.out _ (bel_drB hbw4) (below_drewN B9 1)).mono ?_
          rintro e w5 ⟨PA_5, pc_5, rfl, hpc5, row5, b5⟩
          dsimp only
          have c5 := (bel_drB hbw4).trans (b5.mono (bel_drB hbw4).size)
          have d5 : Below w4.heap.size w4 w5 := (below_drewN B9 1).trans b5
          refine hK.out _ _ ?_ (fun hHeld => ?_)
          · (try dsimp only); ((first | exact HKS.out _ d5))
          clear hK K
          try simp only [Act.put, List.setIfInBounds_toArray, List.set_cons_zero, List.set_cons_succ]
          refine wpAnyH_take (i := 9) (oi := ⟨some 31, _, _, _, _, _⟩) (v := ?_) rfl (by kernel_rfl) (by kernel_rfl) (by kernel_rfl) (fun _ _ _ h => h) (Or.inl ⟨by rfl, ?_⟩) (by assumption) ?_
          rotate_left
          · intro w hSw; (try dsimp only at hSw); go_simp; try rfl
          try simp only [Act.put, List.setIfInBounds_toArray, List.set_cons_zero, List.set_cons_succ]
          refine wpAnyH_take (i := 10) (oi := ⟨some 41, _, _, _, _, _⟩) (v := ?_) rfl (by kernel_rfl) (by kernel_rfl) (by kernel_rfl) (fun _ _ _ h => h) (Or.inl ⟨by rfl, ?_⟩) (by assumption) ?_
          rotate_left
          · intro w hSw; (try dsimp only at hSw); go_simp; try rfl
          try simp only [Act.put, List.setIfInBounds_toArray, List.set_cons_zero, List.set_cons_succ]
          refine wpAnyH_take (i := 11) (oi := ⟨some 42, _, _, _, _, _⟩) (v := ?_) rfl (by kernel_rfl) (by kernel_rfl) (by kernel_rfl) (fun _ _ _ h => h) (Or.inl ⟨by rfl, ?_⟩) (by assumption) ?_
          rotate_left
          · intro w hSw; (try dsimp only at hSw); go_simp; try rfl
          try simp only [Act.put, List.setIfInBounds_toArray, List.set_cons_zero, List.set_cons_succ]
          refine wpAnyH_take (i := 12) (oi := ⟨some 9, _, _, _, _, _⟩) (v := ?_) rfl (by kernel_rfl) (by kernel_rfl) (by kernel_rfl) (fun _ _ _ h => h) (Or.inl ⟨by rfl, ?_⟩) (by assumption) ?_
          rotate_left
          · intro w hSw; (try dsimp only at hSw); go_simp; try rfl
          try simp only [Act.put, List.setIfInBounds_toArray, List.set_cons_zero, List.set_cons_succ]
          refine wpAnyH_take (i := 13) (oi := ⟨some 10, _, _, _, _, _⟩) (v := ?_) rfl (by kernel_rfl) (by kernel_rfl) (by kernel_rfl) (fun _ _ _ h => h) (Or.inl ⟨by rfl, ?_⟩) (by assumption) ?_
          rotate_left
          · intro w hSw; (try dsimp only at hSw); go_simp; try rfl
          try simp only [Act.put, List.setIfInBounds_toArray, List.set_cons_zero, List.set_cons_succ]
          refine wpAnyH_done (by kernel_rfl) ?_ _
          have hbr5 := hbr4.trans (d5.mono hbr4.size)
          have op5 : Own 3 w5 W0.heap.size w5.heap.size PA_5 (p.set s id) := (Own.of_row row5 (Nat.le_refl _)).wide hbw4.size (Nat.le_refl _)
          clear row5 b5 d5
          go_wp2_with fail
          exact ⟨⟨k + 1, p.set s id, PA_5, pc_5, by omega, by go_num, HNX2.out, by rw [HSE.out], by rw [HSE.out]; exact hpc5, op5, hbr5⟩, by simp [intOf]; omega⟩
      · obtain rfl : k = D.length := by omega
        have HNE : Hid (N = p) := HO.out.trans HP.out
        have HOP := Lib.hid op
        clear op
        go_wp2_with fail
        go_ret
        rw [HNE.out]
        exact ⟨PA, pc, rfl, hpc, HOP.out.wide HZ0.out (Nat.le_refl _), HFIN.out _ hbw⟩
end Go.Proofs.Ytphncbnnnickhaa
