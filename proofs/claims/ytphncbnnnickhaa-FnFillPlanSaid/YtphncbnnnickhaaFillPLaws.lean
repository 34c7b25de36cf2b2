/- The law on FillPlan. -/
import Derived.Test.YtphncbnnnickhaaFillPDraw
import Derived.Test.YtphncbnnnickhaaFillPW
namespace Go.Proofs.Ytphncbnnnickhaa
open Go.RowKit
set_option linter.unusedVariables false
set_option linter.unusedSimpArgs false

section
variable {A : Option Addr} {l : List Int} {c : Nat}
set_option maxHeartbeats 12800000 in
set_option maxRecDepth 20000 in
theorem law_FillPlan (w : World) (ha : RdU w A l) (hl : l.length ≤ 9223372036854775807) (hc : l.length ≤ c) :
    Calls Try.prog 6 #[.slice A l.length c] w fun e w' => e = .returned (.bool true) ∧ Below w.heap.size w w' := by
  by_cases hs : l.length ≤ 1048576
  · go_enter Try.func6, Try.ntmps6
    go_wp2_with fail
    refine (drawFP w ha hc hs).mono ?_
    rintro e w1 ⟨h, l2, g1, c1, rfl, h12, hlc, rb, b1⟩
    have kX := Blk.new w1 36 #[.int .i64 h.bays, .int .i64 h.rows, .int .i64 h.tiers]
    have B1 := b1.alloc b1.size (.cells #[.int .i64 h.bays, .int .i64 h.rows, .int .i64 h.tiers] 36)
    have rb := rb.alloc (.cells #[.int .i64 h.bays, .int .i64 h.rows, .int .i64 h.tiers] 36)
    obtain ⟨W1, HW1⟩ : ∃ W, Hid (w1.alloc (.cells #[.int .i64 h.bays, .int .i64 h.rows, .int .i64 h.tiers] 36) = W) := ⟨_, rfl⟩
    obtain ⟨X, HX⟩ : ∃ X, Hid (w1.heap.size = X) := ⟨_, rfl⟩
    rw [HW1.out] at kX B1 rb
    rw [HX.out] at kX
    have hXl := kX.lt
    have HRB := Lib.hid rb
    have HB1 := Lib.hid B1
    have HS : Hid (∀ W, Below W1.heap.size W1 W → W.cell? ⟨X, 0, none⟩ = some (.int .i64 h.bays) ∧ W.cell? ⟨X, 1, none⟩ = some (.int .i64 h.rows) ∧ W.cell? ⟨X, 2, none⟩ = some (.int .i64 h.tiers)) := fun W hW => ⟨(kX.below hW hXl).cell 0, (kX.below hW hXl).cell 1, (kX.below hW hXl).cell 2⟩
    have bw := Below.refl W1.heap.size W1
    obtain ⟨z0, z1, z2⟩ := HS.out W1 bw
    obtain ⟨N, HN⟩ : ∃ N, Hid (fillP h l2 = N) := ⟨_, rfl⟩
    have hN : N.length ≤ 36 := by rw [← HN.out]; exact fillP_short h l2
    have HLI : Hid (∀ W, Below W1.heap.size W1 W → Calls Try.prog 19 #[.agg #[.int .i64 h.bays, .int .i64 h.rows, .int .i64 h.tiers], .slice (some ⟨g1, 0, none⟩) l2.length c1] W (AnsC (fun s => s) N.length N 3 W)) := fun W hW => by
      rw [← HN.out]; exact fillp_impl h _ l2 c1 W (HRB.out.below hW) (by omega) hlc
    have HLS : Hid (∀ W, Below W1.heap.size W1 W → Calls Try.prog 17 #[.agg #[.int .i64 h.bays, .int .i64 h.rows, .int .i64 h.tiers], .slice (some ⟨g1, 0, none⟩) l2.length c1] W (AnsC (fun s => s) N.length N 3 W)) := fun W hW => by
      rw [← HN.out]; exact fillp_spec h _ l2 c1 W (HRB.out.below hW) (by omega) hlc
    clear kX B1 rb b1
    go_wp2_with fail
    rw [HW1.out, HX.out]
    refine (HLI.out _ bw).mono ?_
    rintro e w2 ⟨A3, c3, rfl, hc3, o3, b2⟩
    have bw := bw.trans (b2.mono bw.size)
    have HRP : Hid (∀ W, Below w2.heap.size w2 W → Rd W A3 N) := fun W hW => (o3.below hW (Nat.le_refl _)).rd
    have bp := Below.refl w2.heap.size w2
    clear z0 z1 z2 o3
    obtain ⟨z0, z1, z2⟩ := HS.out _ bw
    clear b2
    go_wp2_with fail
    refine (HLS.out _ bw).mono ?_
    rintro e w3 ⟨A4, c4, rfl, hc4, o4, b3⟩
    have bw := bw.trans (b3.mono bw.size)
    have bp := bp.trans (b3.mono bp.size)
    clear z0 z1 z2 b3
    go_wp2_with fail
    refine (same_b A3 A4 N N _ _ _ (HRP.out _ bp) o4.rd (by omega) (by omega) rfl).mono ?_
    rintro e w4 ⟨rfl, b4⟩
    have bw := bw.trans (b4.mono bw.size)
    have bp := bp.trans (b4.mono bp.size)
    obtain ⟨z0, z1, z2⟩ := HS.out _ bw
    clear o4 b4
    by_cases h0 : N = []
    · subst h0
      go_wp2_with fail
      refine (alive_any _).mono ?_
      rintro e w' ⟨rfl, rfl⟩
      go_wp2_with fail
      go_ret
      exact ⟨rfl, HB1.out.trans (bw.mono HB1.out.size)⟩
    · obtain ⟨n, HNN⟩ : ∃ n, Hid ((idsTo N N.length).length = n) := ⟨_, rfl⟩
      have HF : Hid (Filled h l2 N n) := by
        have hf := filled (h := h) (l := l2) (by rw [HN.out]; exact h0)
        rw [HN.out, HNN.out] at hf
        exact hf
      have hNp : 1 ≤ N.length := List.length_pos_iff.2 h0
      have t0 : ((N.length : Int) == 0) = false := beq_eq_false_iff_ne.2 (by omega)
      obtain ⟨M, HM⟩ : ∃ M, Hid (slotsV h = M) := ⟨_, rfl⟩
      obtain ⟨E, HE⟩ : ∃ E, Hid ((leftTo l2 N l2.length).length = E) := ⟨_, rfl⟩
      have HMIN : Hid (n = min l2.length M) := by show _ = _; rw [← HM.out]; exact HF.out.min
      have HSUM : Hid (n + E = l2.length) := by show _ = _; rw [← HE.out]; exact HF.out.left
      have HML : Hid (M = N.length) := by show _ = _; rw [← HM.out]; exact HF.out.len.symm
      clear h0 hNp
      have HIDS : Hid (∀ W, Below W1.heap.size W1 W → Below w2.heap.size w2 W → Calls Try.prog 27 #[.agg #[.int .i64 h.bays, .int .i64 h.rows, .int .i64 h.tiers], .slice (some ⟨g1, 0, none⟩) l2.length c1, .slice A3 N.length c3] W fun e w' => (∃ A6 c6, e = .returned (.slice A6 n c6)) ∧ Below W.heap.size W w') := fun W hW hP => by
        have hq := ids_impl h _ A3 l2 N c1 c3 W (HRB.out.below hW) (by omega) hlc (HRP.out W hP) (by omega) hc3
        have e1 : idsS h l2 N = idsTo N N.length := by unfold idsS; rw [if_pos HF.out.pv]
        rw [e1, HNN.out] at hq
        exact hq.mono fun e w' ⟨SA, sc, h1, _, _, h4⟩ => ⟨⟨SA, sc, h1⟩, h4⟩
      have HPV : Hid (∀ W, Below W1.heap.size W1 W → Below w2.heap.size w2 W → Calls Try.prog 28 #[.agg #[.int .i64 h.bays, .int .i64 h.rows, .int .i64 h.tiers], .slice (some ⟨g1, 0, none⟩) l2.length c1, .slice A3 N.length c3] W fun e w' => e = .returned (.bool true) ∧ Below W.heap.size W w') := fun W hW hP => bool_to (pv_impl h _ A3 l2 N c1 c3 W (HRB.out.below hW) (by omega) hlc (HRP.out W hP) (by omega) hc3) HF.out.pv
      have HOV : Hid (∀ W, Below W1.heap.size W1 W → Below w2.heap.size w2 W → Calls Try.prog 29 #[.agg #[.int .i64 h.bays, .int .i64 h.rows, .int .i64 h.tiers], .slice (some ⟨g1, 0, none⟩) l2.length c1, .slice A3 N.length c3] W fun e w' => e = .returned (.int .i64 0) ∧ Below W.heap.size W w') := fun W hW hP => over_impl h _ A3 l2 N c1 c3 HF.out.pv HF.out.desc W (HRB.out.below hW) (by omega) hlc (HRP.out W hP) (by omega) hc3
      have HVM : Hid (∀ W, Below W1.heap.size W1 W → Below w2.heap.size w2 W → Calls Try.prog 30 #[.agg #[.int .i64 h.bays, .int .i64 h.rows, .int .i64 h.tiers], .slice (some ⟨g1, 0, none⟩) l2.length c1, .slice A3 N.length c3] W fun e w' => e = .returned (.int .i64 (n : Int)) ∧ Below W.heap.size W w') := fun W hW hP => voy_impl h _ A3 l2 N c1 c3 HF.out.pv HF.out.desc n HNN W (HRB.out.below hW) (by omega) hlc (HRP.out W hP) (by omega) hc3
      have HSM : Hid (∀ W, Below W1.heap.size W1 W → Below w2.heap.size w2 W → Calls Try.prog 31 #[.agg #[.int .i64 h.bays, .int .i64 h.rows, .int .i64 h.tiers]] W fun e w' => e = .returned (.int .i64 (M : Int)) ∧ Below W.heap.size W w') := fun W hW hP => by rw [← HM.out]; exact many_impl h W HF.out.hull
      have HLO : Hid (∀ W, Below W1.heap.size W1 W → Below w2.heap.size w2 W → Calls Try.prog 32 #[.agg #[.int .i64 h.bays, .int .i64 h.rows, .int .i64 h.tiers], .slice (some ⟨g1, 0, none⟩) l2.length c1, .slice A3 N.length c3] W fun e w' => (∃ A6 c6, e = .returned (.slice A6 E c6)) ∧ Below W.heap.size W w') := fun W hW hP => by
        have hq := left_impl h _ A3 l2 N c1 c3 W (HRB.out.below hW) (by omega) hlc (HRP.out W hP) (by omega) hc3
        have e1 : leftS h l2 N = leftTo l2 N l2.length := by unfold leftS; rw [if_pos HF.out.pv]
        rw [e1, HE.out] at hq
        exact hq.mono fun e w' ⟨SA, sc, h1, _, _, h4⟩ => ⟨⟨SA, sc, h1⟩, h4⟩
      have hn2 : n ≤ 12 := by have := HMIN.out; omega
      have hM2 : M ≤ 36 := by have := HML.out; omega
      have hE2 : E ≤ 12 := by have := HSUM.out; omega
      have T1 : Hid (((n : Int) == (min (l2.length : Int) (M : Int))) = true) := beq_iff_eq.2 (by have := HMIN.out; omega)
      have T2 : Hid (((E : Int) == (l2.length : Int) - (n : Int)) = true) := beq_iff_eq.2 (by have := HSUM.out; omega)
      go_wp2_with fail
      refine (HIDS.out _ bw bp).mono ?_
      rintro e w5 ⟨⟨A6, c6, rfl⟩, b⟩
      have bw := bw.trans (b.mono bw.size)
      have bp := bp.trans (b.mono bp.size)
      clear z0 z1 z2 b
      obtain ⟨z0, z1, z2⟩ := HS.out _ bw
      go_wp2_with fail
      refine (HPV.out _ bw bp).mono ?_
      rintro e w6 ⟨rfl, b⟩
      have bw := bw.trans (b.mono bw.size)
      have bp := bp.trans (b.mono bp.size)
      clear z0 z1 z2 b
      obtain ⟨z0, z1, z2⟩ := HS.out _ bw
      go_wp2_with fail
      refine (HOV.out _ bw bp).mono ?_
      rintro e w7 ⟨rfl, b⟩
      have bw := bw.trans (b.mono bw.size)
      have bp := bp.trans (b.mono bp.size)
      clear z0 z1 z2 b
      obtain ⟨z0, z1, z2⟩ := HS.out _ bw
      go_wp2_with fail
      refine (HVM.out _ bw bp).mono ?_
      rintro e w8 ⟨rfl, b⟩
      have bw := bw.trans (b.mono bw.size)
      have bp := bp.trans (b.mono bp.size)
      clear z0 z1 z2 b
      obtain ⟨z0, z1, z2⟩ := HS.out _ bw
      go_wp2_with fail
      have t1 := T1.out
      refine (HSM.out _ bw bp).mono ?_
      rintro e w9 ⟨rfl, b⟩
      have bw := bw.trans (b.mono bw.size)
      have bp := bp.trans (b.mono bp.size)
      clear z0 z1 z2 b
      obtain ⟨z0, z1, z2⟩ := HS.out _ bw
      go_wp2_with fail
      have t2 := T2.out
      refine (HLO.out _ bw bp).mono ?_
      rintro e w10 ⟨⟨A7, c7, rfl⟩, b⟩
      have bw := bw.trans (b.mono bw.size)
      have bp := bp.trans (b.mono bp.size)
      clear z0 z1 z2 b
      obtain ⟨z0, z1, z2⟩ := HS.out _ bw
      go_wp2_with fail
      go_ret
      exact ⟨rfl, HB1.out.trans (bw.mono HB1.out.size)⟩
  · go_enter Try.func6, Try.ntmps6
    go_wp2_with fail
    go_ret
    exact ⟨rfl, Below.refl _ _⟩
end
end Go.Proofs.Ytphncbnnnickhaa
