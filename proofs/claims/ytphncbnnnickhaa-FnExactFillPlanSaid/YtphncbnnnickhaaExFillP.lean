/- FillPlan called by its statement. -/
import Derived.Test.YtphncbnnnickhaaFillPW
import Derived.Test.YtphncbnnnickhaaExFill
namespace Go.Proofs.Ytphncbnnnickhaa
open Go.RowKit
set_option linter.unusedVariables false
set_option linter.unusedSimpArgs false

set_option maxHeartbeats 800000 in
theorem toHull_any (h : HullV) (w : World) :
    Calls Try.prog 18 #[.agg #[.int .i64 h.bays, .int .i64 h.rows, .int .i64 h.tiers]] w fun e w' => e = .returned (.agg #[.int .i64 h.bays, .int .i64 h.rows, .int .i64 h.tiers]) ∧ Below w.heap.size w w' := by
  go_enter Try.func18, Try.ntmps18
  go_wp2
  exact bodyPost_ret (v := .agg #[.int .i64 h.bays, .int .i64 h.rows, .int .i64 h.tiers]) (by simp [results, Try.results18, go_sem]) rfl ⟨rfl, (((Below.refl _ _).alloc (Nat.le_refl _) _).alloc (by simp) _).alloc (by simp; omega) _⟩
set_option maxHeartbeats 6400000 in
theorem law_ExFillPlan0 (h : HullV) {A0 : Option Addr} {l0 : List BoxV} {c0 : Nat} (w : World) (ha0 : RdBox w A0 l0) (hl0 : l0.length ≤ 9223372036854775807) :
    Calls Try.prog 4 #[.agg #[.int .i64 h.bays, .int .i64 h.rows, .int .i64 h.tiers], .slice A0 l0.length c0] w fun e w' => e = .returned (.bool true) ∧ Below w.heap.size w w' := by
  have kX := Blk.new w 34 #[.int .i64 h.bays, .int .i64 h.rows, .int .i64 h.tiers]
  have bw : Below w.heap.size w (w.alloc (.cells #[.int .i64 h.bays, .int .i64 h.rows, .int .i64 h.tiers] 34)) := (Below.refl _ _).alloc (Nat.le_refl _) _
  obtain ⟨W1, HW1⟩ : ∃ W, Hid (w.alloc (.cells #[.int .i64 h.bays, .int .i64 h.rows, .int .i64 h.tiers] 34) = W) := ⟨_, rfl⟩
  rw [HW1.out] at kX bw
  obtain ⟨X, HX⟩ : ∃ X, Hid (w.heap.size = X) := ⟨_, rfl⟩
  rw [HX.out] at kX
  have hX1 := kX.lt
  have hXw : w.heap.size ≤ X := by have := HX.out; omega
  by_cases hs0 : l0.length ≤ 1048576
  · obtain ⟨N, HV⟩ : ∃ N, Hid (fillP h l0 = N) := ⟨_, rfl⟩
    have hN : N.length ≤ 1048576 := by have := fillP_short h l0; rw [HV.out] at this; omega
    go_enter Try.func4, Try.ntmps4
    go_wp2_with fail
    rw [HW1.out, HX.out]
    refine (szBoxS_yes A0 l0.length c0 _ hs0).mono ?_
    rintro e w' ⟨rfl, rfl⟩
    have z0 := kX.cell 0
    have z1 := kX.cell 1
    have z2 := kX.cell 2
    simp only [List.getElem?_toArray, List.getElem?_cons_zero, List.getElem?_cons_succ] at z0 z1 z2
    go_wp2_with fail
    refine (toHull_any h _).mono ?_
    rintro e w1 ⟨rfl, b1⟩
    clear z0 z1 z2
    have k1 := b1.size
    have kX := kX.below b1 kX.lt
    have bw := bw.trans (b1.mono bw.size)
    go_wp2_with fail
    refine (toBoxS_any A0 l0 c0 _ (ha0.below bw) hs0).mono ?_
    rintro e w2 ⟨B2, rfl, o2, b2⟩
    have k2 := b2.size
    have kX := kX.below b2 kX.lt
    have bw := bw.trans (b2.mono bw.size)
    go_wp2_with fail
    refine (ans_is (fillp_spec h B2 l0 l0.length _ (RdBox.of_rd o2.rd) hs0 (Nat.le_refl _)) HV.out).mono ?_
    rintro e w3 ⟨B3, C3, rfl, o3, b3⟩
    have k3 := b3.size
    have kX := kX.below b3 kX.lt
    have o2 := o2.below b3 (by omega)
    have bw := bw.trans (b3.mono bw.size)
    clear o2
    go_wp2_with fail
    refine (toBoxS_any A0 l0 c0 _ (ha0.below bw) hs0).mono ?_
    rintro e w4 ⟨B4, rfl, o4, b4⟩
    have k4 := b4.size
    have kX := kX.below b4 kX.lt
    have o3 := o3.below b4 (by omega)
    have bw := bw.trans (b4.mono bw.size)
    have z0 := kX.cell 0
    have z1 := kX.cell 1
    have z2 := kX.cell 2
    simp only [List.getElem?_toArray, List.getElem?_cons_zero, List.getElem?_cons_succ] at z0 z1 z2
    go_wp2_with fail
    refine (toHull_any h _).mono ?_
    rintro e w5 ⟨rfl, b5⟩
    clear z0 z1 z2
    have k5 := b5.size
    have kX := kX.below b5 kX.lt
    have o3 := o3.below b5 (by omega)
    have o4 := o4.below b5 (by omega)
    have bw := bw.trans (b5.mono bw.size)
    go_wp2_with fail
    refine (ans_is (fillp_impl h B4 l0 l0.length _ (RdBox.of_rd o4.rd) hs0 (Nat.le_refl _)) HV.out).mono ?_
    rintro e w6 ⟨B6, C6, rfl, o6, b6⟩
    have k6 := b6.size
    have kX := kX.below b6 kX.lt
    have o3 := o3.below b6 (by omega)
    have o4 := o4.below b6 (by omega)
    have bw := bw.trans (b6.mono bw.size)
    go_wp2_with fail
    refine (eqIntS_b B6 B3 N N _ _ _ o6.rd o3.rd hN hN).mono ?_
    rintro e w7 ⟨rfl, b7⟩
    have k7 := b7.size
    have kX := kX.below b7 kX.lt
    have o3 := o3.below b7 (by omega)
    have o4 := o4.below b7 (by omega)
    have o6 := o6.below b7 (by omega)
    have bw := bw.trans (b7.mono bw.size)
    go_wp2_with fail
    refine (toBoxS_any A0 l0 c0 _ (ha0.below bw) hs0).mono ?_
    rintro e w8 ⟨B8, rfl, o8, b8⟩
    have k8 := b8.size
    have kX := kX.below b8 kX.lt
    have o3 := o3.below b8 (by omega)
    have o4 := o4.below b8 (by omega)
    have o6 := o6.below b8 (by omega)
    have bw := bw.trans (b8.mono bw.size)
    go_wp2_with fail
    refine (eqBoxS_any B4 B8 l0 l0 _ _ _ (RdBox.of_rd o4.rd) (RdBox.of_rd o8.rd) hs0 hs0).mono ?_
    rintro e w9 ⟨rfl, b9⟩
    have k9 := b9.size
    have kX := kX.below b9 kX.lt
    have o3 := o3.below b9 (by omega)
    have o4 := o4.below b9 (by omega)
    have o6 := o6.below b9 (by omega)
    have o8 := o8.below b9 (by omega)
    have bw := bw.trans (b9.mono bw.size)
    clear o8
    go_wp2_with fail
    refine (markBoxS_any _ _ B4 l0.length (flatBox l0) _ 1 _ o4 (flatBox_length _) hs0 (by omega) (by omega)).mono ?_
    rintro e w10 ⟨rfl, b10⟩
    have k10 := b10.size
    have kX := kX.chg b10 (.inl (by omega))
    have o3 := o3.chg b10 (by omega)
    have o6 := o6.chg b10 (by omega)
    have bw := bw.trans (b10.below (by omega) (by omega))
    clear o4
    go_wp2_with fail
    refine (eqIntS_b B6 B3 N N _ _ _ o6.rd o3.rd hN hN).mono ?_
    rintro e w11 ⟨rfl, b11⟩
    have k11 := b11.size
    have kX := kX.below b11 kX.lt
    have o3 := o3.below b11 (by omega)
    have o6 := o6.below b11 (by omega)
    have bw := bw.trans (b11.mono bw.size)
    go_wp2_with fail
    refine (markIntS_any _ _ B6 N _ 1 _ o6 hN (by omega) (by omega)).mono ?_
    rintro e w12 ⟨rfl, o6, b12⟩
    have k12 := b12.size
    have kX := kX.chg b12 (.inl (by omega))
    have o3 := o3.chg b12 (by omega)
    have bw := bw.trans (b12.below (by omega) (by omega))
    go_wp2_with fail
    refine (heldIntS_any B6 N.length _ 1 _ o6.rd hN (by omega) (by omega)).mono ?_
    rintro e w' ⟨rfl, rfl⟩
    have z0 := kX.cell 0
    have z1 := kX.cell 1
    have z2 := kX.cell 2
    simp only [List.getElem?_toArray, List.getElem?_cons_zero, List.getElem?_cons_succ] at z0 z1 z2
    go_wp2_with fail
    refine (toHull_any h _).mono ?_
    rintro e w13 ⟨rfl, b13⟩
    clear z0 z1 z2
    have k13 := b13.size
    have kX := kX.below b13 kX.lt
    have o3 := o3.below b13 (by omega)
    have o6 := o6.below b13 (by omega)
    have bw := bw.trans (b13.mono bw.size)
    go_wp2_with fail
    refine (toBoxS_any A0 l0 c0 _ (ha0.below bw) hs0).mono ?_
    rintro e w14 ⟨B14, rfl, o14, b14⟩
    have k14 := b14.size
    have kX := kX.below b14 kX.lt
    have o3 := o3.below b14 (by omega)
    have o6 := o6.below b14 (by omega)
    have bw := bw.trans (b14.mono bw.size)
    go_wp2_with fail
    refine (ans_is (fillp_impl h B14 l0 l0.length _ (RdBox.of_rd o14.rd) hs0 (Nat.le_refl _)) HV.out).mono ?_
    rintro e w15 ⟨B15, C15, rfl, o15, b15⟩
    have k15 := b15.size
    have kX := kX.below b15 kX.lt
    have o3 := o3.below b15 (by omega)
    have o6 := o6.below b15 (by omega)
    have o14 := o14.below b15 (by omega)
    have bw := bw.trans (b15.mono bw.size)
    go_wp2_with fail
    refine (eqIntS_b B15 B3 N N _ _ _ o15.rd o3.rd hN hN).mono ?_
    rintro e w16 ⟨rfl, b16⟩
    have k16 := b16.size
    have kX := kX.below b16 kX.lt
    have o3 := o3.below b16 (by omega)
    have o6 := o6.below b16 (by omega)
    have o14 := o14.below b16 (by omega)
    have o15 := o15.below b16 (by omega)
    have bw := bw.trans (b16.mono bw.size)
    go_wp2_with fail
    refine (heldIntS_any B6 N.length _ 1 _ o6.rd hN (by omega) (by omega)).mono ?_
    rintro e w' ⟨rfl, rfl⟩
    go_wp2_with fail
    go_ret
    exact ⟨rfl, bw⟩
  · go_enter Try.func4, Try.ntmps4
    go_wp2_with fail
    rw [HW1.out, HX.out]
    refine (szBoxS_no A0 l0.length c0 _ hl0 hs0).mono ?_
    rintro e w' ⟨rfl, rfl⟩
    go_wp2_with fail
    go_ret
    exact ⟨rfl, bw⟩
theorem law_ExFillPlan {a b c : Int} {A0 : Option Addr} {l0 : List BoxV} {c0 : Nat} (w : World) (a1 : -9223372036854775808 ≤ a) (a2 : a ≤ 9223372036854775807) (b1 : -9223372036854775808 ≤ b) (b2 : b ≤ 9223372036854775807) (c1 : -9223372036854775808 ≤ c) (c2 : c ≤ 9223372036854775807) (ha0 : RdBox w A0 l0) (hl0 : l0.length ≤ 9223372036854775807) :
    Calls Try.prog 4 #[.agg #[.int .i64 a, .int .i64 b, .int .i64 c], .slice A0 l0.length c0] w fun e w' => e = .returned (.bool true) ∧ Below w.heap.size w w' := law_ExFillPlan0 ⟨a, b, c⟩ w ha0 hl0
end Go.Proofs.Ytphncbnnnickhaa
