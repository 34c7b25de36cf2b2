/- FillOrder called by its statement. -/
import Derived.Test.YtphncbnnnickhaaFillOrd2
import Derived.Test.YtphncbnnnickhaaMBox
namespace Go.Proofs.Ytphncbnnnickhaa
open Go.RowKit
set_option linter.unusedVariables false
set_option linter.unusedSimpArgs false

theorem ans_is {v : Value → Value} {L L' : List Int} {t : TypeId} {f : FuncId} {args : Array Value} {w : World} (h : Calls Try.prog f args w (AnsC v L.length L t w)) (e : L = L') : Calls Try.prog f args w (Ans v L'.length L' t w) := by rw [← e]; exact h.mono fun _ _ h => h.ans
set_option maxHeartbeats 4000000 in
theorem law_ExFillOrder {A0 : Option Addr} {l0 : List BoxV} {c0 : Nat} (w : World) (ha0 : RdBox w A0 l0) (hl0 : l0.length ≤ 9223372036854775807) :
    Calls Try.prog 3 #[.slice A0 l0.length c0] w fun e w' => e = .returned (.bool true) ∧ Below w.heap.size w w' := by
  by_cases hs0 : l0.length ≤ 1048576
  · skip
    obtain ⟨L, HV⟩ : ∃ L, Hid (fillS l0 = L) := ⟨_, rfl⟩
    have hL : L.length ≤ 1048576 := by have := fillS_short l0; rw [HV.out] at this; omega
    go_enter Try.func3, Try.ntmps3
    have bw : Below w.heap.size w w := Below.refl _ _
    go_wp2_with fail
    refine (szBoxS_yes A0 l0.length c0 _ hs0).mono ?_
    rintro e w' ⟨rfl, rfl⟩
    go_wp2_with fail
    refine (toBoxS_any A0 l0 c0 _ (ha0.below bw) hs0).mono ?_
    rintro e w1 ⟨B1, rfl, o1, b1⟩
    have k1 : w.heap.size ≤ w1.heap.size := b1.size
    have bw := bw.trans (b1.mono bw.size)
    go_wp2_with fail
    refine (ans_is (fo_spec B1 l0 l0.length _ (RdBox.of_rd o1.rd) hs0) HV.out).mono ?_
    rintro e w2 ⟨B2, C2, rfl, o2, b2⟩
    have k2 : w1.heap.size ≤ w2.heap.size := b2.size
    have o1 := o1.below b2 (by omega)
    have bw := bw.trans (b2.mono bw.size)
    clear o1
    go_wp2_with fail
    refine (toBoxS_any A0 l0 c0 _ (ha0.below bw) hs0).mono ?_
    rintro e w3 ⟨B3, rfl, o3, b3⟩
    have k3 : w2.heap.size ≤ w3.heap.size := b3.size
    have o2 := o2.below b3 (by omega)
    have bw := bw.trans (b3.mono bw.size)
    go_wp2_with fail
    refine (ans_is (fo_impl B3 l0 l0.length _ (RdBox.of_rd o3.rd) hs0 (Nat.le_refl _)) HV.out).mono ?_
    rintro e w4 ⟨B4, C4, rfl, o4, b4⟩
    have k4 : w3.heap.size ≤ w4.heap.size := b4.size
    have o2 := o2.below b4 (by omega)
    have o3 := o3.below b4 (by omega)
    have bw := bw.trans (b4.mono bw.size)
    go_wp2_with fail
    refine (eqIntS_b B4 B2 L L _ _ _ o4.rd o2.rd hL hL).mono ?_
    rintro e w5 ⟨rfl, b5⟩
    have k5 : w4.heap.size ≤ w5.heap.size := b5.size
    have o2 := o2.below b5 (by omega)
    have o3 := o3.below b5 (by omega)
    have o4 := o4.below b5 (by omega)
    have bw := bw.trans (b5.mono bw.size)
    go_wp2_with fail
    refine (toBoxS_any A0 l0 c0 _ (ha0.below bw) hs0).mono ?_
    rintro e w6 ⟨B6, rfl, o6, b6⟩
    have k6 : w5.heap.size ≤ w6.heap.size := b6.size
    have o2 := o2.below b6 (by omega)
    have o3 := o3.below b6 (by omega)
    have o4 := o4.below b6 (by omega)
    have bw := bw.trans (b6.mono bw.size)
    go_wp2_with fail
    refine (eqBoxS_any B3 B6 l0 l0 _ _ _ (RdBox.of_rd o3.rd) (RdBox.of_rd o6.rd) hs0 hs0).mono ?_
    rintro e w7 ⟨rfl, b7⟩
    have k7 : w6.heap.size ≤ w7.heap.size := b7.size
    have o2 := o2.below b7 (by omega)
    have o3 := o3.below b7 (by omega)
    have o4 := o4.below b7 (by omega)
    have o6 := o6.below b7 (by omega)
    have bw := bw.trans (b7.mono bw.size)
    clear o6
    go_wp2_with fail
    refine (markBoxS_any _ _ B3 l0.length (flatBox l0) _ (1) _ o3 (flatBox_length _) hs0 (by omega) (by omega)).mono ?_
    rintro e w8 ⟨rfl, b8⟩
    have k8 : w7.heap.size ≤ w8.heap.size := b8.size
    have o2 := o2.chg b8 (by omega)
    have o4 := o4.chg b8 (by omega)
    have bw := bw.trans (b8.below (by omega) (by omega))
    clear o3
    go_wp2_with fail
    refine (eqIntS_b B4 B2 L L _ _ _ o4.rd o2.rd hL hL).mono ?_
    rintro e w9 ⟨rfl, b9⟩
    have k9 : w8.heap.size ≤ w9.heap.size := b9.size
    have o2 := o2.below b9 (by omega)
    have o4 := o4.below b9 (by omega)
    have bw := bw.trans (b9.mono bw.size)
    go_wp2_with fail
    refine (markIntS_any _ _ B4 L _ (1) _ o4 hL (by omega) (by omega)).mono ?_
    rintro e w10 ⟨rfl, o4, b10⟩
    have k10 : w9.heap.size ≤ w10.heap.size := b10.size
    have o2 := o2.chg b10 (by omega)
    have bw := bw.trans (b10.below (by omega) (by omega))
    go_wp2_with fail
    refine (heldIntS_any B4 L.length _ 1 _ o4.rd hL (by omega) (by omega)).mono ?_
    rintro e w' ⟨rfl, rfl⟩
    go_wp2_with fail
    refine (toBoxS_any A0 l0 c0 _ (ha0.below bw) hs0).mono ?_
    rintro e w11 ⟨B11, rfl, o11, b11⟩
    have k11 : w10.heap.size ≤ w11.heap.size := b11.size
    have o2 := o2.below b11 (by omega)
    have o4 := o4.below b11 (by omega)
    have bw := bw.trans (b11.mono bw.size)
    go_wp2_with fail
    refine (ans_is (fo_impl B11 l0 l0.length _ (RdBox.of_rd o11.rd) hs0 (Nat.le_refl _)) HV.out).mono ?_
    rintro e w12 ⟨B12, C12, rfl, o12, b12⟩
    have k12 : w11.heap.size ≤ w12.heap.size := b12.size
    have o2 := o2.below b12 (by omega)
    have o4 := o4.below b12 (by omega)
    have o11 := o11.below b12 (by omega)
    have bw := bw.trans (b12.mono bw.size)
    go_wp2_with fail
    refine (eqIntS_b B12 B2 L L _ _ _ o12.rd o2.rd hL hL).mono ?_
    rintro e w13 ⟨rfl, b13⟩
    have k13 : w12.heap.size ≤ w13.heap.size := b13.size
    have o2 := o2.below b13 (by omega)
    have o4 := o4.below b13 (by omega)
    have o11 := o11.below b13 (by omega)
    have o12 := o12.below b13 (by omega)
    have bw := bw.trans (b13.mono bw.size)
    go_wp2_with fail
    refine (heldIntS_any B4 L.length _ 1 _ o4.rd hL (by omega) (by omega)).mono ?_
    rintro e w' ⟨rfl, rfl⟩
    go_wp2_with fail
    go_ret
    exact ⟨rfl, bw⟩
  · go_enter Try.func3, Try.ntmps3
    go_wp2_with fail
    refine (szBoxS_no A0 l0.length c0 _ hl0 hs0).mono ?_
    rintro e w' ⟨rfl, rfl⟩
    go_wp2_with fail
    go_ret
    exact ⟨rfl, Below.refl _ _⟩
end Go.Proofs.Ytphncbnnnickhaa
