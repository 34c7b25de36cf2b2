/- StartHours called by its statement. -/
import Derived.Test.YtjbocijckoaekaaStart
import Derived.Test.YtjbocijckoaekaaTShip
import Derived.Test.YtjbocijckoaekaaMShip
namespace Go.Proofs.Ytjbocijckoaekaa
open Go.RowKit
set_option linter.unusedVariables false
set_option linter.unusedSimpArgs false

theorem ans_is {v : Value → Value} {L L' : List Int} {t : TypeId} {f : FuncId} {args : Array Value} {w : World} (h : Calls Try.prog f args w (Ans v L.length L t w)) (e : L = L') : Calls Try.prog f args w (Ans v L'.length L' t w) := by rw [← e]; exact h
theorem startS_short (l : List ShipV) (o : List Int) : (startS l o).length ≤ 5 := by
  unfold startS
  split
  · next h =>
    obtain ⟨h1, h2⟩ := startOk_spec h
    obtain ⟨hv, h5⟩ := listV_spec h1
    have := (stTo_bd hv o o.length).2.2.1
    omega
  · simp
set_option maxHeartbeats 4000000 in
theorem law_ExStartHours {A0 : Option Addr} {l0 : List ShipV} {c0 : Nat} {A1 : Option Addr} {l1 : List Int} {c1 : Nat} (w : World) (ha0 : RdShip w A0 l0) (hl0 : l0.length ≤ 9223372036854775807) (ha1 : Rd w A1 l1) (hl1 : l1.length ≤ 9223372036854775807) :
    Calls Try.prog 4 #[.slice A0 l0.length c0, .slice A1 l1.length c1] w fun e w' => e = .returned (.bool true) ∧ Below w.heap.size w w' := by
  by_cases hs1 : l1.length ≤ 1048576
  · skip
    by_cases hs0 : l0.length ≤ 1048576
    · skip
      obtain ⟨L, HV⟩ : ∃ L, Hid (startS l0 l1 = L) := ⟨_, rfl⟩
      have hL : L.length ≤ 1048576 := by have := startS_short l0 l1; rw [HV.out] at this; omega
      go_enter Try.func4, Try.ntmps4
      have bw : Below w.heap.size w w := Below.refl _ _
      go_wp2_with fail
      refine (szShipS_yes A0 l0.length c0 _ hs0).mono ?_
      rintro e w' ⟨rfl, rfl⟩
      go_wp2_with fail
      refine (toShipS_any A0 l0 c0 _ (ha0.below bw) hs0).mono ?_
      rintro e w1 ⟨B1, rfl, o1, b1⟩
      have k1 : w.heap.size ≤ w1.heap.size := b1.size
      have bw := bw.trans (b1.mono bw.size)
      go_wp2_with fail
      refine (toIntS_any A1 l1 c1 _ (ha1.below bw) hs1).mono ?_
      rintro e w2 ⟨B2, rfl, o2, b2⟩
      have k2 : w1.heap.size ≤ w2.heap.size := b2.size
      have o1 := o1.below b2 (by omega)
      have bw := bw.trans (b2.mono bw.size)
      go_wp2_with fail
      refine (ans_is (sh_spec B1 B2 l0 l1 l0.length l1.length _ (RdShip.of_rd o1.rd) o2.rd hs0 hs1 (Nat.le_refl _)) HV.out).mono ?_
      rintro e w3 ⟨B3, C3, rfl, o3, b3⟩
      have k3 : w2.heap.size ≤ w3.heap.size := b3.size
      have o1 := o1.below b3 (by omega)
      have o2 := o2.below b3 (by omega)
      have bw := bw.trans (b3.mono bw.size)
      clear o1
      clear o2
      go_wp2_with fail
      refine (toShipS_any A0 l0 c0 _ (ha0.below bw) hs0).mono ?_
      rintro e w4 ⟨B4, rfl, o4, b4⟩
      have k4 : w3.heap.size ≤ w4.heap.size := b4.size
      have o3 := o3.below b4 (by omega)
      have bw := bw.trans (b4.mono bw.size)
      go_wp2_with fail
      refine (toIntS_any A1 l1 c1 _ (ha1.below bw) hs1).mono ?_
      rintro e w5 ⟨B5, rfl, o5, b5⟩
      have k5 : w4.heap.size ≤ w5.heap.size := b5.size
      have o3 := o3.below b5 (by omega)
      have o4 := o4.below b5 (by omega)
      have bw := bw.trans (b5.mono bw.size)
      go_wp2_with fail
      refine (ans_is (sh_impl B4 B5 l0 l1 l0.length l1.length _ (RdShip.of_rd o4.rd) o5.rd hs0 hs1 (Nat.le_refl _)) HV.out).mono ?_
      rintro e w6 ⟨B6, C6, rfl, o6, b6⟩
      have k6 : w5.heap.size ≤ w6.heap.size := b6.size
      have o3 := o3.below b6 (by omega)
      have o4 := o4.below b6 (by omega)
      have o5 := o5.below b6 (by omega)
      have bw := bw.trans (b6.mono bw.size)
      go_wp2_with fail
      refine (eqIntS_b B6 B3 L L _ _ _ o6.rd o3.rd hL hL).mono ?_
      rintro e w7 ⟨rfl, b7⟩
      have k7 : w6.heap.size ≤ w7.heap.size := b7.size
      have o3 := o3.below b7 (by omega)
      have o4 := o4.below b7 (by omega)
      have o5 := o5.below b7 (by omega)
      have o6 := o6.below b7 (by omega)
      have bw := bw.trans (b7.mono bw.size)
      go_wp2_with fail
      refine (toShipS_any A0 l0 c0 _ (ha0.below bw) hs0).mono ?_
      rintro e w8 ⟨B8, rfl, o8, b8⟩
      have k8 : w7.heap.size ≤ w8.heap.size := b8.size
      have o3 := o3.below b8 (by omega)
      have o4 := o4.below b8 (by omega)
      have o5 := o5.below b8 (by omega)
      have o6 := o6.below b8 (by omega)
      have bw := bw.trans (b8.mono bw.size)
      go_wp2_with fail
      refine (eqShipS_any B4 B8 l0 l0 _ _ _ (RdShip.of_rd o4.rd) (RdShip.of_rd o8.rd) hs0 hs0).mono ?_
      rintro e w9 ⟨rfl, b9⟩
      have k9 : w8.heap.size ≤ w9.heap.size := b9.size
      have o3 := o3.below b9 (by omega)
      have o4 := o4.below b9 (by omega)
      have o5 := o5.below b9 (by omega)
      have o6 := o6.below b9 (by omega)
      have o8 := o8.below b9 (by omega)
      have bw := bw.trans (b9.mono bw.size)
      clear o8
      go_wp2_with fail
      refine (toIntS_any A1 l1 c1 _ (ha1.below bw) hs1).mono ?_
      rintro e w10 ⟨B10, rfl, o10, b10⟩
      have k10 : w9.heap.size ≤ w10.heap.size := b10.size
      have o3 := o3.below b10 (by omega)
      have o4 := o4.below b10 (by omega)
      have o5 := o5.below b10 (by omega)
      have o6 := o6.below b10 (by omega)
      have bw := bw.trans (b10.mono bw.size)
      go_wp2_with fail
      refine (eqIntS_b B5 B10 l1 l1 _ _ _ o5.rd o10.rd hs1 hs1).mono ?_
      rintro e w11 ⟨rfl, b11⟩
      have k11 : w10.heap.size ≤ w11.heap.size := b11.size
      have o3 := o3.below b11 (by omega)
      have o4 := o4.below b11 (by omega)
      have o5 := o5.below b11 (by omega)
      have o6 := o6.below b11 (by omega)
      have o10 := o10.below b11 (by omega)
      have bw := bw.trans (b11.mono bw.size)
      clear o10
      go_wp2_with fail
      refine (markShipS_any _ _ B4 l0.length (flatShip l0) _ (1) _ o4 (flatShip_length _) hs0 (by omega) (by omega)).mono ?_
      rintro e w12 ⟨rfl, o4, b12⟩
      have k12 : w11.heap.size ≤ w12.heap.size := b12.size
      have o3 := o3.chg b12 (by omega)
      have o5 := o5.chg b12 (by omega)
      have o6 := o6.chg b12 (by omega)
      have bw := bw.trans (b12.below (by omega) (by omega))
      go_wp2_with fail
      refine (markIntS_any _ _ B5 l1 _ (1 + (l0.length : Int) * 2) _ o5 hs1 (by omega) (by omega)).mono ?_
      rintro e w13 ⟨rfl, o5, b13⟩
      have k13 : w12.heap.size ≤ w13.heap.size := b13.size
      have o3 := o3.chg b13 (by omega)
      have o4 := o4.chg b13 (by omega)
      have o6 := o6.chg b13 (by omega)
      have bw := bw.trans (b13.below (by omega) (by omega))
      go_wp2_with fail
      refine (eqIntS_b B6 B3 L L _ _ _ o6.rd o3.rd hL hL).mono ?_
      rintro e w14 ⟨rfl, b14⟩
      have k14 : w13.heap.size ≤ w14.heap.size := b14.size
      have o3 := o3.below b14 (by omega)
      have o4 := o4.below b14 (by omega)
      have o5 := o5.below b14 (by omega)
      have o6 := o6.below b14 (by omega)
      have bw := bw.trans (b14.mono bw.size)
      go_wp2_with fail
      refine (markIntS_any _ _ B6 L _ (1) _ o6 hL (by omega) (by omega)).mono ?_
      rintro e w15 ⟨rfl, o6, b15⟩
      have k15 : w14.heap.size ≤ w15.heap.size := b15.size
      have o3 := o3.chg b15 (by omega)
      have o4 := o4.chg b15 (by omega)
      have o5 := o5.chg b15 (by omega)
      have bw := bw.trans (b15.below (by omega) (by omega))
      go_wp2_with fail
      refine (heldIntS_any B6 L.length _ 1 _ o6.rd hL (by omega) (by omega)).mono ?_
      rintro e w' ⟨rfl, rfl⟩
      go_wp2_with fail
      refine (toShipS_any A0 l0 c0 _ (ha0.below bw) hs0).mono ?_
      rintro e w16 ⟨B16, rfl, o16, b16⟩
      have k16 : w15.heap.size ≤ w16.heap.size := b16.size
      have o3 := o3.below b16 (by omega)
      have o4 := o4.below b16 (by omega)
      have o5 := o5.below b16 (by omega)
      have o6 := o6.below b16 (by omega)
      have bw := bw.trans (b16.mono bw.size)
      go_wp2_with fail
      refine (toIntS_any A1 l1 c1 _ (ha1.below bw) hs1).mono ?_
      rintro e w17 ⟨B17, rfl, o17, b17⟩
      have k17 : w16.heap.size ≤ w17.heap.size := b17.size
      have o3 := o3.below b17 (by omega)
      have o4 := o4.below b17 (by omega)
      have o5 := o5.below b17 (by omega)
      have o6 := o6.below b17 (by omega)
      have o16 := o16.below b17 (by omega)
      have bw := bw.trans (b17.mono bw.size)
      go_wp2_with fail
      refine (ans_is (sh_impl B16 B17 l0 l1 l0.length l1.length _ (RdShip.of_rd o16.rd) o17.rd hs0 hs1 (Nat.le_refl _)) HV.out).mono ?_
      rintro e w18 ⟨B18, C18, rfl, o18, b18⟩
      have k18 : w17.heap.size ≤ w18.heap.size := b18.size
      have o3 := o3.below b18 (by omega)
      have o4 := o4.below b18 (by omega)
      have o5 := o5.below b18 (by omega)
      have o6 := o6.below b18 (by omega)
      have o16 := o16.below b18 (by omega)
      have o17 := o17.below b18 (by omega)
      have bw := bw.trans (b18.mono bw.size)
      go_wp2_with fail
      refine (eqIntS_b B18 B3 L L _ _ _ o18.rd o3.rd hL hL).mono ?_
      rintro e w19 ⟨rfl, b19⟩
      have k19 : w18.heap.size ≤ w19.heap.size := b19.size
      have o3 := o3.below b19 (by omega)
      have o4 := o4.below b19 (by omega)
      have o5 := o5.below b19 (by omega)
      have o6 := o6.below b19 (by omega)
      have o16 := o16.below b19 (by omega)
      have o17 := o17.below b19 (by omega)
      have o18 := o18.below b19 (by omega)
      have bw := bw.trans (b19.mono bw.size)
      go_wp2_with fail
      refine (heldIntS_any B6 L.length _ 1 _ o6.rd hL (by omega) (by omega)).mono ?_
      rintro e w' ⟨rfl, rfl⟩
      go_wp2_with fail
      go_ret
      exact ⟨rfl, bw⟩
    · go_enter Try.func4, Try.ntmps4
      go_wp2_with fail
      refine (szShipS_no A0 l0.length c0 _ hl0 hs0).mono ?_
      rintro e w' ⟨rfl, rfl⟩
      go_wp2_with fail
      go_ret
      exact ⟨rfl, Below.refl _ _⟩
  · go_enter Try.func4, Try.ntmps4
    go_wp2_with fail
    go_ret
    exact ⟨rfl, Below.refl _ _⟩
end Go.Proofs.Ytjbocijckoaekaa
