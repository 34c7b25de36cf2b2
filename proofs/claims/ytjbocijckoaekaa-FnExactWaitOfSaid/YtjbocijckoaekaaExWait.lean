/- WaitOf called by its statement. -/
import Derived.Test.YtjbocijckoaekaaWait
import Derived.Test.YtjbocijckoaekaaTShip
namespace Go.Proofs.Ytjbocijckoaekaa
open Go.RowKit
set_option linter.unusedVariables false
set_option linter.unusedSimpArgs false

theorem inb {f : FuncId} {args : Array Value} {w : World} {v x : Int} (h : Calls Try.prog f args w fun e w' => e = .returned (.int .i64 v) ∧ Below w.heap.size w w') (e : v = x) :
    Calls Try.prog f args w fun e w' => e = .returned (.int .i64 x) ∧ Below w.heap.size w w' := by rw [← e]; exact h
set_option maxHeartbeats 4000000 in
theorem law_ExWaitOf {A0 : Option Addr} {l0 : List ShipV} {c0 : Nat} {A1 : Option Addr} {l1 : List Int} {c1 : Nat} (w : World) (ha0 : RdShip w A0 l0) (hl0 : l0.length ≤ 9223372036854775807) (ha1 : Rd w A1 l1) (hl1 : l1.length ≤ 9223372036854775807) :
    Calls Try.prog 5 #[.slice A0 l0.length c0, .slice A1 l1.length c1] w fun e w' => e = .returned (.bool true) ∧ Below w.heap.size w w' := by
  by_cases hs1 : l1.length ≤ 1048576
  · skip
    by_cases hs0 : l0.length ≤ 1048576
    · skip
      obtain ⟨x, HV⟩ : ∃ x, Hid (waitS l0 l1 = x) := ⟨_, rfl⟩
      go_enter Try.func5, Try.ntmps5
      have bw : Below w.heap.size w w := Below.refl _ _
      go_wp2_with fail
      refine (szShipS_yes A0 l0.length c0 _ hs0).mono ?_
      rintro e w' ⟨rfl, rfl⟩
      go_wp2_with fail
      refine (toShipS_any A0 l0 c0 _ (ha0.below bw) hs0).mono ?_
      rintro e w1 ⟨B1, rfl, o1, b1⟩
      have k1 : w.heap.size ≤ w1.heap.size := b1.size
      have bw := bw.trans (b1.mono bw.size)
      go_wp2_with fail
      refine (toIntS_any A1 l1 c1 _ (ha1.below bw) hs1).mono ?_
      rintro e w2 ⟨B2, rfl, o2, b2⟩
      have k2 : w1.heap.size ≤ w2.heap.size := b2.size
      have o1 := o1.below b2 (by omega)
      have bw := bw.trans (b2.mono bw.size)
      go_wp2_with fail
      refine (inb (wo_spec B1 B2 l0 l1 l0.length l1.length _ (RdShip.of_rd o1.rd) o2.rd hs0 hs1 (Nat.le_refl _)) HV.out).mono ?_
      rintro e w3 ⟨rfl, b3⟩
      have k3 : w2.heap.size ≤ w3.heap.size := b3.size
      have o1 := o1.below b3 (by omega)
      have o2 := o2.below b3 (by omega)
      have bw := bw.trans (b3.mono bw.size)
      clear o1
      clear o2
      go_wp2_with fail
      refine (toShipS_any A0 l0 c0 _ (ha0.below bw) hs0).mono ?_
      rintro e w4 ⟨B4, rfl, o4, b4⟩
      have k4 : w3.heap.size ≤ w4.heap.size := b4.size
      have bw := bw.trans (b4.mono bw.size)
      go_wp2_with fail
      refine (toIntS_any A1 l1 c1 _ (ha1.below bw) hs1).mono ?_
      rintro e w5 ⟨B5, rfl, o5, b5⟩
      have k5 : w4.heap.size ≤ w5.heap.size := b5.size
      have o4 := o4.below b5 (by omega)
      have bw := bw.trans (b5.mono bw.size)
      go_wp2_with fail
      refine (inb (wo_impl B4 B5 l0 l1 l0.length l1.length _ (RdShip.of_rd o4.rd) o5.rd hs0 hs1 (Nat.le_refl _)) HV.out).mono ?_
      rintro e w6 ⟨rfl, b6⟩
      have k6 : w5.heap.size ≤ w6.heap.size := b6.size
      have o4 := o4.below b6 (by omega)
      have o5 := o5.below b6 (by omega)
      have bw := bw.trans (b6.mono bw.size)
      go_wp2_with fail
      refine (toShipS_any A0 l0 c0 _ (ha0.below bw) hs0).mono ?_
      rintro e w7 ⟨B7, rfl, o7, b7⟩
      have k7 : w6.heap.size ≤ w7.heap.size := b7.size
      have o4 := o4.below b7 (by omega)
      have o5 := o5.below b7 (by omega)
      have bw := bw.trans (b7.mono bw.size)
      go_wp2_with fail
      refine (eqShipS_any B4 B7 l0 l0 _ _ _ (RdShip.of_rd o4.rd) (RdShip.of_rd o7.rd) hs0 hs0).mono ?_
      rintro e w8 ⟨rfl, b8⟩
      have k8 : w7.heap.size ≤ w8.heap.size := b8.size
      have o4 := o4.below b8 (by omega)
      have o5 := o5.below b8 (by omega)
      have o7 := o7.below b8 (by omega)
      have bw := bw.trans (b8.mono bw.size)
      clear o7
      go_wp2_with fail
      refine (toIntS_any A1 l1 c1 _ (ha1.below bw) hs1).mono ?_
      rintro e w9 ⟨B9, rfl, o9, b9⟩
      have k9 : w8.heap.size ≤ w9.heap.size := b9.size
      have o4 := o4.below b9 (by omega)
      have o5 := o5.below b9 (by omega)
      have bw := bw.trans (b9.mono bw.size)
      go_wp2_with fail
      refine (eqIntS_b B5 B9 l1 l1 _ _ _ o5.rd o9.rd hs1 hs1).mono ?_
      rintro e w10 ⟨rfl, b10⟩
      have k10 : w9.heap.size ≤ w10.heap.size := b10.size
      have o4 := o4.below b10 (by omega)
      have o5 := o5.below b10 (by omega)
      have o9 := o9.below b10 (by omega)
      have bw := bw.trans (b10.mono bw.size)
      clear o9
      go_wp2_with fail
      go_ret
      exact ⟨by simp, bw⟩
    · go_enter Try.func5, Try.ntmps5
      go_wp2_with fail
      refine (szShipS_no A0 l0.length c0 _ hl0 hs0).mono ?_
      rintro e w' ⟨rfl, rfl⟩
      go_wp2_with fail
      go_ret
      exact ⟨rfl, Below.refl _ _⟩
  · go_enter Try.func5, Try.ntmps5
    go_wp2_with fail
    go_ret
    exact ⟨rfl, Below.refl _ _⟩
end Go.Proofs.Ytjbocijckoaekaa
