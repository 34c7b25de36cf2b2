/- ShipsValid called by its statement. -/
import Derived.Test.YtjbocijckoaekaaPair
import Derived.Test.YtjbocijckoaekaaTShip
namespace Go.Proofs.Ytjbocijckoaekaa
open Go.RowKit
set_option linter.unusedVariables false
set_option linter.unusedSimpArgs false

set_option maxHeartbeats 4000000 in
theorem law_ExShipsValid {A0 : Option Addr} {l0 : List ShipV} {c0 : Nat} (w : World) (ha0 : RdShip w A0 l0) (hl0 : l0.length ≤ 9223372036854775807) :
    Calls Try.prog 3 #[.slice A0 l0.length c0] w fun e w' => e = .returned (.bool true) ∧ Below w.heap.size w w' := by
  by_cases hs0 : l0.length ≤ 1048576
  · skip
    obtain ⟨r, HV⟩ : ∃ r, Hid (listV l0 = r) := ⟨_, rfl⟩
    go_enter Try.func3, Try.ntmps3
    have bw : Below w.heap.size w w := Below.refl _ _
    go_wp2_with fail
    refine (szShipS_yes A0 l0.length c0 _ hs0).mono ?_
    rintro e w' ⟨rfl, rfl⟩
    go_wp2_with fail
    refine (toShipS_any A0 l0 c0 _ (ha0.below bw) hs0).mono ?_
    rintro e w1 ⟨B1, rfl, o1, b1⟩
    have k1 : w.heap.size ≤ w1.heap.size := b1.size
    have bw := bw.trans (b1.mono bw.size)
    go_wp2_with fail
    refine (lvs (lv_spec B1 l0 l0.length _ (RdShip.of_rd o1.rd) hs0) HV.out).mono ?_
    rintro e w2 ⟨rfl, b2⟩
    have k2 : w1.heap.size ≤ w2.heap.size := b2.size
    have o1 := o1.below b2 (by omega)
    have bw := bw.trans (b2.mono bw.size)
    clear o1
    go_wp2_with fail
    refine (toShipS_any A0 l0 c0 _ (ha0.below bw) hs0).mono ?_
    rintro e w3 ⟨B3, rfl, o3, b3⟩
    have k3 : w2.heap.size ≤ w3.heap.size := b3.size
    have bw := bw.trans (b3.mono bw.size)
    go_wp2_with fail
    refine (lvb (lv_impl B3 l0 l0.length _ (RdShip.of_rd o3.rd) hs0) HV.out).mono ?_
    rintro e w4 ⟨rfl, b4⟩
    have k4 : w3.heap.size ≤ w4.heap.size := b4.size
    have o3 := o3.below b4 (by omega)
    have bw := bw.trans (b4.mono bw.size)
    go_wp2_with fail
    refine (toShipS_any A0 l0 c0 _ (ha0.below bw) hs0).mono ?_
    rintro e w5 ⟨B5, rfl, o5, b5⟩
    have k5 : w4.heap.size ≤ w5.heap.size := b5.size
    have o3 := o3.below b5 (by omega)
    have bw := bw.trans (b5.mono bw.size)
    go_wp2_with fail
    refine (eqShipS_any B3 B5 l0 l0 _ _ _ (RdShip.of_rd o3.rd) (RdShip.of_rd o5.rd) hs0 hs0).mono ?_
    rintro e w6 ⟨rfl, b6⟩
    have k6 : w5.heap.size ≤ w6.heap.size := b6.size
    have o3 := o3.below b6 (by omega)
    have o5 := o5.below b6 (by omega)
    have bw := bw.trans (b6.mono bw.size)
    clear o5
    go_wp2_with fail
    go_ret
    exact ⟨by simp, bw⟩
  · go_enter Try.func3, Try.ntmps3
    go_wp2_with fail
    refine (szShipS_no A0 l0.length c0 _ hl0 hs0).mono ?_
    rintro e w' ⟨rfl, rfl⟩
    go_wp2_with fail
    go_ret
    exact ⟨rfl, Below.refl _ _⟩
end Go.Proofs.Ytjbocijckoaekaa
