/- Each function on shares, called by its statement. -/
import Derived.Test.YtoopmikcehmpdaaShare
namespace Go.Proofs.Ytoopmikcehmpdaa
open Go.RowKit
set_option linter.unusedVariables false
set_option linter.unusedSimpArgs false

theorem wvb {f : FuncId} {A : Option Addr} {l : List Int} {c : Nat} {w : World} {b : Bool} (h : Calls Try.prog f #[.slice A l.length c] w fun e w' => e = .returned (.bool (workV l)) ∧ w = w') (e : workV l = b) :
    Calls Try.prog f #[.slice A l.length c] w fun e w' => e = .returned (.bool b) ∧ Below w.heap.size w w' := h.mono fun _ _ ⟨he, hw⟩ => ⟨he.trans (ret_bool e), by rw [← hw]; exact Below.refl _ _⟩
theorem shareS_length (l q : List Int) : (shareS l q).length ≤ q.length + 1 := by
  unfold shareS; split
  · rw [sumsTo_length]; exact Nat.le_refl _
  · exact Nat.zero_le _
theorem shareS_short (l q : List Int) : (shareS l q).length ≤ 4 := by
  unfold shareS; split
  · next h => rw [sumsTo_length]; unfold sharesOk at h; simp only [Bool.and_eq_true, decide_eq_true_eq] at h; omega
  · exact Nat.zero_le _
theorem ans_is {v : Value → Value} {L L' : List Int} {t : TypeId} {f : FuncId} {args : Array Value} {w : World} (h : Calls Try.prog f args w (Ans v L.length L t w)) (e : L = L') : Calls Try.prog f args w (Ans v L'.length L' t w) := by rw [← e]; exact h

set_option maxHeartbeats 4000000 in
theorem law_ExWorkValid {A0 : Option Addr} {l0 : List Int} {c0 : Nat} (w : World) (ha0 : Rd w A0 l0) (hl0 : l0.length ≤ 9223372036854775807) :
    Calls Try.prog 3 #[.slice A0 l0.length c0] w fun e w' => e = .returned (.bool true) ∧ Below w.heap.size w w' := by
  by_cases hs0 : l0.length ≤ 1048576
  · skip
    obtain ⟨b, HV⟩ : ∃ b, Hid (workV l0 = b) := ⟨_, rfl⟩
    go_enter Try.func3, Try.ntmps3
    have bw : Below w.heap.size w w := Below.refl _ _
    go_wp2_with fail
    refine (toIntS_any A0 l0 c0 _ (ha0.below bw) hs0).mono ?_
    rintro e w1 ⟨B1, rfl, o1, b1⟩
    have k1 : w.heap.size ≤ w1.heap.size := b1.size
    have bw := bw.trans (b1.mono bw.size)
    go_wp2_with fail
    refine (wvb (wv_spec B1 l0 l0.length _ o1.rd hs0) HV.out).mono ?_
    rintro e w2 ⟨rfl, b2⟩
    have k2 : w1.heap.size ≤ w2.heap.size := b2.size
    have o1 := o1.below b2 (by omega)
    have bw := bw.trans (b2.mono bw.size)
    clear o1
    go_wp2_with fail
    refine (toIntS_any A0 l0 c0 _ (ha0.below bw) hs0).mono ?_
    rintro e w3 ⟨B3, rfl, o3, b3⟩
    have k3 : w2.heap.size ≤ w3.heap.size := b3.size
    have bw := bw.trans (b3.mono bw.size)
    go_wp2_with fail
    refine (wvb (wv_impl B3 l0 l0.length _ o3.rd hs0) HV.out).mono ?_
    rintro e w4 ⟨rfl, b4⟩
    have k4 : w3.heap.size ≤ w4.heap.size := b4.size
    have o3 := o3.below b4 (by omega)
    have bw := bw.trans (b4.mono bw.size)
    go_wp2_with fail
    refine (toIntS_any A0 l0 c0 _ (ha0.below bw) hs0).mono ?_
    rintro e w5 ⟨B5, rfl, o5, b5⟩
    have k5 : w4.heap.size ≤ w5.heap.size := b5.size
    have o3 := o3.below b5 (by omega)
    have bw := bw.trans (b5.mono bw.size)
    go_wp2_with fail
    refine (eqIntS_b B3 B5 l0 l0 _ _ _ o3.rd o5.rd hs0 hs0).mono ?_
    rintro e w6 ⟨rfl, b6⟩
    have k6 : w5.heap.size ≤ w6.heap.size := b6.size
    have o3 := o3.below b6 (by omega)
    have o5 := o5.below b6 (by omega)
    have bw := bw.trans (b6.mono bw.size)
    clear o5
    go_wp2_with fail
    go_ret
    exact ⟨by simp, bw⟩
  · go_enter Try.func3, Try.ntmps3
    go_wp2_with fail
    go_ret
    exact ⟨rfl, Below.refl _ _⟩

set_option maxHeartbeats 4000000 in
theorem law_ExShareSums {A0 : Option Addr} {l0 : List Int} {c0 : Nat} {A1 : Option Addr} {l1 : List Int} {c1 : Nat} (w : World) (ha0 : Rd w A0 l0) (hl0 : l0.length ≤ 9223372036854775807) (ha1 : Rd w A1 l1) (hl1 : l1.length ≤ 9223372036854775807) :
    Calls Try.prog 4 #[.slice A0 l0.length c0, .slice A1 l1.length c1] w fun e w' => e = .returned (.bool true) ∧ Below w.heap.size w w' := by
  by_cases hs0 : l0.length ≤ 1048576
  · skip
    by_cases hs1 : l1.length ≤ 1048576
    · skip
      obtain ⟨L, HV⟩ : ∃ L, Hid (shareS l0 l1 = L) := ⟨_, rfl⟩
      have hL : L.length ≤ 1048576 := by have := shareS_short l0 l1; rw [HV.out] at this; omega
      go_enter Try.func4, Try.ntmps4
      have bw : Below w.heap.size w w := Below.refl _ _
      go_wp2_with fail
      refine (toIntS_any A0 l0 c0 _ (ha0.below bw) hs0).mono ?_
      rintro e w1 ⟨B1, rfl, o1, b1⟩
      have k1 : w.heap.size ≤ w1.heap.size := b1.size
      have bw := bw.trans (b1.mono bw.size)
      go_wp2_with fail
      refine (toIntS_any A1 l1 c1 _ (ha1.below bw) hs1).mono ?_
      rintro e w2 ⟨B2, rfl, o2, b2⟩
      have k2 : w1.heap.size ≤ w2.heap.size := b2.size
      have o1 := o1.below b2 (by omega)
      have bw := bw.trans (b2.mono bw.size)
      go_wp2_with fail
      refine (ans_is (ss_spec B1 B2 l0 l1 l0.length l1.length _ o1.rd o2.rd hs0 hs1) HV.out).mono ?_
      rintro e w3 ⟨B3, C3, rfl, o3, b3⟩
      have k3 : w2.heap.size ≤ w3.heap.size := b3.size
      have o1 := o1.below b3 (by omega)
      have o2 := o2.below b3 (by omega)
      have bw := bw.trans (b3.mono bw.size)
      clear o1
      clear o2
      go_wp2_with fail
      refine (toIntS_any A0 l0 c0 _ (ha0.below bw) hs0).mono ?_
      rintro e w4 ⟨B4, rfl, o4, b4⟩
      have k4 : w3.heap.size ≤ w4.heap.size := b4.size
      have o3 := o3.below b4 (by omega)
      have bw := bw.trans (b4.mono bw.size)
      go_wp2_with fail
      refine (toIntS_any A1 l1 c1 _ (ha1.below bw) hs1).mono ?_
      rintro e w5 ⟨B5, rfl, o5, b5⟩
      have k5 : w4.heap.size ≤ w5.heap.size := b5.size
      have o3 := o3.below b5 (by omega)
      have o4 := o4.below b5 (by omega)
      have bw := bw.trans (b5.mono bw.size)
      go_wp2_with fail
      refine (ans_is (ss_impl B4 B5 l0 l1 l0.length l1.length _ o4.rd o5.rd hs0 hs1 (Nat.le_refl _)) HV.out).mono ?_
      rintro e w6 ⟨B6, C6, rfl, o6, b6⟩
      have k6 : w5.heap.size ≤ w6.heap.size := b6.size
      have o3 := o3.below b6 (by omega)
      have o4 := o4.below b6 (by omega)
      have o5 := o5.below b6 (by omega)
      have bw := bw.trans (b6.mono bw.size)
      go_wp2_with fail
      refine (eqIntS_b B6 B3 L L _ _ _ o6.rd o3.rd hL hL).mono ?_
      rintro e w7 ⟨rfl, b7⟩
      have k7 : w6.heap.size ≤ w7.heap.size := b7.size
      have o3 := o3.below b7 (by omega)
      have o4 := o4.below b7 (by omega)
      have o5 := o5.below b7 (by omega)
      have o6 := o6.below b7 (by omega)
      have bw := bw.trans (b7.mono bw.size)
      go_wp2_with fail
      refine (toIntS_any A0 l0 c0 _ (ha0.below bw) hs0).mono ?_
      rintro e w8 ⟨B8, rfl, o8, b8⟩
      have k8 : w7.heap.size ≤ w8.heap.size := b8.size
      have o3 := o3.below b8 (by omega)
      have o4 := o4.below b8 (by omega)
      have o5 := o5.below b8 (by omega)
      have o6 := o6.below b8 (by omega)
      have bw := bw.trans (b8.mono bw.size)
      go_wp2_with fail
      refine (eqIntS_b B4 B8 l0 l0 _ _ _ o4.rd o8.rd hs0 hs0).mono ?_
      rintro e w9 ⟨rfl, b9⟩
      have k9 : w8.heap.size ≤ w9.heap.size := b9.size
      have o3 := o3.below b9 (by omega)
      have o4 := o4.below b9 (by omega)
      have o5 := o5.below b9 (by omega)
      have o6 := o6.below b9 (by omega)
      have o8 := o8.below b9 (by omega)
      have bw := bw.trans (b9.mono bw.size)
      clear o8
      go_wp2_with fail
      refine (toIntS_any A1 l1 c1 _ (ha1.below bw) hs1).mono ?_
      rintro e w10 ⟨B10, rfl, o10, b10⟩
      have k10 : w9.heap.size ≤ w10.heap.size := b10.size
      have o3 := o3.below b10 (by omega)
      have o4 := o4.below b10 (by omega)
      have o5 := o5.below b10 (by omega)
      have o6 := o6.below b10 (by omega)
      have bw := bw.trans (b10.mono bw.size)
      go_wp2_with fail
      refine (eqIntS_b B5 B10 l1 l1 _ _ _ o5.rd o10.rd hs1 hs1).mono ?_
      rintro e w11 ⟨rfl, b11⟩
      have k11 : w10.heap.size ≤ w11.heap.size := b11.size
      have o3 := o3.below b11 (by omega)
      have o4 := o4.below b11 (by omega)
      have o5 := o5.below b11 (by omega)
      have o6 := o6.below b11 (by omega)
      have o10 := o10.below b11 (by omega)
      have bw := bw.trans (b11.mono bw.size)
      clear o10
      go_wp2_with fail
      refine (markIntS_any _ _ B4 l0 _ (1) _ o4 hs0 (by omega) (by omega)).mono ?_
      rintro e w12 ⟨rfl, o4, b12⟩
      have k12 : w11.heap.size ≤ w12.heap.size := b12.size
      have o3 := o3.chg b12 (by omega)
      have o5 := o5.chg b12 (by omega)
      have o6 := o6.chg b12 (by omega)
      have bw := bw.trans (b12.below (by omega) (by omega))
      go_wp2_with fail
      refine (markIntS_any _ _ B5 l1 _ (1 + (l0.length : Int)) _ o5 hs1 (by omega) (by omega)).mono ?_
      rintro e w13 ⟨rfl, o5, b13⟩
      have k13 : w12.heap.size ≤ w13.heap.size := b13.size
      have o3 := o3.chg b13 (by omega)
      have o4 := o4.chg b13 (by omega)
      have o6 := o6.chg b13 (by omega)
      have bw := bw.trans (b13.below (by omega) (by omega))
      go_wp2_with fail
      refine (eqIntS_b B6 B3 L L _ _ _ o6.rd o3.rd hL hL).mono ?_
      rintro e w14 ⟨rfl, b14⟩
      have k14 : w13.heap.size ≤ w14.heap.size := b14.size
      have o3 := o3.below b14 (by omega)
      have o4 := o4.below b14 (by omega)
      have o5 := o5.below b14 (by omega)
      have o6 := o6.below b14 (by omega)
      have bw := bw.trans (b14.mono bw.size)
      go_wp2_with fail
      refine (markIntS_any _ _ B6 L _ (1) _ o6 hL (by omega) (by omega)).mono ?_
      rintro e w15 ⟨rfl, o6, b15⟩
      have k15 : w14.heap.size ≤ w15.heap.size := b15.size
      have o3 := o3.chg b15 (by omega)
      have o4 := o4.chg b15 (by omega)
      have o5 := o5.chg b15 (by omega)
      have bw := bw.trans (b15.below (by omega) (by omega))
      go_wp2_with fail
      refine (heldIntS_any B6 L.length _ 1 _ o6.rd hL (by omega) (by omega)).mono ?_
      rintro e w' ⟨rfl, rfl⟩
      go_wp2_with fail
      refine (toIntS_any A0 l0 c0 _ (ha0.below bw) hs0).mono ?_
      rintro e w16 ⟨B16, rfl, o16, b16⟩
      have k16 : w15.heap.size ≤ w16.heap.size := b16.size
      have o3 := o3.below b16 (by omega)
      have o4 := o4.below b16 (by omega)
      have o5 := o5.below b16 (by omega)
      have o6 := o6.below b16 (by omega)
      have bw := bw.trans (b16.mono bw.size)
      go_wp2_with fail
      refine (toIntS_any A1 l1 c1 _ (ha1.below bw) hs1).mono ?_
      rintro e w17 ⟨B17, rfl, o17, b17⟩
      have k17 : w16.heap.size ≤ w17.heap.size := b17.size
      have o3 := o3.below b17 (by omega)
      have o4 := o4.below b17 (by omega)
      have o5 := o5.below b17 (by omega)
      have o6 := o6.below b17 (by omega)
      have o16 := o16.below b17 (by omega)
      have bw := bw.trans (b17.mono bw.size)
      go_wp2_with fail
      refine (ans_is (ss_impl B16 B17 l0 l1 l0.length l1.length _ o16.rd o17.rd hs0 hs1 (Nat.le_refl _)) HV.out).mono ?_
      rintro e w18 ⟨B18, C18, rfl, o18, b18⟩
      have k18 : w17.heap.size ≤ w18.heap.size := b18.size
      have o3 := o3.below b18 (by omega)
      have o4 := o4.below b18 (by omega)
      have o5 := o5.below b18 (by omega)
      have o6 := o6.below b18 (by omega)
      have o16 := o16.below b18 (by omega)
      have o17 := o17.below b18 (by omega)
      have bw := bw.trans (b18.mono bw.size)
      go_wp2_with fail
      refine (eqIntS_b B18 B3 L L _ _ _ o18.rd o3.rd hL hL).mono ?_
      rintro e w19 ⟨rfl, b19⟩
      have k19 : w18.heap.size ≤ w19.heap.size := b19.size
      have o3 := o3.below b19 (by omega)
      have o4 := o4.below b19 (by omega)
      have o5 := o5.below b19 (by omega)
      have o6 := o6.below b19 (by omega)
      have o16 := o16.below b19 (by omega)
      have o17 := o17.below b19 (by omega)
      have o18 := o18.below b19 (by omega)
      have bw := bw.trans (b19.mono bw.size)
      go_wp2_with fail
      refine (heldIntS_any B6 L.length _ 1 _ o6.rd hL (by omega) (by omega)).mono ?_
      rintro e w' ⟨rfl, rfl⟩
      go_wp2_with fail
      go_ret
      exact ⟨rfl, bw⟩
    · go_enter Try.func4, Try.ntmps4
      go_wp2_with fail
      go_ret
      exact ⟨rfl, Below.refl _ _⟩
  · go_enter Try.func4, Try.ntmps4
    go_wp2_with fail
    go_ret
    exact ⟨rfl, Below.refl _ _⟩

theorem gsb {f : FuncId} {args : Array Value} {w : World} {v x : Int} (h : Calls Try.prog f args w fun e w' => e = .returned (.int .i64 v) ∧ Below w.heap.size w w') (e : v = x) :
    Calls Try.prog f args w fun e w' => e = .returned (.int .i64 x) ∧ Below w.heap.size w w' := by rw [← e]; exact h

set_option maxHeartbeats 4000000 in
theorem law_ExGreatestShare {A0 : Option Addr} {l0 : List Int} {c0 : Nat} {A1 : Option Addr} {l1 : List Int} {c1 : Nat} (w : World) (ha0 : Rd w A0 l0) (hl0 : l0.length ≤ 9223372036854775807) (ha1 : Rd w A1 l1) (hl1 : l1.length ≤ 9223372036854775807) :
    Calls Try.prog 5 #[.slice A0 l0.length c0, .slice A1 l1.length c1] w fun e w' => e = .returned (.bool true) ∧ Below w.heap.size w w' := by
  by_cases hs0 : l0.length ≤ 1048576
  · skip
    by_cases hs1 : l1.length ≤ 1048576
    · skip
      obtain ⟨x, HV⟩ : ∃ x, Hid (greatS l0 l1 = x) := ⟨_, rfl⟩
      go_enter Try.func5, Try.ntmps5
      have bw : Below w.heap.size w w := Below.refl _ _
      go_wp2_with fail
      refine (toIntS_any A0 l0 c0 _ (ha0.below bw) hs0).mono ?_
      rintro e w1 ⟨B1, rfl, o1, b1⟩
      have k1 : w.heap.size ≤ w1.heap.size := b1.size
      have bw := bw.trans (b1.mono bw.size)
      go_wp2_with fail
      refine (toIntS_any A1 l1 c1 _ (ha1.below bw) hs1).mono ?_
      rintro e w2 ⟨B2, rfl, o2, b2⟩
      have k2 : w1.heap.size ≤ w2.heap.size := b2.size
      have o1 := o1.below b2 (by omega)
      have bw := bw.trans (b2.mono bw.size)
      go_wp2_with fail
      refine (gsb (gs_spec B1 B2 l0 l1 l0.length l1.length _ o1.rd o2.rd hs0 hs1) HV.out).mono ?_
      rintro e w3 ⟨rfl, b3⟩
      have k3 : w2.heap.size ≤ w3.heap.size := b3.size
      have o1 := o1.below b3 (by omega)
      have o2 := o2.below b3 (by omega)
      have bw := bw.trans (b3.mono bw.size)
      clear o1
      clear o2
      go_wp2_with fail
      refine (toIntS_any A0 l0 c0 _ (ha0.below bw) hs0).mono ?_
      rintro e w4 ⟨B4, rfl, o4, b4⟩
      have k4 : w3.heap.size ≤ w4.heap.size := b4.size
      have bw := bw.trans (b4.mono bw.size)
      go_wp2_with fail
      refine (toIntS_any A1 l1 c1 _ (ha1.below bw) hs1).mono ?_
      rintro e w5 ⟨B5, rfl, o5, b5⟩
      have k5 : w4.heap.size ≤ w5.heap.size := b5.size
      have o4 := o4.below b5 (by omega)
      have bw := bw.trans (b5.mono bw.size)
      go_wp2_with fail
      refine (gsb (gs_impl B4 B5 l0 l1 l0.length l1.length _ o4.rd o5.rd hs0 hs1 (Nat.le_refl _)) HV.out).mono ?_
      rintro e w6 ⟨rfl, b6⟩
      have k6 : w5.heap.size ≤ w6.heap.size := b6.size
      have o4 := o4.below b6 (by omega)
      have o5 := o5.below b6 (by omega)
      have bw := bw.trans (b6.mono bw.size)
      go_wp2_with fail
      refine (toIntS_any A0 l0 c0 _ (ha0.below bw) hs0).mono ?_
      rintro e w7 ⟨B7, rfl, o7, b7⟩
      have k7 : w6.heap.size ≤ w7.heap.size := b7.size
      have o4 := o4.below b7 (by omega)
      have o5 := o5.below b7 (by omega)
      have bw := bw.trans (b7.mono bw.size)
      go_wp2_with fail
      refine (eqIntS_b B4 B7 l0 l0 _ _ _ o4.rd o7.rd hs0 hs0).mono ?_
      rintro e w8 ⟨rfl, b8⟩
      have k8 : w7.heap.size ≤ w8.heap.size := b8.size
      have o4 := o4.below b8 (by omega)
      have o5 := o5.below b8 (by omega)
      have o7 := o7.below b8 (by omega)
      have bw := bw.trans (b8.mono bw.size)
      clear o7
      go_wp2_with fail
      refine (toIntS_any A1 l1 c1 _ (ha1.below bw) hs1).mono ?_
      rintro e w9 ⟨B9, rfl, o9, b9⟩
      have k9 : w8.heap.size ≤ w9.heap.size := b9.size
      have o4 := o4.below b9 (by omega)
      have o5 := o5.below b9 (by omega)
      have bw := bw.trans (b9.mono bw.size)
      go_wp2_with fail
      refine (eqIntS_b B5 B9 l1 l1 _ _ _ o5.rd o9.rd hs1 hs1).mono ?_
      rintro e w10 ⟨rfl, b10⟩
      have k10 : w9.heap.size ≤ w10.heap.size := b10.size
      have o4 := o4.below b10 (by omega)
      have o5 := o5.below b10 (by omega)
      have o9 := o9.below b10 (by omega)
      have bw := bw.trans (b10.mono bw.size)
      clear o9
      go_wp2_with fail
      go_ret
      exact ⟨by simp, bw⟩
    · go_enter Try.func5, Try.ntmps5
      go_wp2_with fail
      go_ret
      exact ⟨rfl, Below.refl _ _⟩
  · go_enter Try.func5, Try.ntmps5
    go_wp2_with fail
    go_ret
    exact ⟨rfl, Below.refl _ _⟩
end Go.Proofs.Ytoopmikcehmpdaa
