/- The law on BestWait: what it draws, and that it answers true. -/
import Derived.Test.YtjbocijckoaekaaBestImpl
import Derived.Test.YtjbocijckoaekaaComeLaws
import Derived.Test.YtjbocijckoaekaaWaitLaw
namespace Go.Proofs.Ytjbocijckoaekaa
open Go.RowKit
set_option linter.unusedVariables false
set_option linter.unusedSimpArgs false

section
variable {A : Option Addr} {l : List Int} {c : Nat}
set_option maxHeartbeats 400000 in
theorem drawBW (w : World) (ha : RdU w A l) (hc : l.length ≤ c) (hl : l.length ≤ 1048576) : Calls Try.prog 36 #[.slice A l.length c] w (GotList w) := by
  go_enter Try.func36, Try.ntmps36
  go_wp2_with fail
  refine (open_any w ha hc hl).mono ?_
  rintro e w1 ⟨g, rfl, r1, b1⟩
  go_wp2_with fail
  refine (list_any w.heap.size g 0 9 w1 r1 (by omega) (by omega) (by omega)).mono ?_
  rintro e w2 ⟨g1, l2, c2, rfl, hl9, hlc, hlb, o1, d2⟩
  have HB := Lib.hid (b1.trans (d2.below b1.size))
  have HL := Lib.hid hlb
  clear hlb
  go_wp2_with fail
  go_ret
  exact ⟨g1, l2, c2, rfl, hl9, hlc, HL.out, o1.rd, HB.out⟩
set_option maxHeartbeats 3200000 in
theorem law_BestWait (w : World) (ha : RdU w A l) (hl : l.length ≤ 9223372036854775807) (hc : l.length ≤ c) :
    Calls Try.prog 11 #[.slice A l.length c] w fun e w' => e = .returned (.bool true) ∧ Below w.heap.size w w' := by
  by_cases hs : l.length ≤ 1048576
  · go_enter Try.func11, Try.ntmps11
    go_wp2_with fail
    refine (drawBW w ha hc hs).mono ?_
    rintro e w1 ⟨g1, l2, c1, rfl, h9, hlc, _, rf, b1⟩
    obtain ⟨L, HL⟩ : ∃ L, Hid (bestS l2 = L) := ⟨_, rfl⟩
    have hL6 : L.length ≤ 5 := by have := bestS_short l2; rw [HL.out] at this; exact this
    obtain ⟨r, HV⟩ : ∃ r, Hid (listV l2 = r) := ⟨_, rfl⟩
    have rt := RdShip.of_rd rf
    have bw := b1
    clear b1 rf
    go_wp2_with fail
    refine (ansC_of (bw_implC _ l2 c1 _ rt (by omega)) HL.out).mono ?_
    rintro e w2 ⟨A2, c2, rfl, hc2, o2, b2⟩
    have r2 := o2.rd
    have rt := rt.below b2
    have bw := bw.trans (b2.mono bw.size)
    clear o2 b2
    go_wp2_with fail
    refine (ansC_of (bw_specC _ l2 c1 _ rt (by omega)) HL.out).mono ?_
    rintro e w3 ⟨A3, c3, rfl, hc3, o3, b3⟩
    have r3 := o3.rd
    have r2 := r2.below b3
    have rt := rt.below b3
    have bw := bw.trans (b3.mono bw.size)
    clear o3 b3
    go_wp2_with fail
    refine (same_b A2 A3 L L c2 c3 _ r2 r3 (by omega) (by omega) rfl).mono ?_
    rintro e w4 ⟨rfl, b4⟩
    have r2 := r2.below b4
    have rt := rt.below b4
    have bw := bw.trans (b4.mono bw.size)
    clear r3 b4
    go_wp2_with fail
    refine (bool_is (lv_spec _ l2 c1 _ rt (by omega)) HV.out).mono ?_
    rintro e w' ⟨rfl, rfl⟩
    cases r with
    | false =>
      have HL0 : Hid (L = []) := by show _ = _; rw [← HL.out]; exact bestS_no HV.out
      have t0 : ((L.length : Int) == 0) = true := by rw [HL0.out]; rfl
      go_wp2_with fail
      refine (alive_any _).mono ?_
      rintro e w' ⟨rfl, rfl⟩
      go_wp2_with fail
      go_ret
      exact ⟨rfl, bw⟩
    | true =>
      have HLL : Hid (L.length = l2.length) := by show _ = _; rw [← HL.out, bestS_len HV.out]
      obtain ⟨N, HN⟩ : ∃ N, Hid (waitS l2 L = N) := ⟨_, rfl⟩
      obtain ⟨M, HM⟩ : ∃ M, Hid (comeS l2 = M) := ⟨_, rfl⟩
      have hM6 : M.length ≤ 5 := by have := comeS_short l2; rw [HM.out] at this; exact this
      obtain ⟨K, HK⟩ : ∃ K, Hid (waitS l2 M = K) := ⟨_, rfl⟩
      have hN0 : 0 ≤ N := by rw [← HN.out, ← HL.out]; exact waitS_nonneg (ok_yes HV.out (bestS_spec HV.out).1)
      have hNK : N ≤ K := by rw [← HN.out, ← HL.out, ← HK.out, ← HM.out]; exact (bestS_spec HV.out).2 _ (startOk_spec (come_ok HV.out)).2
      have t0 : ((L.length : Int) == (l2.length : Int)) = true := by rw [HLL.out]; simp
      go_wp2_with fail
      refine (int_b (wo_impl _ A2 l2 L c1 c2 _ rt r2 (by omega) (by omega) hc2) HN.out).mono ?_
      rintro e w5 ⟨rfl, b5⟩
      have rt := rt.below b5
      have bw := bw.trans (b5.mono bw.size)
      clear b5 r2
      go_wp2_with fail
      refine (ansC_of (co_implC _ l2 c1 _ rt (by omega)) HM.out).mono ?_
      rintro e w6 ⟨A6, c6, rfl, hc6, o6, b6⟩
      have r6 := o6.rd
      have rt := rt.below b6
      have bw := bw.trans (b6.mono bw.size)
      clear o6 b6
      go_wp2_with fail
      refine (int_b (wo_impl _ A6 l2 M c1 c6 _ rt r6 (by omega) (by omega) hc6) HK.out).mono ?_
      rintro e w7 ⟨rfl, b7⟩
      have HB7 := Lib.hid (bw.trans (b7.mono bw.size))
      go_wp2_with fail
      go_ret
      exact ⟨by first | rfl | exact ret_bool (by simp; omega), HB7.out⟩
  · go_enter Try.func11, Try.ntmps11
    go_wp2_with fail
    go_ret
    exact ⟨rfl, Below.refl _ _⟩
end
end Go.Proofs.Ytjbocijckoaekaa
