/- The law on WaitOf: what it draws, and that it answers true. -/
import Derived.Test.YtjbocijckoaekaaBestImpl
import Derived.Test.YtjbocijckoaekaaStartLaws
namespace Go.Proofs.Ytjbocijckoaekaa
open Go.RowKit
set_option linter.unusedVariables false
set_option linter.unusedSimpArgs false

section
variable {A : Option Addr} {l : List Int} {c : Nat}
theorem int_w {f : FuncId} {args : Array Value} {w : World} {v x : Int} (h : Calls Try.prog f args w fun e w' => e = .returned (.int .i64 v) ∧ Below w.heap.size w w') (e : v = x) :
    Calls Try.prog f args w fun e w' => e = .returned (.int .i64 x) ∧ Below w.heap.size w w' := by rw [← e]; exact h
set_option maxHeartbeats 400000 in
theorem drawWO (w : World) (ha : RdU w A l) (hc : l.length ≤ c) (hl : l.length ≤ 1048576) : Calls Try.prog 35 #[.slice A l.length c] w (GotPairs w) := by
  go_enter Try.func35, Try.ntmps35
  go_wp2_with fail
  refine (drawSO w ha hc hl).mono ?_
  rintro e w1 ⟨g1, l2, c1, g2, o, d1, rfl, h9, hlc, ho9, hoc, rf, ro, b1⟩
  have H : Hid (GotPairs w (.returned (.tuple #[.slice (some ⟨g1, 0, none⟩) l2.length c1, .slice (some ⟨g2, 0, none⟩) o.length d1])) w1) := ⟨g1, l2, c1, g2, o, d1, rfl, h9, hlc, ho9, hoc, rf, ro, b1⟩
  clear rf ro b1
  go_wp2_with fail
  go_ret2
  exact H.out
set_option maxHeartbeats 3200000 in
theorem law_WaitOf (w : World) (ha : RdU w A l) (hl : l.length ≤ 9223372036854775807) (hc : l.length ≤ c) :
    Calls Try.prog 10 #[.slice A l.length c] w fun e w' => e = .returned (.bool true) ∧ Below w.heap.size w w' := by
  by_cases hs : l.length ≤ 1048576
  · go_enter Try.func10, Try.ntmps10
    go_wp2_with fail
    refine (drawWO w ha hc hs).mono ?_
    rintro e w1 ⟨g1, l2, c1, g2, o, d1, rfl, h9, hlc, ho9, hoc, rf, ro, b1⟩
    obtain ⟨N, HN⟩ : ∃ N, Hid (waitS l2 o = N) := ⟨_, rfl⟩
    have rt := RdShip.of_rd rf
    have bw := b1
    clear b1 rf
    go_wp2_with fail
    refine (int_w (wo_impl _ _ l2 o c1 d1 _ rt ro (by omega) (by omega) hoc) HN.out).mono ?_
    rintro e w2 ⟨rfl, b2⟩
    have rt := rt.below b2
    have ro := ro.below b2
    have bw := bw.trans (b2.mono bw.size)
    clear b2
    go_wp2_with fail
    refine (int_w (wo_spec _ _ l2 o c1 d1 _ rt ro (by omega) (by omega) hoc) HN.out).mono ?_
    rintro e w3 ⟨rfl, b3⟩
    have rt := rt.below b3
    have bw := bw.trans (b3.mono bw.size)
    clear b3 ro
    by_cases h0 : N < 0
    · have HN1 : Hid (N = -1) := by
        show _ = _
        cases h : startOk l2 o with
        | true => have := waitS_nonneg h; rw [HN.out] at this; omega
        | false => rw [← HN.out]; exact waitS_no h
      have t0 : ((N : Int) == -1) = true := by rw [HN1.out]; rfl
      go_wp2_with fail
      refine (alive_any _).mono ?_
      rintro e w' ⟨rfl, rfl⟩
      go_wp2_with fail
      go_ret
      exact ⟨rfl, bw⟩
    · have HOK : Hid (startOk l2 o = true) := by
        show _ = _
        cases h : startOk l2 o with
        | true => rfl
        | false => have := waitS_no h; rw [HN.out] at this; omega
      obtain ⟨L, HL⟩ : ∃ L, Hid (bestS l2 = L) := ⟨_, rfl⟩
      have hL6 : L.length ≤ 5 := by have := bestS_short l2; rw [HL.out] at this; exact this
      obtain ⟨M, HM⟩ : ∃ M, Hid (waitS l2 L = M) := ⟨_, rfl⟩
      obtain ⟨hv, hp⟩ := startOk_spec HOK.out
      have hM0 : 0 ≤ M := by rw [← HM.out, ← HL.out]; exact waitS_nonneg (ok_yes hv (bestS_spec hv).1)
      have hMN : M ≤ N := by rw [← HM.out, ← HL.out, ← HN.out]; exact (bestS_spec hv).2 _ hp
      clear hv hp
      go_wp2_with fail
      refine (ansC_of (bw_implC _ l2 c1 _ rt (by omega)) HL.out).mono ?_
      rintro e w4 ⟨A4, c4, rfl, hc4, o4, b4⟩
      have r4 := o4.rd
      have rt := rt.below b4
      have bw := bw.trans (b4.mono bw.size)
      clear o4 b4
      go_wp2_with fail
      refine (int_w (wo_impl _ A4 l2 L c1 c4 _ rt r4 (by omega) (by omega) hc4) HM.out).mono ?_
      rintro e w5 ⟨rfl, b5⟩
      have HB5 := Lib.hid (bw.trans (b5.mono bw.size))
      go_wp2_with fail
      go_ret
      exact ⟨by first | rfl | exact ret_bool (by simp; omega), HB5.out⟩
  · go_enter Try.func10, Try.ntmps10
    go_wp2_with fail
    go_ret
    exact ⟨rfl, Below.refl _ _⟩
end
end Go.Proofs.Ytjbocijckoaekaa
