/- The law on ships one after the other: it answers true. -/
import Derived.Test.YtiejkcjbjjnacaaAllDraw
import Derived.Test.YtiejkcjbjjnacaaBerth7
namespace Go.Proofs.Ytiejkcjbjjnacaa
open Go.RowKit
set_option linter.unusedVariables false
set_option linter.unusedSimpArgs false

set_option maxHeartbeats 800000 in
theorem sameCalls_t (A B : Option Addr) (l : List CallV) (m c d : Nat) (w : World) (ha : RdCall w A l) (hb : RdCall w B l) (hm : l.length = m) (hl : m ≤ 1048576) :
    Calls Try.prog 39 #[.slice A m c, .slice B m d] w fun e w' => e = .returned (.bool true) ∧ Below w.heap.size w w' := by
  have HM := Lib.hid hm
  have t0 : ((m : Int) != (m : Int)) = false := by simp
  clear hm
  go_enter Try.func39, Try.ntmps39
  go_wp2_with fail
  go_loopw [5] (fun i wr => ∃ k n : Nat, k ≤ m ∧ i = .int .i64 k ∧ wr = w.drewN n) (fun i _ => m - (intOf i).toNat)
  case atStart => exact ⟨0, 0, by omega, rfl, rfl⟩
  case round =>
    obtain ⟨k, n, hk, rfl, rfl⟩ := hrel
    by_cases hlt : k < m
    · obtain ⟨b, off, x, rfl, hbx, Hx, hx0, hx1, hx2, hx3⟩ := ha.at_ (k := k) (by have := HM.out; omega)
      obtain ⟨b', off', y, rfl, hby, Hy, hy0, hy1, hy2, hy3⟩ := hb.at_ (k := k) (by have := HM.out; omega)
      obtain rfl : x = y := by have h1 := Hx.out; rw [Hy.out] at h1; injection h1 with h1; exact h1.symm
      have q0 : (0 : Int) ≤ (k : Int) := by omega
      have q1 : (k : Int) < (m : Int) := by omega
      go_wp2_with fail
      go_quiet (fail)
      go_wp2_with fail
      exact ⟨⟨k + 1, _, by omega, by go_num, rfl⟩, by simp [intOf]; omega⟩
    · go_wp2_with fail
      go_ret
      exact ⟨rfl, below_draws n⟩
theorem all_is {f : FuncId} {args : Array Value} {w : World} {N M : Option (List CallV)} (h : Calls Try.prog f args w (AllPost N w)) (e : N = M) : Calls Try.prog f args w (AllPost M w) := by rw [← e]; exact h
theorem Rd.cut {w : World} {A : Option Addr} {l : List Int} (h : Rd w A l) (n : Nat) : Rd w A (l.take n) := fun k x hx => h k x (by
  rw [List.getElem?_take] at hx
  split at hx
  · exact hx
  · cases hx)
section
variable {A : Option Addr} {l : List Int} {c : Nat}
set_option maxHeartbeats 6400000 in
theorem law_BerthAll (w : World) (ha : RdU w A l) (hl : l.length ≤ 9223372036854775807) (hc : l.length ≤ c) :
    Calls Try.prog 12 #[.slice A l.length c] w fun e w' => e = .returned (.bool true) ∧ Below w.heap.size w w' := by
  by_cases hs : l.length ≤ 1048576
  · go_enter Try.func12, Try.ntmps12
    go_wp2_with fail
    refine (drawBA w ha hc hs).mono ?_
    rintro e w1 ⟨g1, l1, c1, g2, l2, c2, g3, l3, c3, rfl, hl1, hl2, hl3, hc1, hc2, hc3, r1, r2, r3, b1⟩
    obtain ⟨N, HN⟩ : ∃ N, Hid (allC l1 l2 l3 = N) := ⟨_, rfl⟩
    cases N with
    | none =>
      go_wp2_with fail
      refine (all_is (ba_impl _ _ _ l1 l2 l3 c1 c2 c3 w1 r1 r2 r3 (by omega) (by omega) (by omega)) HN.out).mono ?_
      rintro e w2 ⟨A2, e2, rfl, _, o2, b2⟩
      have r1 := r1.below b2
      have r2 := r2.below b2
      have r3 := r3.below b2
      have bw := b1.trans (b2.mono b1.size)
      clear b1 b2 o2
      simp only [Option.getD_none, List.length_nil, Option.isSome_none]
      go_wp2_with fail
      refine (all_is (ba_spec _ _ _ l1 l2 l3 c1 c2 c3 w2 r1 r2 r3 (by omega) (by omega) (by omega)) HN.out).mono ?_
      rintro e w3 ⟨A3, e3, rfl, _, o3, b3⟩
      have bw := bw.trans (b3.mono bw.size)
      clear b3 o3
      simp only [Option.getD_none, List.length_nil, Option.isSome_none]
      go_wp2_with fail
      refine (sameCalls_t A2 A3 [] 0 e2 e3 w3 RdCall.nil_ RdCall.nil_ rfl (by omega)).mono ?_
      rintro e w4 ⟨rfl, b4⟩
      have bw := bw.trans (b4.mono bw.size)
      go_wp2_with fail
      refine (alive_any _).mono ?_
      rintro e w' ⟨rfl, rfl⟩
      go_wp2_with fail
      go_ret
      exact ⟨rfl, bw⟩
    | some L =>
      obtain ⟨hv, hlen, hab, hac, hat, htk⟩ := allC_spec HN.out
      have HV := Lib.hid hv
      have HLN := Lib.hid hlen
      have HAB := Lib.hid hab
      have HAC := Lib.hid hac
      have HAT := Lib.hid hat
      have HTK := Lib.hid htk
      have hL8 : L.length ≤ 8 := by omega
      clear hv hlen hab hac hat htk
      go_wp2_with fail
      refine (all_is (ba_impl _ _ _ l1 l2 l3 c1 c2 c3 w1 r1 r2 r3 (by omega) (by omega) (by omega)) HN.out).mono ?_
      rintro e w2 ⟨A2, e2, rfl, hcap, o2, b2⟩
      have q2 : RdCall w2 A2 L := RdCall.of_rd o2.rd
      have r1 := r1.below b2
      have r2 := r2.below b2
      have r3 := r3.below b2
      have bw := b1.trans (b2.mono b1.size)
      clear b1 b2 o2
      simp only [Option.getD_some, Option.isSome_some] at hcap ⊢
      go_wp2_with fail
      refine (all_is (ba_spec _ _ _ l1 l2 l3 c1 c2 c3 w2 r1 r2 r3 (by omega) (by omega) (by omega)) HN.out).mono ?_
      rintro e w3 ⟨A3, e3, rfl, _, o3, b3⟩
      have q3 : RdCall w3 A3 L := RdCall.of_rd o3.rd
      have q2 := q2.below b3
      have r1 := r1.below b3
      have r2 := r2.below b3
      have r3 := r3.below b3
      have bw := bw.trans (b3.mono bw.size)
      clear b3 o3
      simp only [Option.getD_some, Option.isSome_some]
      go_wp2_with fail
      refine (sameCalls_t A2 A3 L L.length e2 e3 w3 q2 q3 rfl (by omega)).mono ?_
      rintro e w4 ⟨rfl, b4⟩
      have q2 := q2.below b4
      have r1 := r1.below b4
      have r2 := r2.below b4
      have r3 := r3.below b4
      have bw := bw.trans (b4.mono bw.size)
      clear b4 q3
      go_wp2_with fail
      go_loopw [10] (fun i wr => ∃ k n : Nat, k ≤ L.length ∧ i = .int .i64 k ∧ wr = w4.drewN n) (fun i _ => L.length - (intOf i).toNat)
      case atStart => exact ⟨0, 0, by omega, rfl, rfl⟩
      case round =>
        obtain ⟨k, n, hk, rfl, rfl⟩ := hrel
        by_cases hlt : k < L.length
        · obtain ⟨b, off, q, rfl, hbx, Hq, hq0, hq1, hq2, hq3⟩ := q2.at_ (k := k) hlt
          obtain ⟨b', off', x, e, hby, Hx, hcx⟩ := r1.at_ (k := k) (by have := HLN.out; omega)
          injection e with e
          injection e with e1 e2 e3
          subst e1 e2
          obtain ⟨b', off', y, e, hby, Hy, hcy⟩ := r2.at_ (k := k) (by have := HLN.out; have := HAB.out; omega)
          injection e with e
          injection e with e1 e2 e3
          subst e1 e2
          obtain ⟨b', off', z, e, hby, Hz, hcz⟩ := r3.at_ (k := k) (by have := HLN.out; have := HAC.out; omega)
          injection e with e
          injection e with e1 e2 e3
          subst e1 e2
          simp only [Nat.zero_add] at hcx hcy hcz
          obtain ⟨ha1, ha2, ha3⟩ := HAT.out k x y z q Hx.out Hy.out Hz.out Hq.out
          have t1 : decide (q.start < z) = false := decide_eq_false (by omega)
          have t2 : (q.long != x) = false := by simp [ha1]
          have t3 : (q.hours != y) = false := by simp [ha2]
          have i0 : (0 : Int) ≤ (k : Int) := by omega
          have i1 : (k : Int) < (L.length : Int) := by omega
          have i2 : (k : Int) < (l1.length : Int) := by have := HLN.out; omega
          have i3 : (k : Int) < (l2.length : Int) := by have := HLN.out; have := HAB.out; omega
          have i4 : (k : Int) < (l3.length : Int) := by have := HLN.out; have := HAC.out; omega
          clear ha1 ha2 ha3
          go_wp2_with fail
          go_quiet (fail)
          go_wp2_with fail
          exact ⟨⟨k + 1, _, by omega, by go_num, rfl⟩, by simp [intOf]; omega⟩
        · obtain ⟨m, hm⟩ : ∃ m : Nat, m = L.length / 2 := ⟨_, rfl⟩
          have hm1 : m ≤ L.length := by omega
          have hmi : (L.length : Int) / 2 = (m : Int) := by omega
          have j1 : (m : Int) ≤ (c1 : Int) := by have := HLN.out; omega
          have j2 : (m : Int) ≤ (c2 : Int) := by have := HLN.out; have := HAB.out; omega
          have j3 : (m : Int) ≤ (c3 : Int) := by have := HLN.out; have := HAC.out; omega
          have j4 : (m : Int) ≤ (e2 : Int) := by omega
          have j5 : (0 : Int) ≤ (m : Int) := by omega
          obtain ⟨W0, HW0⟩ : ∃ W0, Hid (w4.drewN n = W0) := ⟨_, rfl⟩
          have HR : Hid (Rd W0 (some ⟨g1, 0, none⟩) l1 ∧ Rd W0 (some ⟨g2, 0, none⟩) l2 ∧ Rd W0 (some ⟨g3, 0, none⟩) l3 ∧ RdCall W0 A2 L ∧ Below w.heap.size w W0) := by
            show _ ∧ _
            rw [← HW0.out]
            exact ⟨r1, r2, r3, q2, below_drewN bw n⟩
          have HML : Hid ((L.take m).length = m ∧ (l1.take m).length = m ∧ (l2.take m).length = m ∧ (l3.take m).length = m) := by
            have h1 := HLN.out
            have h2 := HAB.out
            have h3 := HAC.out
            refine ⟨?_, ?_, ?_, ?_⟩ <;> rw [List.length_take] <;> omega
          clear r1 r2 r3 q2 bw hm
          go_wp2_with fail
          clear hmi
          rw [HW0.out]
          obtain ⟨B, HB⟩ : ∃ B, Hid (W0.heap.size = B) := ⟨_, rfl⟩
          have hBs : B ≤ W0.heap.size := by rw [HB.out]; exact Nat.le_refl _
          have HBA : Hid (∀ W, Below B W0 W → Calls Try.prog 28 #[.slice (some ⟨g1, 0, none⟩) m c1, .slice (some ⟨g2, 0, none⟩) m c2, .slice (some ⟨g3, 0, none⟩) m c3] W fun e w' => ∃ A5 c5, e = .returned (.tuple #[.slice A5 m c5, .bool true]) ∧ RdCall w' A5 (L.take m) ∧ Below B W0 w') := fun W hW => by
            obtain ⟨s1, s2, s3, _, _⟩ := HR.out
            obtain ⟨u0, u1, u2, u3⟩ := HML.out
            have hb : Below W0.heap.size W0 W := by rw [HB.out]; exact hW
            have h := all_is (ba_impl _ _ _ (l1.take m) (l2.take m) (l3.take m) c1 c2 c3 W ((s1.below hb).cut m) ((s2.below hb).cut m) ((s3.below hb).cut m) (by omega) (by omega) (by omega)) (HTK.out m)
            rw [u1, u2, u3] at h
            refine h.mono ?_
            rintro e w5 ⟨A5, c5, rfl, _, o5, b5⟩
            simp only [Option.getD_some, Option.isSome_some] at o5 ⊢
            rw [u0]
            exact ⟨A5, c5, rfl, RdCall.of_rd o5.rd, hW.trans (b5.mono (bsz hW hBs))⟩
          have B0 := Below.refl B W0
          go_region_held3 (fun W => Below B W0 W) (first | assumption | exact bel_dr (by assumption) | go_keep)
            (first | (go_at_call 28; refine (HBA.out _ ?_).mono ?_; (first | assumption | exact bel_dr (by assumption)); rintro e w5 ⟨A5, c5, rfl, q5, b5⟩))
          have HQ : Hid (RdCall w5 A2 L ∧ Below w.heap.size w w5) := by
            obtain ⟨_, _, _, s4, s5⟩ := HR.out
            have hb : Below W0.heap.size W0 w5 := by rw [HB.out]; exact b5
            exact ⟨s4.below hb, s5.trans (hb.mono s5.size)⟩
          have HQ5 := Lib.hid q5
          have HC1 := Lib.hid (csv_r (csv_impl A2 L e2 w5 HQ.out.1 (by omega) hcap) HV.out)
          have te : ((L.length : Int) == (l1.length : Int)) = true := beq_iff_eq.2 (by have := HLN.out; omega)
          clear q5
          go_wp2_with fail
          refine HC1.out.mono ?_
          rintro e w6 ⟨rfl, b6⟩
          have HC2 := Lib.hid (sameCalls_t A5 A2 (L.take m) m c5 e2 w6 (HQ5.out.below b6) ((HQ.out.1.below b6).cut m) HML.out.1 (by omega))
          have HBF := Lib.hid (HQ.out.2.trans (b6.mono HQ.out.2.size))
          clear b6 b5
          go_wp2_with fail
          refine HC2.out.mono ?_
          rintro e w7 ⟨rfl, b7⟩
          have HF := Lib.hid (HBF.out.trans (b7.mono HBF.out.size))
          go_wp2_with fail
          go_ret
          exact ⟨by first | rfl | exact ret_bool te, HF.out⟩
  · go_enter Try.func12, Try.ntmps12
    go_wp2_with fail
    go_ret
    exact ⟨rfl, Below.refl _ _⟩
end
end Go.Proofs.Ytiejkcjbjjnacaa
