/- The law on ComeOrder: what it draws, and that it answers true. -/
import Derived.Test.YtjbocijckoaekaaPairLaws
import Derived.Test.YtjbocijckoaekaaCome2
import Derived.Test.YtjbocijckoaekaaWaitLaw
import Derived.Test.YtjbocijckoaekaaSameInt
namespace Go.Proofs.Ytjbocijckoaekaa
open Go.RowKit
set_option linter.unusedVariables false
set_option linter.unusedSimpArgs false

theorem come_next {l : List ShipV} (h : listV l = true) {k i j : Nat} {a b : ShipV} (hi : (comeS l)[k]? = some (i : Int)) (hj : (comeS l)[k + 1]? = some (j : Int)) (ha : l[i]? = some a) (hb : l[j]? = some b) : a.arrive ≤ b.arrive := by
  obtain ⟨h1, e1⟩ := List.getElem?_eq_some_iff.1 hi
  obtain ⟨h2, e2⟩ := List.getElem?_eq_some_iff.1 hj
  have hp := (List.pairwise_iff_getElem.1 (comeS_ordered h).1) k (k + 1) h1 h2 (by omega)
  rw [e1, e2] at hp
  unfold before at hp
  rw [arrOf_at ha, arrOf_at hb] at hp
  omega
theorem come_ok {l : List ShipV} (h : listV l = true) : startOk l (comeS l) = true := ok_yes h (perm_of_good (ordered_good (comeS_ordered h)) (comeS_len h))
theorem same_b (A B : Option Addr) (l m : List Int) (c d : Nat) (w : World) (ha : Rd w A l) (hb : Rd w B m) (hl : l.length ≤ 1048576) (hm : m.length ≤ 1048576) (e : l = m) :
    Calls Try.prog 34 #[.slice A l.length c, .slice B m.length d] w fun e w' => e = .returned (.bool true) ∧ Below w.heap.size w w' :=
  (sameInts_any A B l m c d w ha hb hl hm).mono fun _ _ ⟨he, n, hw⟩ => ⟨he.trans (ret_bool (by simpa using e)), by rw [hw]; exact below_draws n⟩
theorem int_b {f : FuncId} {args : Array Value} {w : World} {v x : Int} (h : Calls Try.prog f args w fun e w' => e = .returned (.int .i64 v) ∧ Below w.heap.size w w') (e : v = x) :
    Calls Try.prog f args w fun e w' => e = .returned (.int .i64 x) ∧ Below w.heap.size w w' := by rw [← e]; exact h
section
variable {A : Option Addr} {l : List Int} {c : Nat}
set_option maxHeartbeats 400000 in
theorem drawCO (w : World) (ha : RdU w A l) (hc : l.length ≤ c) (hl : l.length ≤ 1048576) : Calls Try.prog 37 #[.slice A l.length c] w (GotList w) := by
  go_enter Try.func37, Try.ntmps37
  go_wp2_with fail
  refine (open_any w ha hc hl).mono ?_
  rintro e w1 ⟨g, rfl, r1, b1⟩
  go_wp2_with fail
  refine (list_any w.heap.size g 0 9 w1 r1 (by omega) (by omega) (by omega)).mono ?_
  rintro e w2 ⟨g1, l2, c2, rfl, hl9, hlc, hlb, o1, d2⟩
  have HB := Lib.hid (b1.trans (d2.below b1.size))
  have HL := Lib.hid hlb
  clear hlb
  go_wp2_with fail
  go_ret
  exact ⟨g1, l2, c2, rfl, hl9, hlc, HL.out, o1.rd, HB.out⟩
set_option maxHeartbeats 3200000 in
theorem law_ComeOrder (w : World) (ha : RdU w A l) (hl : l.length ≤ 9223372036854775807) (hc : l.length ≤ c) :
    Calls Try.prog 12 #[.slice A l.length c] w fun e w' => e = .returned (.bool true) ∧ Below w.heap.size w w' := by
  by_cases hs : l.length ≤ 1048576
  · go_enter Try.func12, Try.ntmps12
    go_wp2_with fail
    refine (drawCO w ha hc hs).mono ?_
    rintro e w1 ⟨g1, l2, c1, rfl, h9, hlc, _, rf, b1⟩
    obtain ⟨L, HL⟩ : ∃ L, Hid (comeS l2 = L) := ⟨_, rfl⟩
    have hL6 : L.length ≤ 5 := by have := comeS_short l2; rw [HL.out] at this; exact this
    obtain ⟨r, HV⟩ : ∃ r, Hid (listV l2 = r) := ⟨_, rfl⟩
    have rt := RdShip.of_rd rf
    have bw := b1
    clear b1 rf
    go_wp2_with fail
    refine (ansC_of (co_implC _ l2 c1 _ rt (by omega)) HL.out).mono ?_
    rintro e w2 ⟨A2, c2, rfl, hc2, o2, b2⟩
    have r2 := o2.rd
    have rt := rt.below b2
    have bw := bw.trans (b2.mono bw.size)
    clear o2 b2
    go_wp2_with fail
    refine (ansC_of (co_specC _ l2 c1 _ rt (by omega)) HL.out).mono ?_
    rintro e w3 ⟨A3, c3, rfl, hc3, o3, b3⟩
    have r3 := o3.rd
    have r2 := r2.below b3
    have rt := rt.below b3
    have bw := bw.trans (b3.mono bw.size)
    clear o3 b3
    go_wp2_with fail
    refine (same_b A2 A3 L L c2 c3 _ r2 r3 (by omega) (by omega) rfl).mono ?_
    rintro e w4 ⟨rfl, b4⟩
    have r2 := r2.below b4
    have rt := rt.below b4
    have bw := bw.trans (b4.mono bw.size)
    clear r3 b4
    go_wp2_with fail
    refine (bool_is (lv_spec _ l2 c1 _ rt (by omega)) HV.out).mono ?_
    rintro e w' ⟨rfl, rfl⟩
    cases r with
    | false =>
      have HL0 : Hid (L = []) := by show _ = _; rw [← HL.out]; exact comeS_no HV.out
      have t0 : ((L.length : Int) == 0) = true := by rw [HL0.out]; rfl
      go_wp2_with fail
      refine (alive_any _).mono ?_
      rintro e w' ⟨rfl, rfl⟩
      go_wp2_with fail
      go_ret
      exact ⟨rfl, bw⟩
    | true =>
      have HLL : Hid (L.length = l2.length) := by show _ = _; rw [← HL.out, comeS_len HV.out]
      have HNX : Hid (∀ (k i j : Nat) (a b : ShipV), L[k]? = some (i : Int) → L[k + 1]? = some (j : Int) → l2[i]? = some a → l2[j]? = some b → a.arrive ≤ b.arrive) := by
        intro k i j a b h1 h2 h3 h4
        rw [← HL.out] at h1 h2
        exact come_next HV.out h1 h2 h3 h4
      have HMB : Hid (∀ x ∈ L, 0 ≤ x ∧ x < (l2.length : Int)) := by
        intro x hx
        rw [← HL.out] at hx
        exact ((comeS_ordered HV.out).2 x).1 hx
      obtain ⟨N, HN⟩ : ∃ N, Hid (waitS l2 L = N) := ⟨_, rfl⟩
      have hN0 : 0 ≤ N := by rw [← HN.out, ← HL.out]; exact waitS_nonneg (come_ok HV.out)
      go_wp2_with fail
      go_loopw [5] (fun i wr => ∃ k n : Nat, k ≤ L.length ∧ i = .int .i64 ((k : Int) + 1) ∧ wr = w4.drewN n) (fun i _ => L.length + 1 - (intOf i).toNat)
      case atStart => exact ⟨0, 0, by omega, rfl, rfl⟩
      case round =>
        obtain ⟨k, n, hk, rfl, rfl⟩ := hrel
        by_cases hlt : k + 1 < L.length
        · obtain ⟨b, off, x, rfl, hbx, Hx, hcx⟩ := r2.at_ (k := k) (by omega)
          obtain ⟨b', off', y, e, hby, Hy, hcy⟩ := r2.at_ (k := k + 1) (by omega)
          injection e with e
          injection e with e1 e2 e3
          subst e1 e2
          obtain ⟨x0, x9⟩ := HMB.out x (mem_at Hx.out)
          obtain ⟨y0, y9⟩ := HMB.out y (mem_at Hy.out)
          obtain ⟨i, rfl⟩ := Int.eq_ofNat_of_zero_le x0
          obtain ⟨j, rfl⟩ := Int.eq_ofNat_of_zero_le y0
          obtain ⟨g, goff, a, e, hga, Ha, ha0, ha1⟩ := rt.at_ (k := i) (by omega)
          injection e with e
          injection e with e1 e2 e3
          subst e1 e2
          obtain ⟨g', goff', b0, e, hgb, Hb, hb0, hb1⟩ := rt.at_ (k := j) (by omega)
          injection e with e
          injection e with e1 e2 e3
          subst e1 e2
          simp only [Nat.zero_add] at ha0 ha1 hb0 hb1
          have hab := HNX.out k i j a b0 Hx.out Hy.out Ha.out Hb.out
          have t1 : decide (b0.arrive < a.arrive) = false := by simp; omega
          clear hab
          have q0 : (0 : Int) ≤ (k : Int) := by omega
          have q1 : (k : Int) + 1 < (L.length : Int) := by omega
          have q2 : (k : Int) < (L.length : Int) := by omega
          go_wp2_with fail
          go_quiet (fail)
          go_wp2_with fail
          exact ⟨⟨k + 1, _, by omega, by go_num, rfl⟩, by simp [intOf]; omega⟩
        · have t0 : ((L.length : Int) == (l2.length : Int)) = true := by rw [HLL.out]; simp
          have HB := Lib.hid (below_drewN bw n)
          go_wp2_with fail
          refine (int_b (wo_impl _ A2 l2 L c1 c2 _ (rt.drewN n) (r2.drewN n) (by omega) (by omega) hc2) HN.out).mono ?_
          rintro e w5 ⟨rfl, b5⟩
          have HB5 := Lib.hid (HB.out.trans (b5.mono HB.out.size))
          go_wp2_with fail
          go_ret
          exact ⟨by first | rfl | exact ret_bool (by simp; omega), HB5.out⟩
  · go_enter Try.func12, Try.ntmps12
    go_wp2_with fail
    go_ret
    exact ⟨rfl, Below.refl _ _⟩
end
end Go.Proofs.Ytjbocijckoaekaa
