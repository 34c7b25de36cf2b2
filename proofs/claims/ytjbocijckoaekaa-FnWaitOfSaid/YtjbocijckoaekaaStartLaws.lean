/- The law on StartHours: what it draws, and that it answers true. -/
import Derived.Test.YtjbocijckoaekaaPairLaws
import Derived.Test.YtjbocijckoaekaaShuf
import Derived.Test.YtjbocijckoaekaaWaitLaw
import Derived.Test.YtjbocijckoaekaaSameInt
namespace Go.Proofs.Ytjbocijckoaekaa
open Go.RowKit
set_option linter.unusedVariables false
set_option linter.unusedSimpArgs false

theorem startS_short (l : List ShipV) (o : List Int) : (startS l o).length ≤ 5 := by
  unfold startS
  split
  · next h =>
    obtain ⟨h1, h2⟩ := startOk_spec h
    obtain ⟨hv, h5⟩ := listV_spec h1
    have := (stTo_bd hv o o.length).2.2.1
    omega
  · simp
section
variable {A : Option Addr} {l : List Int} {c : Nat}
def GotPairs (w : World) (e : Ending) (w' : World) : Prop := ∃ (g1 : Nat) (l2 : List ShipV) (c2 g2 : Nat) (o : List Int) (d2 : Nat), e = .returned (.tuple #[.slice (some ⟨g1, 0, none⟩) l2.length c2, .slice (some ⟨g2, 0, none⟩) o.length d2]) ∧ l2.length ≤ 6 ∧ l2.length ≤ c2 ∧ o.length ≤ 101 ∧ o.length ≤ d2 ∧ Rd w' (some ⟨g1, 0, none⟩) (flatShip l2) ∧ Rd w' (some ⟨g2, 0, none⟩) o ∧ Below w.heap.size w w'
set_option maxHeartbeats 800000 in
theorem drawSO (w : World) (ha : RdU w A l) (hc : l.length ≤ c) (hl : l.length ≤ 1048576) : Calls Try.prog 33 #[.slice A l.length c] w (GotPairs w) := by
  go_enter Try.func33, Try.ntmps33
  go_wp2_with fail
  refine (open_any w ha hc hl).mono ?_
  rintro e w1 ⟨g, rfl, r1, b1⟩
  have hgl := r1.lo
  go_wp2_with fail
  refine (list_any w.heap.size g 0 12 w1 r1 (by omega) (by omega) (by omega)).mono ?_
  rintro e w2 ⟨g1, l2, c2, rfl, hl9, hlc, _, o1, d2⟩
  have hg1 := r1.lt
  go_wp2_with fail
  refine (shuffle_any w.heap.size g _ l2.length 9 w2 d2.rdr (by omega) (by omega) (by omega) (by omega)).mono ?_
  rintro e w3 ⟨g2, o, c3, rfl, ho9, hoc, o2, d3⟩
  have HB := Lib.hid (b1.trans ((d2.trans d3).below b1.size))
  have o1 := o1.chg d3.chg (.inr (by omega))
  go_wp2_with fail
  go_ret2
  exact ⟨g1, l2, c2, g2, o, c3, rfl, hl9, hlc, ho9, hoc, o1.rd, o2.rd, HB.out⟩
theorem same_b (A B : Option Addr) (l m : List Int) (c d : Nat) (w : World) (ha : Rd w A l) (hb : Rd w B m) (hl : l.length ≤ 1048576) (hm : m.length ≤ 1048576) (e : l = m) :
    Calls Try.prog 34 #[.slice A l.length c, .slice B m.length d] w fun e w' => e = .returned (.bool true) ∧ Below w.heap.size w w' :=
  (sameInts_any A B l m c d w ha hb hl hm).mono fun _ _ ⟨he, n, hw⟩ => ⟨he.trans (ret_bool (by simpa using e)), by rw [hw]; exact below_draws n⟩
set_option maxHeartbeats 6400000 in
theorem law_StartHours (w : World) (ha : RdU w A l) (hl : l.length ≤ 9223372036854775807) (hc : l.length ≤ c) :
    Calls Try.prog 9 #[.slice A l.length c] w fun e w' => e = .returned (.bool true) ∧ Below w.heap.size w w' := by
  by_cases hs : l.length ≤ 1048576
  · go_enter Try.func9, Try.ntmps9
    go_wp2_with fail
    refine (drawSO w ha hc hs).mono ?_
    rintro e w1 ⟨g1, l2, c1, g2, o, d1, rfl, h9, hlc, ho9, hoc, rf, ro, b1⟩
    obtain ⟨L, HL⟩ : ∃ L, Hid (startS l2 o = L) := ⟨_, rfl⟩
    have hL6 : L.length ≤ 5 := by have := startS_short l2 o; rw [HL.out] at this; exact this
    obtain ⟨r, HV⟩ : ∃ r, Hid (startOk l2 o = r) := ⟨_, rfl⟩
    have rt := RdShip.of_rd rf
    have bw := b1
    clear b1 rf
    go_wp2_with fail
    refine (ans_of (sh_impl _ _ l2 o c1 d1 _ rt ro (by omega) (by omega) hoc) HL.out).mono ?_
    rintro e w2 ⟨A2, c2, rfl, o2, b2⟩
    have r2 := o2.rd
    have rt := rt.below b2
    have ro := ro.below b2
    have bw := bw.trans (b2.mono bw.size)
    clear o2 b2
    go_wp2_with fail
    refine (ans_of (sh_spec _ _ l2 o c1 d1 _ rt ro (by omega) (by omega) hoc) HL.out).mono ?_
    rintro e w3 ⟨A3, c3, rfl, o3, b3⟩
    have r3 := o3.rd
    have r2 := r2.below b3
    have rt := rt.below b3
    have ro := ro.below b3
    have bw := bw.trans (b3.mono bw.size)
    clear o3 b3
    go_wp2_with fail
    refine (same_b A2 A3 L L c2 c3 _ r2 r3 (by omega) (by omega) rfl).mono ?_
    rintro e w4 ⟨rfl, b4⟩
    have r2 := r2.below b4
    have rt := rt.below b4
    have ro := ro.below b4
    have bw := bw.trans (b4.mono bw.size)
    clear r3 b4
    by_cases h0 : L.length = 0
    · have t0 : ((L.length : Int) == 0) = true := beq_iff_eq.2 (by omega)
      clear h0
      go_wp2_with fail
      refine (alive_any _).mono ?_
      rintro e w' ⟨rfl, rfl⟩
      go_wp2_with fail
      go_ret
      exact ⟨rfl, bw⟩
    · have t0 : ((L.length : Int) == 0) = false := beq_eq_false_iff_ne.2 (by omega)
      have hr : r = true := by
        cases r with
        | true => rfl
        | false =>
          have : L = [] := by rw [← HL.out]; unfold startS; rw [HV.out]; rfl
          rw [this] at h0; exact absurd rfl h0
      have HR : Hid (startOk l2 o = true) := by show _ = _; rw [HV.out, hr]
      obtain ⟨ov, op⟩ := startOk_spec HR.out
      have HOL : Hid (o.length = l2.length) := (permV_spec op).2
      have HLL : Hid (L.length = l2.length) := by show _ = _; rw [← HL.out]; exact (start_props HR.out).1
      have HSB : Hid (∀ s ∈ L, 0 ≤ s ∧ s ≤ 7000) := by rw [← HL.out]; exact (start_props HR.out).2
      have HVE := Lib.hid (listV_spec ov).1
      have HOM : Hid (∀ x ∈ o, 0 ≤ x ∧ x < (l2.length : Int)) := fun x hx => (good_of_perm op).1.2 x hx
      have HG1 : Hid (∀ (k i : Nat) (x : ShipV) (s : Int), o[k]? = some (i : Int) → l2[i]? = some x → L[i]? = some s → x.arrive ≤ s) := fun k i x s h1 h2 h3 => by
        rw [← HL.out] at h3; exact start_ge HR.out h1 h2 h3
      have HG2 : Hid (∀ (k i j : Nat) (x : ShipV) (y : ShipV) (s t : Int), o[k]? = some (i : Int) → l2[i]? = some x → L[i]? = some s → o[k + 1]? = some (j : Int) → l2[j]? = some y → L[j]? = some t → s + x.hours ≤ t) := fun k i j x y s t h1 h2 h3 h4 h5 h6 => by
        rw [← HL.out] at h3 h6; exact start_next HR.out h1 h2 h3 h4 h5 h6
      clear h0 hr ov op
      go_wp2_with fail
      go_loopw [6] (fun i wr => ∃ k n : Nat, k ≤ o.length ∧ i = .int .i64 k ∧ wr = w4.drewN n) (fun i _ => o.length - (intOf i).toNat)
      case atStart => exact ⟨0, 0, by omega, rfl, rfl⟩
      case round =>
        obtain ⟨k, n, hk, rfl, rfl⟩ := hrel
        by_cases hlt : k < o.length
        · obtain ⟨b, off, x, e, hbx, Hx, hcx⟩ := ro.at_ (k := k) hlt
          injection e with e
          injection e with e1 e2 e3
          subst e1 e2
          obtain ⟨x0, x9⟩ := HOM.out x (mem_at Hx.out)
          obtain ⟨i, rfl⟩ := Int.eq_ofNat_of_zero_le x0
          obtain ⟨g, goff, a, e, hga, Ha, ha0, ha1⟩ := rt.at_ (k := i) (by omega)
          injection e with e
          injection e with e1 e2 e3
          subst e1 e2
          obtain ⟨h, hoff, s, rfl, hgs, Hs, hcs⟩ := r2.at_ (k := i) (by have := HLL.out; omega)
          simp only [Nat.zero_add] at hcx ha0 ha1
          have hge := HG1.out k i a s Hx.out Ha.out Hs.out
          have sb := HSB.out s (mem_at Hs.out)
          have t1 : decide (s < a.arrive) = false := by simp; omega
          have q0 : (0 : Int) ≤ (k : Int) := by omega
          have q1 : (k : Int) < (o.length : Int) := by omega
          have q2 : (i : Int) < (l2.length : Int) := by omega
          have q3 : (i : Int) < (L.length : Int) := by have := HLL.out; omega
          have q4 : (0 : Int) ≤ (i : Int) := by omega
          clear hge
          by_cases hk0 : 0 < k
          · obtain ⟨k', hk'⟩ : ∃ k', k = k' + 1 := ⟨k - 1, by omega⟩
            obtain ⟨b', off', y, e, hby, Hy, hcy⟩ := ro.at_ (k := k') (by omega)
            injection e with e
            injection e with e1 e2 e3
            subst e1 e2
            obtain ⟨y0, y9⟩ := HOM.out y (mem_at Hy.out)
            obtain ⟨j, rfl⟩ := Int.eq_ofNat_of_zero_le y0
            obtain ⟨g', goff', a', e, hga', Ha', hb0, hb1⟩ := rt.at_ (k := j) (by omega)
            injection e with e
            injection e with e1 e2 e3
            subst e1 e2
            obtain ⟨h', hoff', t, e, hgt, Ht, hct⟩ := r2.at_ (k := j) (by have := HLL.out; omega)
            injection e with e
            injection e with e1 e2 e3
            subst e1 e2
            simp only [Nat.zero_add] at hcy hb0 hb1
            have hne := HG2.out k' j i a' a t s Hy.out Ha'.out Ht.out (by rw [← hk']; exact Hx.out) Ha.out Hs.out
            have tb := HSB.out t (mem_at Ht.out)
            have vb := HVE.out a' (mem_at Ha'.out)
            unfold oneV at vb
            have vb1 := vb.2.1
            have vb2 := vb.2.2
            clear vb
            have t2 : decide (0 < (k : Int)) = true := by simp; omega
            have t3 : decide (s < t + a'.hours) = false := by simp; omega
            have q5 : (j : Int) < (l2.length : Int) := by omega
            have q6 : (j : Int) < (L.length : Int) := by have := HLL.out; omega
            have q7 : (0 : Int) ≤ (j : Int) := by omega
            have q8 : (k' : Int) < (o.length : Int) := by omega
            have q9 : (0 : Int) ≤ (k' : Int) := by omega
            have w3 : IntKind.i64.wrap (t + a'.hours) = t + a'.hours := IntWalk.i64_in _ (by omega)
            have w2 : IntKind.i64.wrap (k' : Int) = (k' : Int) := IntWalk.i64_in _ (by omega)
            have w1 : (k : Int) - 1 = (k' : Int) := by omega
            clear hne hk'
            go_wp2_with fail
            go_quiet (fail)
            clear w1 w2 w3
            go_wp2_with fail
            exact ⟨⟨k + 1, _, by omega, by go_num, rfl⟩, by simp [intOf]; omega⟩
          · have t2 : decide (0 < (k : Int)) = false := by simp; omega
            go_wp2_with fail
            go_quiet (fail)
            go_wp2_with fail
            exact ⟨⟨k + 1, _, by omega, by go_num, rfl⟩, by simp [intOf]; omega⟩
        · have t1 : ((L.length : Int) == (l2.length : Int)) = true := by rw [HLL.out]; simp
          have HB := Lib.hid (below_drewN bw n)
          go_wp2_with fail
          go_ret
          exact ⟨by first | rfl | exact ret_bool t1, HB.out⟩
  · go_enter Try.func9, Try.ntmps9
    go_wp2_with fail
    go_ret
    exact ⟨rfl, Below.refl _ _⟩
end
end Go.Proofs.Ytjbocijckoaekaa
