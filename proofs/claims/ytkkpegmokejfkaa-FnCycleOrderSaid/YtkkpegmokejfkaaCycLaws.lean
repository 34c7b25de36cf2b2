/- The law on CycleOrder: what it draws, and that it answers true. -/
import Derived.Test.YtkkpegmokejfkaaPairLaws
import Derived.Test.YtkkpegmokejfkaaCyc3
import Derived.Test.YtkkpegmokejfkaaSameInt
namespace Go.Proofs.Ytkkpegmokejfkaa
open Go.RowKit
set_option linter.unusedVariables false
set_option linter.unusedSimpArgs false

theorem perm_ordered {key : Int → Int} {n : Nat} {o : List Int} (h : Ordered key n o) (hn : o.length = n) : permV o n = true := by
  have : ∀ k, k ≤ o.length → permTo o n k = true := by
    intro k
    induction k with
    | zero => intro _; rfl
    | succ k ih =>
      intro hk
      have hx : o[k]? = some o[k] := List.getElem?_eq_getElem (by omega)
      rw [permTo_next hx, ih (by omega)]
      have hm := (h.2 o[k]).1 (List.mem_of_getElem? hx)
      have hb : hasB o k o[k] = false := by
        unfold hasB
        rw [Bool.eq_false_iff]
        intro hc
        have hc := List.contains_iff_mem.1 hc
        obtain ⟨j, hj⟩ := List.getElem?_of_mem hc
        rw [List.getElem?_take] at hj
        split at hj
        · next hjk =>
          obtain ⟨hj1, hj2⟩ := List.getElem?_eq_some_iff.1 hj
          have := (List.pairwise_iff_getElem.1 h.1) j k hj1 (by omega) hjk
          rw [hj2] at this
          exact before_irr _ this
        · cases hj
      rw [hb]
      simp; omega
  rw [permV_yes (this _ (Nat.le_refl _))]
  simpa using hn
theorem cycE_nonneg {l : List TaskV} (h : listV l = true) : 0 ≤ cycE l (cycS l) := by
  have hl : (cycS l).length = l.length := by rw [cycS_yes h, insS_length, marks_length]
  rw [cycE_yes h (perm_ordered (cycS_ordered h) hl)]
  exact (cycTo_bd (listV_spec h).1 _ _).2.2.1
theorem cycE_lt {l : List TaskV} (h : listV l = true) : cycE l (cycS l) ≤ 100000 := by
  have hl : (cycS l).length = l.length := by rw [cycS_yes h, insS_length, marks_length]
  rw [cycE_yes h (perm_ordered (cycS_ordered h) hl)]
  have := (cycTo_bd (listV_spec h).1 (cycS l) (cycS l).length).2.2.2
  have := (listV_spec h).2
  omega
/-- What the law asks of two that follow each other. -/
theorem cyc_next {l : List TaskV} (h : listV l = true) {k i j : Nat} {a b : TaskV} (hi : (cycS l)[k]? = some (i : Int)) (hj : (cycS l)[k + 1]? = some (j : Int)) (ha : l[i]? = some a) (hb : l[j]? = some b) :
    (b.off_ < b.back → a.off_ < a.back ∧ a.off_ ≤ b.off_) ∧ (¬ b.off_ < b.back → ¬ a.off_ < a.back → b.back ≤ a.back) := by
  obtain ⟨h1, e1⟩ := List.getElem?_eq_some_iff.1 hi
  obtain ⟨h2, e2⟩ := List.getElem?_eq_some_iff.1 hj
  have hp := (List.pairwise_iff_getElem.1 (cycS_ordered h).1) k (k + 1) h1 h2 (by omega)
  rw [e1, e2] at hp
  have ba := (listV_spec h).1 a (mem_at ha)
  have bb := (listV_spec h).1 b (mem_at hb)
  unfold oneV at ba bb
  unfold before keyT at hp
  rw [taskOf_at ha, taskOf_at hb] at hp
  constructor
  · intro hx
    rw [if_pos hx] at hp
    split at hp <;> omega
  · intro hx hy
    rw [if_neg hx, if_neg hy] at hp
    omega
section
variable {A : Option Addr} {l : List Int} {c : Nat}
set_option maxHeartbeats 400000 in
theorem drawCO (w : World) (ha : RdU w A l) (hc : l.length ≤ c) (hl : l.length ≤ 1048576) : Calls Try.prog 27 #[.slice A l.length c] w (GotList w) := by
  go_enter Try.func27, Try.ntmps27
  go_wp2_with fail
  refine (open_any w ha hc hl).mono ?_
  rintro e w1 ⟨g, rfl, r1, b1⟩
  go_wp2_with fail
  refine (list_any w.heap.size g 0 9 w1 r1 (by omega) (by omega) (by omega)).mono ?_
  rintro e w2 ⟨g1, l2, c2, rfl, hl9, hlc, hlb, o1, d2⟩
  have HB := Lib.hid (b1.trans (d2.below b1.size))
  have HL := Lib.hid hlb
  clear hlb
  go_wp2_with fail
  go_ret
  exact ⟨g1, l2, c2, rfl, hl9, hlc, HL.out, o1.rd, HB.out⟩
theorem same_b (A B : Option Addr) (l m : List Int) (c d : Nat) (w : World) (ha : Rd w A l) (hb : Rd w B m) (hl : l.length ≤ 1048576) (hm : m.length ≤ 1048576) (e : l = m) :
    Calls Try.prog 28 #[.slice A l.length c, .slice B m.length d] w fun e w' => e = .returned (.bool true) ∧ Below w.heap.size w w' :=
  (sameInts_any A B l m c d w ha hb hl hm).mono fun _ _ ⟨he, n, hw⟩ => ⟨he.trans (ret_bool (by simpa using e)), by rw [hw]; exact below_draws n⟩
set_option maxHeartbeats 3200000 in
theorem law_CycleOrder (w : World) (ha : RdU w A l) (hl : l.length ≤ 9223372036854775807) (hc : l.length ≤ c) :
    Calls Try.prog 8 #[.slice A l.length c] w fun e w' => e = .returned (.bool true) ∧ Below w.heap.size w w' := by
  by_cases hs : l.length ≤ 1048576
  · go_enter Try.func8, Try.ntmps8
    go_wp2_with fail
    refine (drawCO w ha hc hs).mono ?_
    rintro e w1 ⟨g1, l2, c1, rfl, h9, hlc, _, rf, b1⟩
    obtain ⟨L, HL⟩ : ∃ L, Hid (cycS l2 = L) := ⟨_, rfl⟩
    have hL6 : L.length ≤ 6 := by have := cycS_short l2; rw [HL.out] at this; exact this
    obtain ⟨r, HV⟩ : ∃ r, Hid (listV l2 = r) := ⟨_, rfl⟩
    have rt := RdTask.of_rd rf
    have bw := b1
    clear b1 rf
    go_wp2_with fail
    refine (ansC_of (cyo_implC _ l2 c1 _ rt (by omega)) HL.out).mono ?_
    rintro e w2 ⟨A2, c2, rfl, hc2, o2, b2⟩
    have r2 := o2.rd
    have rt := rt.below b2
    have bw := bw.trans (b2.mono bw.size)
    clear o2 b2
    go_wp2_with fail
    refine (ansC_of (cyo_specC _ l2 c1 _ rt (by omega)) HL.out).mono ?_
    rintro e w3 ⟨A3, c3, rfl, hc3, o3, b3⟩
    have r3 := o3.rd
    have r2 := r2.below b3
    have rt := rt.below b3
    have bw := bw.trans (b3.mono bw.size)
    clear o3 b3
    go_wp2_with fail
    refine (same_b A2 A3 L L c2 c3 _ r2 r3 (by omega) (by omega) rfl).mono ?_
    rintro e w4 ⟨rfl, b4⟩
    have r2 := r2.below b4
    have rt := rt.below b4
    have bw := bw.trans (b4.mono bw.size)
    clear r3 b4
    go_wp2_with fail
    refine (bool_is (lv_spec _ l2 c1 _ rt (by omega)) HV.out).mono ?_
    rintro e w' ⟨rfl, rfl⟩
    cases r with
    | false =>
      have HL0 : Hid (L = []) := by show _ = _; rw [← HL.out]; exact cycS_no HV.out
      have t0 : ((L.length : Int) == 0) = true := by rw [HL0.out]; rfl
      go_wp2_with fail
      refine (alive_any _).mono ?_
      rintro e w' ⟨rfl, rfl⟩
      go_wp2_with fail
      go_ret
      exact ⟨rfl, bw⟩
    | true =>
      have HLL : Hid (L.length = l2.length) := by show _ = _; rw [← HL.out, cycS_yes HV.out, insS_length, marks_length]
      have HNX : Hid (∀ (k i j : Nat) (a b : TaskV), L[k]? = some (i : Int) → L[k + 1]? = some (j : Int) → l2[i]? = some a → l2[j]? = some b → (b.off_ < b.back → a.off_ < a.back ∧ a.off_ ≤ b.off_) ∧ (¬ b.off_ < b.back → ¬ a.off_ < a.back → b.back ≤ a.back)) := by
        intro k i j a b h1 h2 h3 h4
        rw [← HL.out] at h1 h2
        exact cyc_next HV.out h1 h2 h3 h4
      have HMB : Hid (∀ x ∈ L, 0 ≤ x ∧ x < (l2.length : Int)) := by
        intro x hx
        rw [← HL.out] at hx
        exact ((cycS_ordered HV.out).2 x).1 hx
      obtain ⟨N, HN⟩ : ∃ N, Hid (cycE l2 L = N) := ⟨_, rfl⟩
      have hN0 : 0 ≤ N := by rw [← HN.out, ← HL.out]; exact cycE_nonneg HV.out
      go_wp2_with fail
      go_loopw [5] (fun i wr => ∃ k : Nat, k ≤ L.length ∧ i = .int .i64 ((k : Int) + 1) ∧ Below w4.heap.size w4 wr) (fun i _ => L.length + 1 - (intOf i).toNat)
      case atStart => exact ⟨0, by omega, rfl, Below.refl _ _⟩
      case round =>
        obtain ⟨k, hk, rfl, hbw⟩ := hrel
        have r2 := r2.below hbw
        have rt := rt.below hbw
        by_cases hlt : k + 1 < L.length
        · obtain ⟨b, off, x, rfl, hbx, Hx, hcx⟩ := r2.at_ (k := k) (by omega)
          obtain ⟨b', off', y, e, hby, Hy, hcy⟩ := r2.at_ (k := k + 1) (by omega)
          injection e with e
          injection e with e1 e2 e3
          subst e1 e2
          obtain ⟨x0, x9⟩ := HMB.out x (mem_at Hx.out)
          obtain ⟨y0, y9⟩ := HMB.out y (mem_at Hy.out)
          obtain ⟨i, rfl⟩ := Int.eq_ofNat_of_zero_le x0
          obtain ⟨j, rfl⟩ := Int.eq_ofNat_of_zero_le y0
          obtain ⟨g, goff, a, e, hga, Ha, ha0, ha1⟩ := rt.at_ (k := i) (by omega)
          injection e with e
          injection e with e1 e2 e3
          subst e1 e2
          obtain ⟨g', goff', b0, e, hgb, Hb, hb0, hb1⟩ := rt.at_ (k := j) (by omega)
          injection e with e
          injection e with e1 e2 e3
          subst e1 e2
          simp only [Nat.zero_add] at ha0 ha1 hb0 hb1
          obtain ⟨n1, n2⟩ := HNX.out k i j a b0 Hx.out Hy.out Ha.out Hb.out
          have N1 := Lib.hid n1
          have N2 := Lib.hid n2
          clear n1 n2
          have q0 : (0 : Int) ≤ (k : Int) := by omega
          have q1 : (k : Int) + 1 < (L.length : Int) := by omega
          have q2 : (k : Int) < (L.length : Int) := by omega
          have s1 := hbw.alloc hbw.size (.cells #[.int .i64 a.off_, .int .i64 a.back] 41)
          have s2 := s1.alloc s1.size (.cells #[.int .i64 b0.off_, .int .i64 b0.back] 41)
          have S2 := Lib.hid s2
          clear s1 s2
          by_cases hb : b0.off_ < b0.back
          · have t1 : decide (b0.off_ < b0.back) = true := by simpa using hb
            have t2 : decide (a.back ≤ a.off_) = false := by have := N1.out hb; simp; omega
            have t3 : decide (b0.off_ < a.off_) = false := by have := N1.out hb; simp; omega
            clear hb
            go_wp2_with fail
            exact ⟨⟨k + 1, by omega, by go_num, S2.out⟩, by simp [intOf]; omega⟩
          · have t1 : decide (b0.off_ < b0.back) = false := by simpa using hb
            by_cases hA : a.off_ < a.back
            · have t2 : decide (a.back ≤ a.off_) = false := by simp; omega
              clear hb hA
              go_wp2_with fail
              exact ⟨⟨k + 1, by omega, by go_num, S2.out⟩, by simp [intOf]; omega⟩
            · have t2 : decide (a.back ≤ a.off_) = true := by simp; omega
              have t3 : decide (b0.back ≤ b0.off_) = true := by simp; omega
              have t4 : decide (a.back < b0.back) = false := by have := N2.out (by omega) (by omega); simp; omega
              clear hb hA
              go_wp2_with fail
              exact ⟨⟨k + 1, by omega, by go_num, S2.out⟩, by simp [intOf]; omega⟩
        · have t0 : ((L.length : Int) == (l2.length : Int)) = true := by rw [HLL.out]; simp
          have HB := Lib.hid (bw.trans (hbw.mono bw.size))
          go_wp2_with fail
          refine (ce_int (ce_impl _ A2 l2 L c1 c2 _ rt r2 (by omega) (by omega) hc2) HN.out).mono ?_
          rintro e w5 ⟨rfl, b5⟩
          have HB5 := Lib.hid (HB.out.trans (b5.mono HB.out.size))
          go_wp2_with fail
          go_ret
          exact ⟨by first | rfl | exact ret_bool (by simp; omega), HB5.out⟩
  · go_enter Try.func8, Try.ntmps8
    go_wp2_with fail
    go_ret
    exact ⟨rfl, Below.refl _ _⟩
end
end Go.Proofs.Ytkkpegmokejfkaa
