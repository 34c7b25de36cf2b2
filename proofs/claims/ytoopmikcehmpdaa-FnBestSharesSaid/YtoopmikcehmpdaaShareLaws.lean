/- The laws on shares: what each draws, and that it answers true. -/
import Derived.Test.YtoopmikcehmpdaaShareDraw
import Derived.Test.YtoopmikcehmpdaaExShare2
import Derived.Test.YtoopmikcehmpdaaSameInt
import Derived.Test.YtoopmikcehmpdaaAlive
namespace Go.Proofs.Ytoopmikcehmpdaa
open Go.RowKit
set_option linter.unusedVariables false
set_option linter.unusedSimpArgs false

theorem sumL_big {l : List Int} (h : ∀ x ∈ l, -1 ≤ x ∧ x ≤ 1000) : -(l.length : Int) ≤ sumL l ∧ sumL l ≤ 1000 * (l.length : Int) := by
  induction l with
  | nil => simp [sumL]
  | cons x l ih =>
    have h1 := ih (fun y hy => h y (List.mem_cons_of_mem _ hy))
    have h2 := h x List.mem_cons_self
    have : sumL (x :: l) = x + sumL l := by rw [show x :: l = [x] ++ l from rfl, sumL_append]; simp [sumL]
    rw [this]
    simp only [List.length_cons]
    omega
set_option maxHeartbeats 400000 in
theorem total_any (A : Option Addr) (l : List Int) (c : Nat) (w : World) (ha : Rd w A l) (hl : l.length ≤ 16) (hv : ∀ x ∈ l, -1 ≤ x ∧ x ≤ 1000) :
    Calls Try.prog 27 #[.slice A l.length c] w fun e w' => e = .returned (.int .i64 (sumL l)) ∧ w = w' := by
  have HV := Lib.hid hv
  clear hv
  go_enter Try.func27, Try.ntmps27
  go_wp2_with fail
  go_loop [3, 4] (fun t i => ∃ k : Nat, k ≤ l.length ∧ i = .int .i64 k ∧ t = .int .i64 (sumL (l.take k))) (fun _ i => l.length - (intOf i).toNat)
  case atStart => exact ⟨0, by omega, rfl, rfl⟩
  case round =>
    obtain ⟨k, hk, rfl, rfl⟩ := hrel
    have hb := sumL_big (l := l.take k) (fun x hx => HV.out x (List.mem_of_mem_take hx))
    have hb2 : (l.take k).length ≤ 16 := by simp; omega
    by_cases hlt : k < l.length
    · obtain ⟨b, off, x, rfl, hbx, Hx, hcx⟩ := ha.at_ hlt
      have hx := HV.out x (mem_at Hx.out)
      have HN := Lib.hid (sumL_next Hx.out)
      have q0 : (0 : Int) ≤ (k : Int) := by omega
      have q1 : (k : Int) < (l.length : Int) := by omega
      go_wp2_with fail
      exact ⟨⟨k + 1, by omega, by go_num, by rw [HN.out]⟩, by simp [intOf]; omega⟩
    · go_wp2_with fail
      go_ret
      exact ⟨ret_int (by rw [List.take_of_length_le (by omega)]), rfl⟩
theorem sharesOk_cases (l q : List Int) : (sharesOk l q = true ∧ workV l = true ∧ l.length ≤ 8 ∧ q.length ≤ 3) ∨ (sharesOk l q = false ∧ shareS l q = [] ∧ greatS l q = -1) := by
  cases h : sharesOk l q
  · have e : shareS l q = [] := by unfold shareS; rw [h]; rfl
    exact .inr ⟨rfl, e, greatS_nil e⟩
  · unfold sharesOk at h
    simp only [Bool.and_eq_true, decide_eq_true_eq] at h
    exact .inl ⟨rfl, h.1.1, (workV_spec h.1.1).2, h.1.2⟩

section
variable {A : Option Addr} {l : List Int} {c : Nat}
set_option maxHeartbeats 1600000 in
theorem law_ShareSums (w : World) (ha : RdU w A l) (hl : l.length ≤ 9223372036854775807) (hc : l.length ≤ c) :
    Calls Try.prog 8 #[.slice A l.length c] w fun e w' => e = .returned (.bool true) ∧ Below w.heap.size w w' := by
  by_cases hs : l.length ≤ 1048576
  · go_enter Try.func8, Try.ntmps8
    go_wp2_with fail
    refine (drawSS w ha hc hs).mono ?_
    rintro e w1 ⟨g1, l2, c1, g2, q, d, rfl, h9, hlc, h4, hlb, r1, r2, b1⟩
    have HLB : Hid (∀ x ∈ l2, -1 ≤ x ∧ x ≤ 1000) := fun x hx => by have := hlb x hx; omega
    clear hlb
    obtain ⟨L, HL⟩ : ∃ L, Hid (shareS l2 q = L) := ⟨_, rfl⟩
    have hL4 : L.length ≤ 4 := by rw [← HL.out]; exact shareS_short l2 q
    go_wp2_with fail
    refine (ans_is (ss_impl _ _ l2 q c1 d w1 r1 r2 (by omega) (by omega) hlc) HL.out).mono ?_
    rintro e w2 ⟨A3, c3, rfl, o3, b2⟩
    have r1 := r1.below b2
    have r2 := r2.below b2
    have bw := b1.trans (b2.mono b1.size)
    go_wp2_with fail
    refine (ans_is (ss_spec _ _ l2 q c1 d w2 r1 r2 (by omega) (by omega)) HL.out).mono ?_
    rintro e w3 ⟨A4, c4, rfl, o4, b3⟩
    have r1 := r1.below b3
    have o3 := o3.below b3 (Nat.le_refl _)
    have HBW := Lib.hid (bw.trans (b3.mono bw.size))
    go_wp2_with fail
    refine (sameInts_any A3 A4 L L _ _ _ o3.rd o4.rd (by omega) (by omega)).mono ?_
    rintro e w5 ⟨rfl, n5, rfl⟩
    have r3 := o3.rd.drewN n5
    have r1 := r1.drewN n5
    rcases sharesOk_cases l2 q with ⟨hok, hv, h8, h3⟩ | ⟨_, hnil, _⟩
    · have HT : Hid (sumL L = sumL l2) := by show _ = _; rw [← HL.out]; exact share_total hok
      have HLL : Hid (L.length = q.length + 1) := by show _ = _; rw [← HL.out, shareS_ok hok, sumsTo_length]
      have HLV : Hid (∀ x ∈ L, -1 ≤ x ∧ x ≤ 1000) := fun x hx => by rw [← HL.out] at hx; have := shareS_bd x hx; omega
      have t0 : ((L.length : Int) == 0) = false := beq_eq_false_iff_ne.2 (by have := HLL.out; omega)
      have t1 : ((L.length : Int) == (q.length : Int) + 1) = true := beq_iff_eq.2 (by have := HLL.out; omega)
      have HTA := Lib.hid (total_any A3 L c3 _ r3 (by omega) HLV.out)
      have HTB := Lib.hid (total_any _ l2 c1 _ r1 (by omega) HLB.out)
      obtain ⟨x, HX⟩ : ∃ x, Hid (sumL L = x) := ⟨_, rfl⟩
      rw [HX.out] at HTA
      rw [← HT.out, HX.out] at HTB
      clear hok hv
      go_wp2_with fail
      refine HTA.out.mono ?_
      rintro e w' ⟨rfl, rfl⟩
      go_wp2_with fail
      refine HTB.out.mono ?_
      rintro e w' ⟨rfl, rfl⟩
      go_wp2_with fail
      go_ret
      exact ⟨rfl, below_drewN HBW.out _⟩
    · have t0 : ((L.length : Int) == 0) = true := beq_iff_eq.2 (by rw [← HL.out, hnil]; rfl)
      clear hnil
      go_wp2_with fail
      refine (alive_any _).mono ?_
      rintro e w' ⟨rfl, rfl⟩
      go_wp2_with fail
      go_ret
      exact ⟨rfl, below_drewN HBW.out _⟩
  · go_enter Try.func8, Try.ntmps8
    go_wp2_with fail
    go_ret
    exact ⟨rfl, Below.refl _ _⟩
set_option maxHeartbeats 400000 in
theorem drawGS (w : World) (ha : RdU w A l) (hc : l.length ≤ c) (hl : l.length ≤ 1048576) : Calls Try.prog 28 #[.slice A l.length c] w (GotCuts w) := by
  go_enter Try.func28, Try.ntmps28
  go_wp2_with fail
  refine (drawSS w ha hc hl).mono ?_
  rintro e w1 ⟨g1, l2, c1, g2, q, d, rfl, h⟩
  go_wp2_with fail
  go_ret2
  exact ⟨g1, l2, c1, g2, q, d, rfl, h⟩
set_option maxHeartbeats 1600000 in
theorem law_GreatestShare (w : World) (ha : RdU w A l) (hl : l.length ≤ 9223372036854775807) (hc : l.length ≤ c) :
    Calls Try.prog 9 #[.slice A l.length c] w fun e w' => e = .returned (.bool true) ∧ Below w.heap.size w w' := by
  by_cases hs : l.length ≤ 1048576
  · go_enter Try.func9, Try.ntmps9
    go_wp2_with fail
    refine (drawGS w ha hc hs).mono ?_
    rintro e w1 ⟨g1, l2, c1, g2, q, d, rfl, h9, hlc, h4, hlb, r1, r2, b1⟩
    have HLB : Hid (∀ x ∈ l2, -1 ≤ x ∧ x ≤ 1000) := fun x hx => by have := hlb x hx; omega
    clear hlb
    obtain ⟨x, HX⟩ : ∃ x, Hid (greatS l2 q = x) := ⟨_, rfl⟩
    go_wp2_with fail
    refine (gsb (gs_impl _ _ l2 q c1 d w1 r1 r2 (by omega) (by omega) hlc) HX.out).mono ?_
    rintro e w2 ⟨rfl, b2⟩
    have r1 := r1.below b2
    have r2 := r2.below b2
    have bw := b1.trans (b2.mono b1.size)
    go_wp2_with fail
    refine (gsb (gs_spec _ _ l2 q c1 d w2 r1 r2 (by omega) (by omega)) HX.out).mono ?_
    rintro e w3 ⟨rfl, b3⟩
    have r1 := r1.below b3
    have bw := bw.trans (b3.mono bw.size)
    rcases sharesOk_cases l2 q with ⟨hok, hv, h8, h3⟩ | ⟨_, _, hneg⟩
    · obtain ⟨x0, x9⟩ := great_ok hok
      rw [HX.out] at x0 x9
      have HBAY : Hid (∀ k y, l2[k]? = some y → y ≤ x) := fun k y hy => by rw [← HX.out]; exact great_bay hok hy
      have hgt := great_total hok
      rw [HX.out] at hgt
      obtain ⟨b, hb⟩ := best_some l2 q.length
      have hble := best_le hb hok rfl
      rw [HX.out] at hble
      have hb3 := (enumF_mem (best_in hb)).1
      obtain ⟨e1, e2⟩ := bsVal_yes hv h3 hb
      have HBS := Lib.hid (fun W (h : Rd W (some ⟨g1, 0, none⟩) l2) => bs_val (b := true) (L := b) (bs_impl (some ⟨g1, 0, none⟩) l2 c1 ((q.length : Int) + 1) W h (by omega) hlc) (by rw [e1, e2]))
      have HV := Lib.hid hv
      obtain ⟨y, HY⟩ : ∃ y, Hid (greatS l2 b = y) := ⟨_, rfl⟩
      rw [HY.out] at hble
      have hp0 : 0 ≤ x * ((q.length : Int) + 1) := Int.mul_nonneg x0 (by omega)
      have hp1 : x * ((q.length : Int) + 1) ≤ 4000 := by
        have := Int.mul_le_mul x9 (show (q.length : Int) + 1 ≤ 4 by omega) (by omega) (by omega : (0 : Int) ≤ 792)
        omega
      have hb3' : b.length ≤ 3 := by omega
      clear hok hv hb e1 e2 hb3
      go_wp2_with fail
      go_loop [6] (fun i => ∃ k : Nat, k ≤ l2.length ∧ i = .int .i64 k) (fun i => l2.length - (intOf i).toNat)
      case atStart => exact ⟨0, by omega, rfl⟩
      case round =>
        obtain ⟨k, hk, rfl⟩ := hrel
        by_cases hlt : k < l2.length
        · obtain ⟨b', off, z, e, hbx, Hz, hcz⟩ := r1.at_ hlt
          injection e with e
          injection e with e1 e2 e3
          subst e1 e2
          have hzx := HBAY.out k z Hz.out
          have q0 : (0 : Int) ≤ (k : Int) := by omega
          have q1 : (k : Int) < (l2.length : Int) := by omega
          rw [Nat.zero_add] at hcz
          go_wp2_with fail
          exact ⟨⟨k + 1, by omega, by go_num⟩, by simp [intOf]; omega⟩
        · go_wp2_with fail
          refine (HBS.out w3 r1).mono ?_
          rintro e w4 ⟨A4, c4, rfl, o4, b4⟩
          have r1 := r1.below b4
          have bw := bw.trans (b4.mono bw.size)
          go_wp2_with fail
          refine (gsb (gs_impl _ _ l2 b c1 c4 w4 r1 o4.rd (by omega) (by omega) hlc) HY.out).mono ?_
          rintro e w5 ⟨rfl, b5⟩
          have r1 := r1.below b5
          have HBW := Lib.hid (bw.trans (b5.mono bw.size))
          go_wp2_with fail
          refine (total_any _ l2 c1 _ r1 (by omega) HLB.out).mono ?_
          rintro e w' ⟨rfl, rfl⟩
          go_wp2_with fail
          go_ret
          exact ⟨ret_bool (by first | (simp; done) | (simp; omega)), HBW.out⟩
    · obtain rfl : x = -1 := by rw [← HX.out]; exact hneg
      have HBW := Lib.hid bw
      clear hneg
      go_wp2_with fail
      refine (alive_any _).mono ?_
      rintro e w' ⟨rfl, rfl⟩
      go_wp2_with fail
      go_ret
      exact ⟨rfl, HBW.out⟩
  · go_enter Try.func9, Try.ntmps9
    go_wp2_with fail
    go_ret
    exact ⟨rfl, Below.refl _ _⟩
/-- Work and a number of cranes. -/
def GotCranes (w : World) (e : Ending) (w' : World) : Prop :=
  ∃ (g1 : Nat) (l : List Int) (c : Nat) (cr : Int), e = .returned (.tuple #[.slice (some ⟨g1, 0, none⟩) l.length c, .int .i64 cr]) ∧ l.length ≤ 9 ∧ l.length ≤ c ∧ (∀ x ∈ l, -1 ≤ x ∧ x ≤ 100) ∧ Rd w' (some ⟨g1, 0, none⟩) l ∧ -10 ≤ cr ∧ cr ≤ 10 ∧ Below w.heap.size w w'
set_option maxHeartbeats 800000 in
theorem drawBS (w : World) (ha : RdU w A l) (hc : l.length ≤ c) (hl : l.length ≤ 1048576) : Calls Try.prog 29 #[.slice A l.length c] w (GotCranes w) := by
  go_enter Try.func29, Try.ntmps29
  go_wp2_with fail
  refine (open_any w ha hc hl).mono ?_
  rintro e w1 ⟨g, rfl, r1, b1⟩
  have hg := r1.lt
  go_wp2_with fail
  refine (work_any w.heap.size g 0 9 w1 r1 (by omega) (by omega) (by omega)).mono ?_
  rintro e w2 ⟨g1, l2, c2, rfl, hl9, hlc, hlb, o1, d2⟩
  have HLB := Lib.hid hlb
  clear hlb
  go_wp2_with fail
  refine (pick_any w.heap.size g _ 4 _ d2.rdr (by omega) (by omega) (by omega)).mono ?_
  rintro e w3 ⟨x, x0, xn, rfl, d3, hs3⟩
  go_wp2_with fail
  refine (pick_any w.heap.size g _ 12 _ d3.rdr (by omega) (by omega) (by omega)).mono ?_
  rintro e w4 ⟨y, y0, yn, rfl, d4, hs4⟩
  have D := (d2.trans d3).trans d4
  have HF : Hid (Rd w4 (some ⟨g1, 0, none⟩) l2) := (o1.chg (d3.trans d4).chg (.inr (by omega))).rd
  have HB := Lib.hid (b1.trans (D.below b1.size))
  have y1 : 0 ≤ y / 11 ∧ y / 11 ≤ 1 := by omega
  go_wp2_with fail
  go_ret2
  exact ⟨g1, l2, c2, _, rfl, hl9, hlc, HLB.out, HF.out, by omega, by omega, HB.out⟩
theorem bs_ok_is {l : List Int} {cr : Int} (h : bsOk l cr = true) : ∃ m : Nat, cr = (m : Int) + 1 ∧ m ≤ 3 ∧ workV l = true := by
  unfold bsOk at h
  simp only [Bool.and_eq_true, decide_eq_true_eq] at h
  exact ⟨(cr - 1).toNat, by omega, by omega, h.1⟩
set_option maxHeartbeats 3200000 in
theorem law_BestShares (w : World) (ha : RdU w A l) (hl : l.length ≤ 9223372036854775807) (hc : l.length ≤ c) :
    Calls Try.prog 10 #[.slice A l.length c] w fun e w' => e = .returned (.bool true) ∧ Below w.heap.size w w' := by
  by_cases hs : l.length ≤ 1048576
  · go_enter Try.func10, Try.ntmps10
    go_wp2_with fail
    refine (drawBS w ha hc hs).mono ?_
    rintro e w1 ⟨g1, l2, c1, cr, rfl, h9, hlc, hlb, r1, cr1, cr2, b1⟩
    have HLB : Hid (∀ x ∈ l2, -1 ≤ x ∧ x ≤ 1000) := fun x hx => by have := hlb x hx; omega
    have HLB2 := Lib.hid hlb
    clear hlb
    obtain ⟨L, b, HV⟩ : ∃ L b, Hid ((bsVal l2 cr, bsOk l2 cr) = (L, b)) := ⟨_, _, rfl⟩
    have hL : L.length ≤ 3 := by have h1 := bsVal_short l2 cr; have h2 := HV.out; injection h2 with h3 h4; rw [h3] at h1; exact h1
    go_wp2_with fail
    refine (bs_val (bs_impl _ l2 c1 cr w1 r1 (by omega) hlc) HV.out).mono ?_
    rintro e w2 ⟨A2, c2, rfl, o2, b2⟩
    have r1 := r1.below b2
    have bw := b1.trans (b2.mono b1.size)
    go_wp2_with fail
    refine (bs_val (bs_spec _ l2 c1 cr w2 r1 (by omega)) HV.out).mono ?_
    rintro e w3 ⟨A3, c3, rfl, o3, b3⟩
    have r1 := r1.below b3
    have o2 := o2.below b3 (Nat.le_refl _)
    have bw := bw.trans (b3.mono bw.size)
    go_wp2_with fail
    refine (sameInts_any A2 A3 L L _ _ _ o2.rd o3.rd (by omega) (by omega)).mono ?_
    rintro e w5 ⟨rfl, n5, rfl⟩
    have r1 := r1.drewN n5
    have r2 := o2.rd.drewN n5
    have bw : Below w.heap.size w (w3.drewN n5) := below_drewN bw n5
    clear o2 o3 b3 b2
    cases b with
    | false =>
      have HBW := Lib.hid bw
      have t0 : ((L.length : Int) == 0) = true := by
        have h2 := HV.out; injection h2 with h3 h4
        rw [bsVal_no h4] at h3
        rw [← h3]; rfl
      go_wp2_with fail
      refine (alive_any _).mono ?_
      rintro e w' ⟨rfl, rfl⟩
      go_wp2_with fail
      go_ret
      exact ⟨rfl, HBW.out⟩
    | true =>
      obtain ⟨m, rfl, hm, hv⟩ := bs_ok_is (show bsOk l2 cr = true by have h2 := HV.out; injection h2 with h3 h4)
      obtain ⟨b, hb⟩ := best_some l2 m
      obtain rfl : b = L := by
        have h2 := HV.out; injection h2 with h3 h4
        rw [← h3]; exact (bsVal_yes hv hm hb).1.symm
      have hbl := (enumF_mem (best_in hb)).1
      obtain ⟨x0, x9⟩ := great_nn hv hm (best_in hb)
      obtain ⟨x, HX⟩ : ∃ x, Hid (greatS l2 b = x) := ⟨_, rfl⟩
      rw [HX.out] at x0 x9
      have HFAIR : Hid (∀ most : Int, (∀ y ∈ l2, y ≤ most) → 0 ≤ most → x * ((m : Int) + 1) ≤ sumL l2 + most * ((m : Int) + 1)) := fun most h1 h2 => by
        have h := best_fair (c := m + 1) hv (by omega) (by omega) (by simpa using hb) h1 h2
        rw [HX.out, show ((m + 1 : Nat) : Int) = (m : Int) + 1 from by omega, Int.mul_comm, Int.mul_comm _ most] at h
        exact h
      have HMORE : Hid (m ≤ 2 → ∃ b' : List Int, bsVal l2 ((m : Int) + 1 + 1) = b' ∧ bsOk l2 ((m : Int) + 1 + 1) = true ∧ b'.length ≤ 3 ∧ greatS l2 b' ≤ x) := fun h2 => by
        obtain ⟨b', hb'⟩ := best_some l2 (m + 1)
        have h3 := bsVal_yes hv (show m + 1 ≤ 3 by omega) hb'
        rw [show ((m + 1 : Nat) : Int) = (m : Int) + 1 from by omega] at h3
        exact ⟨b', h3.1, h3.2, by have := (enumF_mem (best_in hb')).1; omega, by rw [← HX.out]; exact best_more hv h2 hb hb'⟩
      have HBM := Lib.hid hbl
      have t0 : ((b.length : Int) == (m : Int)) = true := beq_iff_eq.2 (by omega)
      have HWV := Lib.hid (workV_spec hv).1
      clear hv hb hbl
      have hsb := sumL_big HLB.out
      obtain ⟨T, HT⟩ : ∃ T, Hid (sumL l2 = T) := ⟨_, rfl⟩
      rw [HT.out] at HFAIR hsb
      go_wp2_with fail
      refine (gsb (gs_impl _ _ l2 b c1 c2 _ r1 r2 (by omega) (by omega) hlc) HX.out).mono ?_
      rintro e w6 ⟨rfl, b6⟩
      have r1 := r1.below b6
      have bw := bw.trans (b6.mono bw.size)
      clear r2
      go_wp2_with fail
      go_loop [10, 11] (fun t i => ∃ (k : Nat) (v : Int), k ≤ l2.length ∧ i = .int .i64 k ∧ t = .int .i64 v ∧ 0 ≤ v ∧ v ≤ 99 ∧ Hid (∀ y ∈ l2.take k, y ≤ v)) (fun _ i => l2.length - (intOf i).toNat)
      case atStart => exact ⟨0, 0, by omega, rfl, rfl, by omega, by omega, by intro y hy; simp at hy⟩
      case round =>
        obtain ⟨k, v, hk, rfl, rfl, v0, v9, HK⟩ := hrel
        by_cases hlt : k < l2.length
        · obtain ⟨b', off, z, e, hbx, Hz, hcz⟩ := r1.at_ hlt
          injection e with e
          injection e with e1 e2 e3
          subst e1 e2
          have hzb := HWV.out z (mem_at Hz.out)
          have q0 : (0 : Int) ≤ (k : Int) := by omega
          have q1 : (k : Int) < (l2.length : Int) := by omega
          rw [Nat.zero_add] at hcz
          go_wp2_with fail
          exact ⟨⟨k + 1, max v z, by omega, by go_num, by first | rfl | go_num, by omega, by omega, all_next (P := fun y => y ≤ max v z) (fun y hy => by have := HK.out y hy; omega) Hz.out (by omega)⟩, by simp [intOf]; omega⟩
        · have HALL : Hid (∀ y ∈ l2, y ≤ v) := all_end (P := fun y => y ≤ v) HK.out (by omega)
          have hfair := HFAIR.out v HALL.out v0
          have p0 : 0 ≤ x * ((m : Int) + 1) := Int.mul_nonneg x0 (by omega)
          have p1 : x * ((m : Int) + 1) ≤ 4000 := by
            have := Int.mul_le_mul x9 (show (m : Int) + 1 ≤ 4 by omega) (by omega) (by omega : (0 : Int) ≤ 792)
            omega
          have p2 : 0 ≤ v * ((m : Int) + 1) := Int.mul_nonneg v0 (by omega)
          have p3 : v * ((m : Int) + 1) ≤ 4000 := by
            have := Int.mul_le_mul v9 (show (m : Int) + 1 ≤ 4 by omega) (by omega) (by omega : (0 : Int) ≤ 99)
            omega
          by_cases hm2 : m ≤ 2
          · obtain ⟨b', e1, e2, hb3, hgb⟩ := HMORE.out hm2
            obtain ⟨y, HY⟩ : ∃ y, Hid (greatS l2 b' = y) := ⟨_, rfl⟩
            rw [HY.out] at hgb
            have HBS := Lib.hid (bs_val (b := true) (L := b') (bs_impl (some ⟨g1, 0, none⟩) l2 c1 ((m : Int) + 1 + 1) w6 r1 (by omega) hlc) (by rw [e1, e2]))
            have hm3 : (m : Int) + 1 < 4 := by omega
            clear e1 e2
            go_wp2_with fail
            refine HBS.out.mono ?_
            rintro e w7 ⟨A7, c7, rfl, o7, b7⟩
            have r1 := r1.below b7
            have bw := bw.trans (b7.mono bw.size)
            go_wp2_with fail
            refine (gsb (gs_impl _ _ l2 b' c1 c7 _ r1 o7.rd (by omega) (by omega) hlc) HY.out).mono ?_
            rintro e w8 ⟨rfl, b8⟩
            have r1 := r1.below b8
            have HBW := Lib.hid (bw.trans (b8.mono bw.size))
            have HTT := Lib.hid (total_any (some ⟨g1, 0, none⟩) l2 c1 w8 r1 (by omega) HLB.out)
            rw [HT.out] at HTT
            go_wp2_with fail
            refine HTT.out.mono ?_
            rintro e w' ⟨rfl, rfl⟩
            go_wp2_with fail
            go_ret
            exact ⟨ret_bool (by first | (simp; done) | (simp; omega)), HBW.out⟩
          · have hm3 : ¬ (m : Int) + 1 < 4 := by omega
            have HBW := Lib.hid bw
            have HTT := Lib.hid (total_any (some ⟨g1, 0, none⟩) l2 c1 w6 r1 (by omega) HLB.out)
            rw [HT.out] at HTT
            go_wp2_with fail
            refine HTT.out.mono ?_
            rintro e w' ⟨rfl, rfl⟩
            go_wp2_with fail
            go_ret
            exact ⟨ret_bool (by first | (simp; done) | (simp; omega)), HBW.out⟩
  · go_enter Try.func10, Try.ntmps10
    go_wp2_with fail
    go_ret
    exact ⟨rfl, Below.refl _ _⟩
end
end Go.Proofs.Ytoopmikcehmpdaa
