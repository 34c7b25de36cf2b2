/- The law on lists of ships at a quay: what it draws, and that it answers true. -/
import Derived.Test.YtiejkcjbjjnacaaCallsDraw
namespace Go.Proofs.Ytiejkcjbjjnacaa
open Go.RowKit
set_option linter.unusedVariables false
set_option linter.unusedSimpArgs false

theorem csv_r {f : FuncId} {args : Array Value} {w : World} {v x : Bool} (h : Calls Try.prog f args w fun e w' => e = .returned (.bool v) ∧ Below w.heap.size w w') (e : v = x) :
    Calls Try.prog f args w fun e w' => e = .returned (.bool x) ∧ Below w.heap.size w w' := by rw [← e]; exact h
theorem okTo_tail {a : CallV} {t : List CallV} : ∀ k, okTo (a :: t) (k + 1) = true → okTo t k = true := by
  intro k
  induction k with
  | zero => intro _; rfl
  | succ k ih =>
    intro h
    have h1 := ih (okTo_mono h (by omega))
    cases hc : t[k]? with
    | none => simp only [okTo, h1, hc]; rfl
    | some c =>
      have hc2 : (a :: t)[k + 1]? = some c := by simpa using hc
      obtain ⟨hv, hn⟩ := okTo_valid h (by omega) hc2
      rw [okTo_next hc, h1, hv]
      simp only [Bool.true_and, Bool.not_eq_true', List.any_eq_false]
      intro d hd
      obtain ⟨j, hj⟩ := List.getElem?_of_mem hd
      rw [List.getElem?_take] at hj
      split at hj
      · next hjk => rw [hn (j + 1) d (by omega) (by simpa using hj)]; simp
      · cases hj
theorem callsV_tail {l : List CallV} (h : callsV l = true) : callsV (l.drop 1) = true := by
  obtain ⟨h1, h2⟩ := callsV_spec h
  cases l with
  | nil => rfl
  | cons a t =>
    simp only [List.drop_succ_cons, List.drop_zero]
    have := okTo_tail t.length (by simpa using h1)
    rw [callsV_yes this]
    simp at h2 ⊢; omega
theorem callsV_twice {l : List CallV} {x : CallV} (h : callsV l = true) (hx : x ∈ l) : callsV (l ++ [x]) = false := by
  have hv := callsV_valid h x hx
  have hh : hits l x = true := by
    unfold hits
    rw [List.any_eq_true]
    refine ⟨x, hx, ?_⟩
    have := callV_spec hv
    simp only [clB, decide_eq_true_eq]; omega
  have e : okTo (l ++ [x]) (l.length + 1) = false := by rw [okTo_more (callsV_spec h).1, hv, hh]; rfl
  exact callsV_no e (by simp)
/-- The ship lies at the place in the hour. -/
def lies (c : CallV) (h p : Int) : Prop := c.start ≤ h ∧ h < c.start + c.hours ∧ c.at_ ≤ p ∧ p < c.at_ + c.long
theorem lies_one {l : List CallV} (h : callsV l = true) {i j : Nat} {a b : CallV} {hr p : Int} (hij : i < j) (ha : l[i]? = some a) (hb : l[j]? = some b) (la : lies a hr p) (lb : lies b hr p) : False := by
  have hj := (List.getElem?_eq_some_iff.1 hb).1
  have := (okTo_valid (callsV_spec h).1 hj hb).2 i a hij ha
  unfold lies at la lb
  rw [Bool.eq_false_iff] at this
  apply this
  simp only [clB, decide_eq_true_eq]
  omega
theorem RdCall.tail4 {w : World} {g : Nat} {l : List CallV} (h : RdCall w (some ⟨g, 0, none⟩) l) : RdCall w (some ⟨g, 4, none⟩) (l.drop 1) := fun k x hx => by
  rw [List.getElem?_drop] at hx
  obtain ⟨b, off, e, hb, h0, h1, h2, h3⟩ := h _ x hx
  injection e with e
  injection e with e1 e2 e3
  subst e1 e2
  refine ⟨g, 4, rfl, hb, ?_, ?_, ?_, ?_⟩
  · rw [show 4 + k * 4 = 0 + (1 + k) * 4 from by omega]; exact h0
  · rw [show 4 + k * 4 + 1 = 0 + (1 + k) * 4 + 1 from by omega]; exact h1
  · rw [show 4 + k * 4 + 2 = 0 + (1 + k) * 4 + 2 from by omega]; exact h2
  · rw [show 4 + k * 4 + 3 = 0 + (1 + k) * 4 + 3 from by omega]; exact h3
section
variable {A : Option Addr} {l : List Int} {c : Nat}
def GotCalls (w : World) (e : Ending) (w' : World) : Prop := ∃ (g1 : Nat) (l2 : List CallV) (c2 : Nat), e = .returned (.slice (some ⟨g1, 0, none⟩) l2.length c2) ∧ l2.length ≤ 6 ∧ l2.length ≤ c2 ∧ (∀ x ∈ l2, nearV x) ∧ Rd w' (some ⟨g1, 0, none⟩) (flatCall l2) ∧ Below w.heap.size w w'
set_option maxHeartbeats 400000 in
theorem drawCLV (w : World) (ha : RdU w A l) (hc : l.length ≤ c) (hl : l.length ≤ 1048576) : Calls Try.prog 36 #[.slice A l.length c] w (GotCalls w) := by
  go_enter Try.func36, Try.ntmps36
  go_wp2_with fail
  refine (open_any w ha hc hl).mono ?_
  rintro e w1 ⟨g, rfl, r1, b1⟩
  go_wp2_with fail
  refine (calls_any w.heap.size g 0 2 w1 r1 (by omega) (by omega) (by omega)).mono ?_
  rintro e w2 ⟨g1, l2, c2, rfl, hl9, hlc, hlb, o1, d2⟩
  have HB := Lib.hid (b1.trans (d2.below b1.size))
  have HL := Lib.hid hlb
  clear hlb
  go_wp2_with fail
  go_ret
  exact ⟨g1, l2, c2, rfl, hl9, hlc, HL.out, o1.rd, HB.out⟩
set_option maxHeartbeats 6400000 in
theorem law_CallsValid (w : World) (ha : RdU w A l) (hl : l.length ≤ 9223372036854775807) (hc : l.length ≤ c) :
    Calls Try.prog 10 #[.slice A l.length c] w fun e w' => e = .returned (.bool true) ∧ Below w.heap.size w w' := by
  obtain ⟨i0, hi, hz0, hz1, hz2⟩ := info_parts info_Call
  have m0 : 0 ≤ maxLen := by unfold maxLen; omega
  by_cases hs : l.length ≤ 1048576
  · go_enter Try.func10, Try.ntmps10
    go_wp2_with fail
    refine (drawCLV w ha hc hs).mono ?_
    rintro e w1 ⟨g1, l2, c1, rfl, h9, hlc, hnear, rf, b1⟩
    have HNEAR := Lib.hid hnear
    have rt := RdCall.of_rd rf
    obtain ⟨r, HV⟩ : ∃ r, Hid (callsV l2 = r) := ⟨_, rfl⟩
    clear hnear
    go_wp2_with fail
    refine (csv_r (csv_impl _ l2 c1 w1 rt (by omega) hlc) HV.out).mono ?_
    rintro e w2 ⟨rfl, b2⟩
    have rt := rt.below b2
    have rf := rf.below b2
    have bw := b1.trans (b2.mono b1.size)
    clear b2 b1
    go_wp2_with fail
    refine (csv_r (csv_spec _ l2 c1 w2 rt (by omega)) HV.out).mono ?_
    rintro e w3 ⟨rfl, b3⟩
    have rt := rt.below b3
    have rf := rf.below b3
    have bw := bw.trans (b3.mono bw.size)
    clear b3
    have t00 : (r != r) = false := by simp
    have HNIL : Hid (∀ W, Calls Try.prog 21 #[.slice none 0 0] W fun e w' => e = .returned (.bool true) ∧ Below W.heap.size W w') := fun W => csv_r (csv_impl none [] 0 W RdCall.nil_ (by simp) (Nat.le_refl _)) rfl
    cases r with
    | false =>
      go_wp2_with fail
      refine (HNIL.out _).mono ?_
      rintro e w4 ⟨rfl, b4⟩
      have HB := Lib.hid (bw.trans (b4.mono bw.size))
      go_wp2_with fail
      refine (alive_any _).mono ?_
      rintro e w' ⟨rfl, rfl⟩
      go_wp2_with fail
      go_ret
      exact ⟨rfl, HB.out⟩
    | true =>
      by_cases h0 : l2.length = 0
      · have t0 : ((l2.length : Int) == 0) = true := beq_iff_eq.2 (by omega)
        clear h0
        go_wp2_with fail
        refine (HNIL.out _).mono ?_
        rintro e w4 ⟨rfl, b4⟩
        have HB := Lib.hid (bw.trans (b4.mono bw.size))
        go_wp2_with fail
        refine (alive_any _).mono ?_
        rintro e w' ⟨rfl, rfl⟩
        go_wp2_with fail
        go_ret
        exact ⟨rfl, HB.out⟩
      · have t0 : ((l2.length : Int) == 0) = false := beq_eq_false_iff_ne.2 (by omega)
        have hpos : 0 < l2.length := by omega
        clear h0
        go_wp2_with fail
        go_loopw [5] (fun i wr => ∃ h : Nat, h ≤ 60 ∧ i = .int .i64 h ∧ Below w3.heap.size w3 wr) (fun i _ => 60 - (intOf i).toNat)
        case atStart => exact ⟨0, by omega, rfl, Below.refl _ _⟩
        case round =>
          obtain ⟨h, hh, rfl, bh⟩ := hrel
          by_cases hlt : h < 60
          · have hlt2 : (h : Int) < 60 := by omega
            go_wp2_with fail
            go_loopw [6] (fun i wr => ∃ p : Nat, p ≤ 20 ∧ i = .int .i64 p ∧ Below w3.heap.size w3 wr) (fun i _ => 20 - (intOf i).toNat)
            case atStart => exact ⟨0, by omega, rfl, bh⟩
            case round =>
              clear bh
              obtain ⟨p, hp, rfl, bp⟩ := hrel
              by_cases hlp : p < 20
              · have hlp2 : (p : Int) < 20 := by omega
                go_wp2_with fail
                go_loopw [7, 8] (fun n i wr => ∃ (k : Nat) (m : Int), k ≤ l2.length ∧ i = .int .i64 k ∧ n = .int .i64 m ∧ ((m = 0 ∧ Hid (∀ j a, j < k → l2[j]? = some a → ¬ lies a h p)) ∨ (m = 1 ∧ Hid (∃ j a, j < k ∧ l2[j]? = some a ∧ lies a h p))) ∧ Below w3.heap.size w3 wr) (fun _ i _ => l2.length - (intOf i).toNat)
                case atStart => exact ⟨0, 0, by omega, rfl, rfl, .inl ⟨rfl, fun j a hj => by omega⟩, bp⟩
                case round =>
                  clear bp
                  obtain ⟨k, m, hk, rfl, rfl, hm, bk⟩ := hrel
                  have hmb : 0 ≤ m ∧ m ≤ 1 := by rcases hm with ⟨h1, _⟩ | ⟨h1, _⟩ <;> omega
                  have HM := Lib.hid hm
                  clear hm
                  by_cases hlk : k < l2.length
                  · obtain ⟨bb, off, x, e, hbx, Hx, hx0, hx1, hx2, hx3⟩ := (rt.below bk).at_ (k := k) hlk
                    injection e with e
                    injection e with e1 e2 e3
                    subst e1 e2
                    simp only [Nat.zero_add] at hx0 hx1 hx2 hx3
                    have xn := HNEAR.out x (mem_at Hx.out)
                    unfold nearV at xn
                    obtain ⟨n1, n2, n3, n4, n5, n6, n7, n8⟩ := xn
                    have q0 : (0 : Int) ≤ (k : Int) := by omega
                    have q1 : (k : Int) < (l2.length : Int) := by omega
                    have BK2 := Lib.hid (bk.alloc bk.size (.cells #[.int .i64 x.start, .int .i64 x.hours, .int .i64 x.at_, .int .i64 x.long] 25))
                    have HSTAY : Hid (¬ lies x h p → ((m = 0 ∧ Hid (∀ j a, j < k + 1 → l2[j]? = some a → ¬ lies a h p)) ∨ (m = 1 ∧ Hid (∃ j a, j < k + 1 ∧ l2[j]? = some a ∧ lies a h p)))) := fun hx => by
                      rcases HM.out with ⟨h1, h2⟩ | ⟨h1, h2⟩
                      · refine .inl ⟨h1, fun j a hj ha => ?_⟩
                        by_cases e : j = k
                        · subst e
                          rw [Hx.out] at ha
                          injection ha with ha
                          subst ha
                          exact hx
                        · exact h2.out j a (by omega) ha
                      · obtain ⟨j, a, hj, ha, hla⟩ := h2.out
                        exact .inr ⟨h1, j, a, by omega, ha, hla⟩
                    by_cases d1 : x.start ≤ (h : Int)
                    · have t1 : decide (x.start ≤ (h : Int)) = true := decide_eq_true d1
                      by_cases d2 : (h : Int) < x.start + x.hours
                      · have t2 : decide ((h : Int) < x.start + x.hours) = true := decide_eq_true d2
                        by_cases d3 : x.at_ ≤ (p : Int)
                        · have t3 : decide (x.at_ ≤ (p : Int)) = true := decide_eq_true d3
                          by_cases d4 : (p : Int) < x.at_ + x.long
                          · have t4 : decide ((p : Int) < x.at_ + x.long) = true := decide_eq_true d4
                            have HL : Hid (m = 0 ∧ lies x h p) := by
                              refine ⟨?_, d1, d2, d3, d4⟩
                              rcases HM.out with ⟨h1, _⟩ | ⟨h1, h2⟩
                              · exact h1
                              · obtain ⟨j, a, hj, ha, hla⟩ := h2.out
                                exact (lies_one HV.out hj ha Hx.out hla ⟨d1, d2, d3, d4⟩).elim
                            clear d1 d2 d3 d4
                            go_wp2_with fail
                            exact ⟨⟨k + 1, m + 1, by omega, by go_num, rfl, .inr ⟨by have := HL.out.1; omega, k, x, by omega, Hx.out, HL.out.2⟩, BK2.out⟩, by simp [intOf]; omega⟩
                          · have t4 : decide ((p : Int) < x.at_ + x.long) = false := decide_eq_false d4
                            have HN := Lib.hid (HSTAY.out (fun a => d4 a.2.2.2))
                            clear d1 d2 d3 d4
                            go_wp2_with fail
                            exact ⟨⟨k + 1, m, by omega, by go_num, rfl, HN.out, BK2.out⟩, by simp [intOf]; omega⟩
                        · have t3 : decide (x.at_ ≤ (p : Int)) = false := decide_eq_false d3
                          have HN := Lib.hid (HSTAY.out (fun a => d3 a.2.2.1))
                          clear d1 d2 d3
                          go_wp2_with fail
                          exact ⟨⟨k + 1, m, by omega, by go_num, rfl, HN.out, BK2.out⟩, by simp [intOf]; omega⟩
                      · have t2 : decide ((h : Int) < x.start + x.hours) = false := decide_eq_false d2
                        have HN := Lib.hid (HSTAY.out (fun a => d2 a.2.1))
                        clear d1 d2
                        go_wp2_with fail
                        exact ⟨⟨k + 1, m, by omega, by go_num, rfl, HN.out, BK2.out⟩, by simp [intOf]; omega⟩
                    · have t1 : decide (x.start ≤ (h : Int)) = false := decide_eq_false d1
                      have HN := Lib.hid (HSTAY.out (fun a => d1 a.1))
                      clear d1
                      go_wp2_with fail
                      exact ⟨⟨k + 1, m, by omega, by go_num, rfl, HN.out, BK2.out⟩, by simp [intOf]; omega⟩
                  · have hm1 : ¬ 1 < m := by omega
                    have tm : decide (1 < m) = false := decide_eq_false hm1
                    go_wp2_with fail
                    exact ⟨⟨p + 1, by omega, by go_num, bk⟩, by simp [intOf]; omega⟩
              · go_wp2_with fail
                exact ⟨⟨h + 1, by omega, by go_num, bp⟩, by simp [intOf]; omega⟩
          · have hlt2 : ¬ (h : Int) < 60 := by omega
            have rt := rt.below bh
            have rf := rf.below bh
            have HBW := Lib.hid (bw.trans (bh.mono bw.size))
            clear bw bh
            obtain ⟨bb, off, x, e, hbx, Hx, hx0, hx1, hx2, hx3⟩ := rt.at_ (k := 0) hpos
            injection e with e
            injection e with e1 e2 e3
            subst e1 e2
            simp only [Nat.zero_mul, Nat.zero_add] at hx0 hx1 hx2 hx3
            have HTW := Lib.hid (callsV_twice HV.out (mem_at Hx.out))
            have HTL := Lib.hid (callsV_tail HV.out)
            obtain ⟨W0, HW0⟩ : ∃ W0, Hid (wr = W0) := ⟨_, rfl⟩
            have HX4 : Hid (wr.cell? ⟨g1, 0, none⟩ = some (.int .i64 x.start) ∧ wr.cell? ⟨g1, 1, none⟩ = some (.int .i64 x.hours) ∧ wr.cell? ⟨g1, 2, none⟩ = some (.int .i64 x.at_) ∧ wr.cell? ⟨g1, 3, none⟩ = some (.int .i64 x.long)) := ⟨hx0, hx1, hx2, hx3⟩
            clear hx0 hx1 hx2 hx3
            go_wp2_with fail
            rw [HW0.out] at HX4 rt rf HBW hbx ⊢
            obtain ⟨B, HB⟩ : ∃ B, Hid (W0.heap.size = B) := ⟨_, rfl⟩
            have hBs : B ≤ W0.heap.size := by have := HB.out; omega
            have hgB : g1 < B := by rw [← HB.out]; exact hbx
            have HRD : Hid (∀ W, Below B W0 W → Rd W (some ⟨g1, 0, none⟩) (flatCall l2)) := fun W hW => rf.below (by rw [HB.out]; exact hW)
            have HCK : Hid (∀ W, Below B W0 W → W.cell? ⟨g1, 0, none⟩ = some (.int .i64 x.start) ∧ W.cell? ⟨g1, 1, none⟩ = some (.int .i64 x.hours) ∧ W.cell? ⟨g1, 2, none⟩ = some (.int .i64 x.at_) ∧ W.cell? ⟨g1, 3, none⟩ = some (.int .i64 x.long) ∧ Below B W0 W) := fun W hW =>
              ⟨(hW.cell (p := ⟨g1, 0, none⟩) hgB).trans HX4.out.1, (hW.cell (p := ⟨g1, 1, none⟩) hgB).trans HX4.out.2.1, (hW.cell (p := ⟨g1, 2, none⟩) hgB).trans HX4.out.2.2.1, (hW.cell (p := ⟨g1, 3, none⟩) hgB).trans HX4.out.2.2.2, hW⟩
            have HFL : Hid (((flatCall l2).map (Value.int .i64)).length = l2.length * 4) := by show _ = _; rw [List.length_map, flatCall_length]
            have m1 : 0 + l2.length ≤ maxLen := by unfold maxLen; omega
            have m2 : (0 + l2.length) * 32 ≤ 140737488355328 := by omega
            have m3 : l2.length + 1 ≤ maxLen := by unfold maxLen; omega
            have m4 : (l2.length + 1) * 32 ≤ 140737488355328 := by omega
            have q0 : (0 : Int) < (l2.length : Int) := by omega
            have q1 : (1 : Int) ≤ (l2.length : Int) := by omega
            have q2 : (l2.length : Int) ≤ (c1 : Int) := by omega
            have q3 : (1 : Int) ≤ (c1 : Int) := by omega
            obtain ⟨a2, hA2⟩ : ∃ a2, (if c1 = 1 then some (⟨g1, 0, none⟩ : Addr) else some ⟨g1, 4, none⟩) = some a2 := by split <;> exact ⟨_, rfl⟩
            have HC1 : Hid (∀ W, Below B W0 W → Calls Try.prog 21 #[.slice (some a2) (l2.length - 1) (c1 - 1)] W fun e w' => e = .returned (.bool true) ∧ Below B W0 w') := fun W hW => by
              have hr : RdCall W (some a2) (l2.drop 1) := by
                by_cases hc1 : c1 = 1
                · rw [List.eq_nil_of_length_eq_zero (show (l2.drop 1).length = 0 by rw [List.length_drop]; omega)]; exact RdCall.nil_
                · have h := hA2
                  rw [if_neg hc1] at h
                  injection h with h
                  subst h
                  exact (RdCall.of_rd (HRD.out W hW)).tail4
              have h := csv_r (csv_impl (some a2) (l2.drop 1) (c1 - 1) W hr (by rw [List.length_drop]; omega) (by rw [List.length_drop]; omega)) HTL.out
              rw [List.length_drop] at h
              exact h.mono fun _ _ ⟨he, hb⟩ => ⟨he, hW.trans (hb.mono (by have := hW.size; omega))⟩
            have B0 := Below.refl B W0
            obtain ⟨s0, s1, s2, s3, _⟩ := HCK.out W0 B0
            clear rt rf hbx hgB
            go_region_held3 (fun W => W.cell? ⟨g1, 0, none⟩ = some (.int .i64 x.start) ∧ W.cell? ⟨g1, 1, none⟩ = some (.int .i64 x.hours) ∧ W.cell? ⟨g1, 2, none⟩ = some (.int .i64 x.at_) ∧ W.cell? ⟨g1, 3, none⟩ = some (.int .i64 x.long) ∧ Below B W0 W)
              (first | (refine HCK.out _ ?_; (repeat (first | assumption | refine bel_dr ?_ | refine bel_al ?_ hBs _)); done) | go_keep)
              (first | ((try go_split_ands); go_at_call 21; ((with_reducible refine (HC1.out _ ?_).mono ?_); (first | assumption | exact bel_dr (by assumption)); rintro e w2 ⟨rfl, b2⟩)) | ((try go_split_ands); refine step_append_ownG (o := ⟨some 88, _, _, _, _, _⟩) (by kernel_rfl) (.tmp 86) (.tmp 87) 33 (by rfl) B 25 i0 (.agg #[.int .i64 0, .int .i64 0, .int .i64 0, .int .i64 0]) 4 32 Try.underlying33 hi hz0 hz1 hz2 rfl (by decide) _ 0 [] (by rfl) (by first | exact lit_rowB (by assumption) hBs | exact row_dr (lit_rowB (by assumption) hBs) | exact (lit_rowB (by assumption) hBs).alloc _ | exact row_dr ((lit_rowB (by assumption) hBs).alloc _) | exact lit_rowC (by assumption) hBs | exact row_dr (lit_rowC (by assumption) hBs)) ⟨g1, 0, none⟩ l2.length c1 ((flatCall l2).map (Value.int .i64)) (by rfl) HFL.out ((HRD.out _ (by assumption)).news (fun _ _ => rfl)) (ints_oneCell .i64 _) m1 m2 (bsz (by assumption) hBs) ?_; intro v3 w3 hown3 hgrow3; have bl3 := bel_gr (by assumption : Below B W0 _) hBs hgrow3 (fun k e => by simp [go_sem, Value.ownBlock] at e; first | omega | (have := bsz b2 hBs; omega))) | ((try go_split_ands); refine step_append_ownG (o := ⟨some 93, _, _, _, _, _⟩) (by kernel_rfl) (.tmp 88) (.tmp 92) 33 (by rfl) B 25 i0 (.agg #[.int .i64 0, .int .i64 0, .int .i64 0, .int .i64 0]) 4 32 Try.underlying33 hi hz0 hz1 hz2 rfl (by decide) _ _ _ (by rfl) (by first | exact hown3 | exact row_dr hown3 | exact row_dr (hown3.alloc _) | exact hown3.alloc _) ⟨_, 0, none⟩ 1 1 [.int .i64 x.start, .int .i64 x.hours, .int .i64 x.at_, .int .i64 x.long] (by rfl) rfl (by first | exact news4C (Blk.new _ _ _) | exact news4C (blk_dr (Blk.new _ _ _)) | exact news4C (grown_blk (blk_dr (Blk.new _ _ _)) hgrow3 (by simp [go_sem, Value.ownBlock])) | exact news4C (grown_blk (blk_dr ((Blk.new _ _ _).alloc _)) hgrow3 (by simp [go_sem, Value.ownBlock])) | exact news4C (grown_blk (blk_dr (blk_new2 _ _ _ _)) hgrow3 (by simp [go_sem, Value.ownBlock])) | exact news4C (grown_blk (Blk.new _ _ _) hgrow3 (by simp [go_sem, Value.ownBlock])) | exact news4C (grown_blk ((Blk.new _ _ _).alloc _) hgrow3 (by simp [go_sem, Value.ownBlock])) | exact news4C (grown_blk (blk_new2 _ _ _ _) hgrow3 (by simp [go_sem, Value.ownBlock]))) (one4 _ _ _ _) (by simpa using m3) (by simpa using m4) (bsz (by assumption) hBs) ?_; intro v4 w4 hown4 hgrow4; have bl4 := bel_gr (by assumption : Below B W0 _) hBs hgrow4 (fun k e => (hown3.lt k (by simpa [go_sem] using e)).1); simp only [Nat.zero_add, List.nil_append] at hown4; obtain ⟨g4, c4, rfl, hc4⟩ := row_atC hown4 (by omega)) | ((try go_split_ands); go_at_call 21; refine (csvI (x := x) (by assumption) hBs (by first | exact hown4 | exact row_dr hown4) (by omega) hc4 HTW.out).mono ?_; rintro e w5 ⟨rfl, b5⟩))
            all_goals
              have HF := Lib.hid (HBW.out.trans (b5.mono (by have := HBW.out.size; have := HB.out; omega)))
              clear hown3 hown4 hgrow3 hgrow4
              go_wp2_with fail
              go_ret
              exact ⟨rfl, HF.out⟩
  · go_enter Try.func10, Try.ntmps10
    go_wp2_with fail
    go_ret
    exact ⟨rfl, Below.refl _ _⟩
end
end Go.Proofs.Ytiejkcjbjjnacaa
