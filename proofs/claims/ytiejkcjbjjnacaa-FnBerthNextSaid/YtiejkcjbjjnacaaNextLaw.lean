/- The law on the next free place: what it draws, and that it answers true. -/
import Derived.Test.YtiejkcjbjjnacaaCallsLaw
import Derived.Test.YtiejkcjbjjnacaaBerth5
namespace Go.Proofs.Ytiejkcjbjjnacaa
open Go.RowKit
set_option linter.unusedVariables false
set_option linter.unusedSimpArgs false

theorem results_tmp4 {fn : Func} {tmps : Array Value} {t u v x : Nat} (h : fn.results = #[.tmp t, .tmp u, .tmp v, .tmp x]) (w : World) (P : Program) :
    (results fn tmps).run P w = .ok (.tuple #[tmps.getD t undef, tmps.getD u undef, tmps.getD v undef, tmps.getD x undef]) w := by simp [results, h]
section
variable {A : Option Addr} {l : List Int} {c : Nat}
def GotNext (w : World) (e : Ending) (w' : World) : Prop := ∃ (g1 : Nat) (l2 : List CallV) (c2 : Nat) (lg h f : Int), e = .returned (.tuple #[.slice (some ⟨g1, 0, none⟩) l2.length c2, .int .i64 lg, .int .i64 h, .int .i64 f]) ∧ l2.length ≤ 6 ∧ l2.length ≤ c2 ∧ -100 ≤ lg ∧ lg ≤ 100 ∧ -100 ≤ h ∧ h ≤ 100 ∧ -100 ≤ f ∧ f ≤ 100 ∧ Rd w' (some ⟨g1, 0, none⟩) (flatCall l2) ∧ Below w.heap.size w w'
set_option maxHeartbeats 1600000 in
theorem drawBN (w : World) (ha : RdU w A l) (hc : l.length ≤ c) (hl : l.length ≤ 1048576) : Calls Try.prog 37 #[.slice A l.length c] w (GotNext w) := by
  go_enter Try.func37, Try.ntmps37
  go_wp2_with fail
  refine (open_any w ha hc hl).mono ?_
  rintro e w1 ⟨g, rfl, r1, b1⟩
  have hg1 := r1.lt
  go_wp2_with fail
  refine (calls_any w.heap.size g 0 9 w1 r1 (by omega) (by omega) (by omega)).mono ?_
  rintro e w2 ⟨g1, l2, c2, rfl, hl9, hlc, hlb, o1, d2⟩
  clear hlb
  have d2s := d2.chg.size
  go_wp2_with fail
  refine (pick_any _ g _ 20 w2 d2.rdr (by omega) (by omega) (by omega)).mono ?_
  rintro e w3 ⟨x1, x10, x19, rfl, d3, _⟩
  go_wp2_with fail
  refine (pick_any _ g _ 20 w3 d3.rdr (by omega) (by omega) (by omega)).mono ?_
  rintro e w4 ⟨x2, x20, x29, rfl, d4, _⟩
  go_wp2_with fail
  refine (pick_any _ g _ 12 w4 d4.rdr (by omega) (by omega) (by omega)).mono ?_
  rintro e w5 ⟨x3, x30, x39, rfl, d5, _⟩
  go_wp2_with fail
  refine (pick_any _ g _ 20 w5 d5.rdr (by omega) (by omega) (by omega)).mono ?_
  rintro e w6 ⟨x4, x40, x49, rfl, d6, _⟩
  go_wp2_with fail
  refine (pick_any _ g _ 40 w6 d6.rdr (by omega) (by omega) (by omega)).mono ?_
  rintro e w7 ⟨x5, x50, x59, rfl, d7, _⟩
  go_wp2_with fail
  refine (pick_any _ g _ 20 w7 d7.rdr (by omega) (by omega) (by omega)).mono ?_
  rintro e w8 ⟨x6, x60, x69, rfl, d8, _⟩
  have dd := ((((d3.trans d4).trans d5).trans d6).trans d7).trans d8
  have o2 := o1.chg dd.chg (.inr (by omega))
  have HB := Lib.hid (b1.trans ((d2.trans dd).below b1.size))
  clear d3 d4 d5 d6 d7 d8 d2
  go_wp2_with fail
  refine bodyPost_ret (results_tmp4 rfl _ _) rfl ?_
  exact ⟨g1, l2, c2, _, _, _, rfl, hl9, hlc, by omega, by omega, by omega, by omega, by omega, by omega, o2.rd, HB.out⟩
theorem next_is {f : FuncId} {args : Array Value} {w : World} {v x : Option CallV} (h : Calls Try.prog f args w (NextPost v w)) (e : v = x) : Calls Try.prog f args w (NextPost x w) := by rw [← e]; exact h
set_option maxHeartbeats 6400000 in
theorem law_BerthNext (w : World) (ha : RdU w A l) (hl : l.length ≤ 9223372036854775807) (hc : l.length ≤ c) :
    Calls Try.prog 11 #[.slice A l.length c] w fun e w' => e = .returned (.bool true) ∧ Below w.heap.size w w' := by
  obtain ⟨i0, hi, hz0, hz1, hz2⟩ := info_parts info_Call
  have m0 : 0 ≤ maxLen := by unfold maxLen; omega
  by_cases hs : l.length ≤ 1048576
  · go_enter Try.func11, Try.ntmps11
    go_wp2_with fail
    refine (drawBN w ha hc hs).mono ?_
    rintro e w1 ⟨g1, l2, c1, long, h, f, rfl, h9, hlc, lg1, lg2, h1, h2, f1, f2, rf, b1⟩
    have rt := RdCall.of_rd rf
    have hgl : l2.length ≤ 6 := h9
    obtain ⟨M, HM⟩ : ∃ M, Hid (nextC l2 long h f = M) := ⟨_, rfl⟩
    have HFL : Hid (((flatCall l2).map (Value.int .i64)).length = l2.length * 4) := by show _ = _; rw [List.length_map, flatCall_length]
    have M1 : Hid (0 + l2.length ≤ maxLen) := by
      show _ ≤ _
      unfold maxLen; omega
    have M2 : Hid ((0 + l2.length) * 32 ≤ 140737488355328) := by
      show _ ≤ _
      omega
    have M3 : Hid (l2.length + 1 ≤ maxLen) := by
      show _ ≤ _
      unfold maxLen; omega
    have M4 : Hid ((l2.length + 1) * 32 ≤ 140737488355328) := by
      show _ ≤ _
      omega
    have M5 : Hid (0 + l2.length + 1 ≤ maxLen) := by
      show _ ≤ _
      unfold maxLen; omega
    have M6 : Hid ((0 + l2.length + 1) * 32 ≤ 140737488355328) := by
      show _ ≤ _
      omega
    cases M with
    | none =>
      go_wp2_with fail
      refine (next_is (bn_impl _ l2 c1 long h f w1 rt (by omega) hlc) HM.out).mono ?_
      rintro e w2 ⟨rfl, b2⟩
      have rt := rt.below b2
      have bw := b1.trans (b2.mono b1.size)
      have k2 := Blk.new w2 25 #[.int .i64 0, .int .i64 0, .int .i64 0, .int .i64 0]
      have bw := bw.alloc bw.size (.cells #[.int .i64 0, .int .i64 0, .int .i64 0, .int .i64 0] 25)
      have rt := rt.alloc (.cells #[.int .i64 0, .int .i64 0, .int .i64 0, .int .i64 0] 25)
      clear b1 b2
      unfold nextV
      go_wp2_with fail
      refine (next_is (bn_spec _ l2 c1 long h f _ rt (by omega)) HM.out).mono ?_
      rintro e w3 ⟨rfl, b3⟩
      have k3 := k2.below b3 k2.lt
      have bw := bw.trans (b3.mono bw.size)
      have y0 := k3.cell 0
      have y1 := k3.cell 1
      have y2 := k3.cell 2
      have y3 := k3.cell 3
      simp only [List.getElem?_toArray, List.getElem?_cons_zero, List.getElem?_cons_succ] at y0 y1 y2 y3
      have hz3 : w2.heap.size < w3.heap.size := k3.lt
      have HB := Lib.hid (bw.alloc bw.size (.cells #[.int .i64 0, .int .i64 0, .int .i64 0, .int .i64 0] 25))
      clear k2 k3 b3 bw
      unfold nextV
      go_wp2_with fail
      refine (alive_any _).mono ?_
      rintro e w' ⟨rfl, rfl⟩
      go_wp2_with fail
      go_ret
      exact ⟨rfl, HB.out⟩
    | some q =>
      obtain ⟨cs, ch, ca, cl⟩ := q
      obtain ⟨hask, hfree, hh, hlong, hfrom, hnone⟩ := nextC_some HM.out
      obtain ⟨hcv, hn6, hlb, hfb⟩ := askedB_spec hask
      simp only at hh hlong hfrom hnone
      subst hh hlong
      have hcall : callV ⟨cs, ch, ca, cl⟩ = true := by
        unfold freeC at hfree
        simp only [Bool.and_eq_true] at hfree
        exact hfree.1
      have hcb := callV_spec hcall
      simp only at hcb
      obtain ⟨⟨cs0, cs9⟩, ⟨ch1, ch9⟩, ⟨cl1, cl9⟩, ca0, ca9⟩ := hcb
      have HFR : Hid (callsV (l2 ++ [⟨cs, ch, ca, cl⟩]) = true) := (free_more hcv hn6).trans hfree
      have HNF : Hid (∀ t x : Int, f ≤ t → 0 ≤ x → x + cl ≤ 20 → (t < cs ∨ (t = cs ∧ x < ca)) → callsV (l2 ++ [⟨t, ch, x, cl⟩]) = false) := fun t x e1 e2 e3 e4 => (free_more hcv hn6).trans (hnone t x e1 e2 e3 e4)
      have HBI := Lib.hid (next_is (bn_impl _ l2 c1 cl ch f w1 rt (by omega) hlc) HM.out)
      have HBS := Lib.hid (fun W (h : RdCall W (some ⟨g1, 0, none⟩) l2) => next_is (bn_spec _ l2 c1 cl ch f W h (by omega)) HM.out)
      obtain ⟨f0, f9⟩ := hfb
      clear hask hfree hcv hn6 hlb hnone hcall
      go_wp2_with fail
      refine HBI.out.mono ?_
      rintro e w2 ⟨rfl, b2⟩
      have rt := rt.below b2
      have rf := rf.below b2
      have bw := b1.trans (b2.mono b1.size)
      have k2 := Blk.new w2 25 #[.int .i64 cs, .int .i64 ch, .int .i64 ca, .int .i64 cl]
      have bw := bw.alloc bw.size (.cells #[.int .i64 cs, .int .i64 ch, .int .i64 ca, .int .i64 cl] 25)
      have rt := rt.alloc (.cells #[.int .i64 cs, .int .i64 ch, .int .i64 ca, .int .i64 cl] 25)
      have rf := rf.alloc (.cells #[.int .i64 cs, .int .i64 ch, .int .i64 ca, .int .i64 cl] 25)
      clear b1 b2
      unfold nextV
      go_wp2_with fail
      refine (HBS.out _ rt).mono ?_
      rintro e w3 ⟨rfl, b3⟩
      have k3 := k2.below b3 k2.lt
      have rf := rf.below b3
      have bw := bw.trans (b3.mono bw.size)
      have hz3 : w2.heap.size < w3.heap.size := k3.lt
      have k4 := k3.alloc (.cells #[.int .i64 cs, .int .i64 ch, .int .i64 ca, .int .i64 cl] 25)
      have bw := bw.alloc bw.size (.cells #[.int .i64 cs, .int .i64 ch, .int .i64 ca, .int .i64 cl] 25)
      have rf := rf.alloc (.cells #[.int .i64 cs, .int .i64 ch, .int .i64 ca, .int .i64 cl] 25)
      have y0 := k3.cell 0
      have y1 := k3.cell 1
      have y2 := k3.cell 2
      have y3 := k3.cell 3
      simp only [List.getElem?_toArray, List.getElem?_cons_zero, List.getElem?_cons_succ] at y0 y1 y2 y3
      obtain ⟨K, HK⟩ : ∃ K, Hid (w2.heap.size = K) := ⟨_, rfl⟩
      obtain ⟨V, HV⟩ : ∃ V, Hid (w3.alloc (.cells #[.int .i64 cs, .int .i64 ch, .int .i64 ca, .int .i64 cl] 25) = V) := ⟨_, rfl⟩
      rw [HV.out, HK.out] at k4
      rw [HV.out] at bw rf
      have RF := Lib.hid rf
      have BW := Lib.hid bw
      have K4 := Lib.hid k4
      clear k2 k3 b3 bw rf rt k4
      unfold nextV
      go_wp2_with fail
      rw [HV.out, HK.out]
      clear y0 y1 y2 y3 hz3
      go_loopw [11] (fun i wr => ∃ s : Int, f ≤ s ∧ s ≤ cs + 1 ∧ i = .int .i64 s ∧ Below V.heap.size V wr) (fun i _ => (cs + 1 - intOf i).toNat)
      case atStart => exact ⟨f, by omega, by omega, rfl, Below.refl _ _⟩
      case round =>
        obtain ⟨s, sf, sc, rfl, bs⟩ := hrel
        have kS := K4.out.below bs K4.out.lt
        have u0 := kS.cell 0
        have u1 := kS.cell 1
        have u2 := kS.cell 2
        have u3 := kS.cell 3
        simp only [List.getElem?_toArray, List.getElem?_cons_zero, List.getElem?_cons_succ] at u0 u1 u2 u3
        clear kS
        by_cases hsc : s ≤ cs
        · have ts : decide (s ≤ cs) = true := decide_eq_true hsc
          go_wp2_with fail
          clear u0 u1 u2 u3
          go_loopw [12] (fun i wr => ∃ a : Int, 0 ≤ a ∧ a ≤ 21 - cl ∧ i = .int .i64 a ∧ Below V.heap.size V wr) (fun i _ => (21 - intOf i).toNat)
          case atStart => exact ⟨0, by omega, by omega, rfl, bs⟩
          case round =>
            clear bs
            obtain ⟨a, a0, a9, rfl, bs⟩ := hrel
            have kS := K4.out.below bs K4.out.lt
            have u0 := kS.cell 0
            have u1 := kS.cell 1
            have u2 := kS.cell 2
            have u3 := kS.cell 3
            simp only [List.getElem?_toArray, List.getElem?_cons_zero, List.getElem?_cons_succ] at u0 u1 u2 u3
            clear kS
            by_cases hin : a + cl ≤ 20 ∧ (s < cs ∨ a < ca)
            · obtain ⟨h20, hor⟩ := hin
              have t20 : decide (a + cl ≤ 20) = true := decide_eq_true h20
              have HNO : Hid (callsV (l2 ++ [⟨s, ch, a, cl⟩]) = false) := HNF.out s a sf a0 h20 (by omega)
              have HRD := Lib.hid (RF.out.below bs)
              by_cases hlt : s < cs
              · have tl : decide (s < cs) = true := decide_eq_true hlt
                clear hor
                go_wp2_with (at_builtin; refine wpList_append_own _ rfl _ _ 33 rfl wr.heap.size 25 i0 (.agg #[.int .i64 0, .int .i64 0, .int .i64 0, .int .i64 0]) 4 32 Try.underlying33 hi hz0 hz1 hz2 rfl (by decide) _ 0 [] rfl (World.ownsRow_lit wr #[] 0 (Nat.le_refl _) m0 rfl) ⟨g1, 0, none⟩ l2.length c1 ((flatCall l2).map (Value.int .i64)) rfl HFL.out (HRD.out.news (cell_alloc_old _)) (ints_oneCell .i64 (flatCall l2)) M1.out M2.out ?c5 ?_)
                try (case c5 => simp)
                intro v3 w3 hown3 hgrow3 _
                try simp only [Nat.zero_add, List.nil_append] at hown3
                have B3 := ((Below.refl wr.heap.size wr).alloc (Nat.le_refl _) (.cells #[] 25)).grown hgrow3 (by simp) (fun k e => by simp [Value.ownBlock] at e; omega)
                have hbk := hown3.lt
                have hz3 := B3.size
                clear hgrow3 u0 u1 u2 u3
                go_wp2_with (at_builtin; refine wpList_append_own _ rfl _ _ 33 rfl wr.heap.size 25 i0 (.agg #[.int .i64 0, .int .i64 0, .int .i64 0, .int .i64 0]) 4 32 Try.underlying33 hi hz0 hz1 hz2 rfl (by decide) _ _ _ rfl (hown3.alloc _) ⟨w3.heap.size, 0, none⟩ 1 1 [.int .i64 s, .int .i64 ch, .int .i64 a, .int .i64 cl] rfl rfl (news4C (Blk.new w3 _ _)) (one4 _ _ _ _) M3.out M4.out ?c6 ?_)
                try (case c6 => (simp; omega))
                intro v4 w4 hown4 hgrow4 _
                try simp only [Nat.zero_add, List.nil_append] at hown4
                have B4 := (B3.alloc hz3 (.cells #[.int .i64 s, .int .i64 ch, .int .i64 a, .int .i64 cl] 25)).grown hgrow4 (by simp; omega) (fun k e => (hbk k e).1)
                obtain ⟨g4, c4, rfl, hc4⟩ := row_atC hown4 (by omega)
                have TW := Lib.hid (csvI (x := ⟨s, ch, a, cl⟩) (w0 := wr) (B := wr.heap.size) B4 (Nat.le_refl _) hown4 (by omega) hc4 HNO.out)
                clear hown3 hown4 hgrow4 B3 B4
                go_wp2_with fail
                refine TW.out.mono ?_
                rintro e w5 ⟨rfl, b5⟩
                have bs5 := bs.trans (b5.mono bs.size)
                go_wp2_with fail
                exact ⟨⟨a + 1, by omega, by omega, rfl, bs5⟩, by simp [intOf]; omega⟩
              · have tl : decide (s < cs) = false := decide_eq_false hlt
                have ta : decide (a < ca) = true := decide_eq_true (by omega)
                clear hor
                go_wp2_with (at_builtin; refine wpList_append_own _ rfl _ _ 33 rfl wr.heap.size 25 i0 (.agg #[.int .i64 0, .int .i64 0, .int .i64 0, .int .i64 0]) 4 32 Try.underlying33 hi hz0 hz1 hz2 rfl (by decide) _ 0 [] rfl (World.ownsRow_lit wr #[] 0 (Nat.le_refl _) m0 rfl) ⟨g1, 0, none⟩ l2.length c1 ((flatCall l2).map (Value.int .i64)) rfl HFL.out (HRD.out.news (cell_alloc_old _)) (ints_oneCell .i64 (flatCall l2)) M1.out M2.out ?c7 ?_)
                try (case c7 => simp)
                intro v3 w3 hown3 hgrow3 _
                try simp only [Nat.zero_add, List.nil_append] at hown3
                have B3 := ((Below.refl wr.heap.size wr).alloc (Nat.le_refl _) (.cells #[] 25)).grown hgrow3 (by simp) (fun k e => by simp [Value.ownBlock] at e; omega)
                have hbk := hown3.lt
                have hz3 := B3.size
                clear hgrow3 u0 u1 u2 u3
                go_wp2_with (at_builtin; refine wpList_append_own _ rfl _ _ 33 rfl wr.heap.size 25 i0 (.agg #[.int .i64 0, .int .i64 0, .int .i64 0, .int .i64 0]) 4 32 Try.underlying33 hi hz0 hz1 hz2 rfl (by decide) _ _ _ rfl (hown3.alloc _) ⟨w3.heap.size, 0, none⟩ 1 1 [.int .i64 s, .int .i64 ch, .int .i64 a, .int .i64 cl] rfl rfl (news4C (Blk.new w3 _ _)) (one4 _ _ _ _) M3.out M4.out ?c8 ?_)
                try (case c8 => (simp; omega))
                intro v4 w4 hown4 hgrow4 _
                try simp only [Nat.zero_add, List.nil_append] at hown4
                have B4 := (B3.alloc hz3 (.cells #[.int .i64 s, .int .i64 ch, .int .i64 a, .int .i64 cl] 25)).grown hgrow4 (by simp; omega) (fun k e => (hbk k e).1)
                obtain ⟨g4, c4, rfl, hc4⟩ := row_atC hown4 (by omega)
                have TW := Lib.hid (csvI (x := ⟨s, ch, a, cl⟩) (w0 := wr) (B := wr.heap.size) B4 (Nat.le_refl _) hown4 (by omega) hc4 HNO.out)
                clear hown3 hown4 hgrow4 B3 B4
                go_wp2_with fail
                refine TW.out.mono ?_
                rintro e w5 ⟨rfl, b5⟩
                have bs5 := bs.trans (b5.mono bs.size)
                go_wp2_with fail
                exact ⟨⟨a + 1, by omega, by omega, rfl, bs5⟩, by simp [intOf]; omega⟩
            · by_cases h20 : a + cl ≤ 20
              · have t20 : decide (a + cl ≤ 20) = true := decide_eq_true h20
                have tl : decide (s < cs) = false := decide_eq_false (by omega)
                have ta : decide (a < ca) = false := decide_eq_false (by omega)
                clear hin
                go_wp2_with fail
                exact ⟨⟨s + 1, by omega, by omega, rfl, bs⟩, by simp [intOf]; omega⟩
              · have t20 : decide (a + cl ≤ 20) = false := decide_eq_false h20
                clear hin
                go_wp2_with fail
                exact ⟨⟨s + 1, by omega, by omega, rfl, bs⟩, by simp [intOf]; omega⟩
        · have ts : decide (s ≤ cs) = false := decide_eq_false hsc
          have hVB : V.heap.size ≤ wr.heap.size := bs.size
          have kS := K4.out.below bs K4.out.lt
          have hKl := kS.lt
          have rfS := RF.out.below bs
          have BWS := Lib.hid (BW.out.trans (bs.mono BW.out.size))
          have te1 : (cl == cl) = true := beq_self_eq_true _
          have te2 : (ch == ch) = true := beq_self_eq_true _
          have te3 : decide (f ≤ cs) = true := decide_eq_true hfrom
          obtain ⟨W0, HW0⟩ : ∃ W0, Hid (wr = W0) := ⟨_, rfl⟩
          clear bs
          go_wp2_with fail
          clear u0 u1 u2 u3
          rw [HW0.out] at kS hKl rfS BWS hVB ⊢
          obtain ⟨B, HB⟩ : ∃ B, Hid (W0.heap.size = B) := ⟨_, rfl⟩
          have hBs : B ≤ W0.heap.size := by rw [HB.out]; exact Nat.le_refl _
          have hKB : K < B := by rw [← HB.out]; exact hKl
          have HRD : Hid (∀ W, Below B W0 W → Rd W (some ⟨g1, 0, none⟩) (flatCall l2)) := fun W hW => rfS.below (by rw [HB.out]; exact hW)
          have HCK : Hid (∀ W, Below B W0 W → W.cell? ⟨K, 0, none⟩ = some (.int .i64 cs) ∧ W.cell? ⟨K, 1, none⟩ = some (.int .i64 ch) ∧ W.cell? ⟨K, 2, none⟩ = some (.int .i64 ca) ∧ W.cell? ⟨K, 3, none⟩ = some (.int .i64 cl) ∧ Below B W0 W) := fun W hW => by
            have k2 := kS.below hW hKB
            have e0 := k2.cell 0
            have e1 := k2.cell 1
            have e2 := k2.cell 2
            have e3 := k2.cell 3
            simp only [List.getElem?_toArray, List.getElem?_cons_zero, List.getElem?_cons_succ] at e0 e1 e2 e3
            exact ⟨e0, e1, e2, e3, hW⟩
          have B0 := Below.refl B W0
          obtain ⟨s0, s1, s2, s3, _⟩ := HCK.out W0 B0
          clear kS hKl rfS
          go_region_held3 (fun W => W.cell? ⟨K, 0, none⟩ = some (.int .i64 cs) ∧ W.cell? ⟨K, 1, none⟩ = some (.int .i64 ch) ∧ W.cell? ⟨K, 2, none⟩ = some (.int .i64 ca) ∧ W.cell? ⟨K, 3, none⟩ = some (.int .i64 cl) ∧ Below B W0 W)
            (first | (refine HCK.out _ ?_; (repeat (first | assumption | refine bel_dr ?_ | refine bel_al ?_ hBs _)); done) | go_keep)
            (first | ((try go_split_ands); refine step_append_own (o := ⟨some 93, _, _, _, _, _⟩) (by rfl) (.tmp 91) (.tmp 92) 33 (by rfl) B 25 i0 (.agg #[.int .i64 0, .int .i64 0, .int .i64 0, .int .i64 0]) 4 32 Try.underlying33 hi hz0 hz1 hz2 rfl (by decide) _ 0 [] (by rfl) (by first | exact lit_rowB (by assumption) hBs | exact row_dr (lit_rowB (by assumption) hBs) | exact (lit_rowB (by assumption) hBs).alloc _ | exact row_dr ((lit_rowB (by assumption) hBs).alloc _) | exact lit_rowC (by assumption) hBs | exact row_dr (lit_rowC (by assumption) hBs)) ⟨g1, 0, none⟩ l2.length c1 ((flatCall l2).map (Value.int .i64)) (by rfl) HFL.out ((HRD.out _ (by assumption)).news (fun _ _ => rfl)) (ints_oneCell .i64 _) M1.out M2.out (bsz (by assumption) hBs) ?_; intro v3 w3 hown3 hgrow3; have bl3 := bel_gr (by assumption : Below B W0 _) hBs hgrow3 (fun k e => by simp [go_sem, Value.ownBlock] at e; omega)) | ((try go_split_ands); refine step_append_own (o := ⟨some 96, _, _, _, _, _⟩) (by rfl) (.tmp 93) (.tmp 95) 33 (by rfl) B 25 i0 (.agg #[.int .i64 0, .int .i64 0, .int .i64 0, .int .i64 0]) 4 32 Try.underlying33 hi hz0 hz1 hz2 rfl (by decide) _ _ _ (by rfl) (by first | exact hown3 | exact row_dr hown3 | exact row_dr (hown3.alloc _) | exact hown3.alloc _) ⟨_, 0, none⟩ 1 1 [.int .i64 cs, .int .i64 ch, .int .i64 ca, .int .i64 cl] (by rfl) rfl (by first | exact news4C (Blk.new _ _ _) | exact news4C (blk_dr (Blk.new _ _ _)) | exact news4C (grown_blk (blk_dr (Blk.new _ _ _)) hgrow3 (by simp [go_sem, Value.ownBlock])) | exact news4C (grown_blk (blk_dr ((Blk.new _ _ _).alloc _)) hgrow3 (by simp [go_sem, Value.ownBlock])) | exact news4C (grown_blk (blk_dr (blk_new2 _ _ _ _)) hgrow3 (by simp [go_sem, Value.ownBlock])) | exact news4C (grown_blk (Blk.new _ _ _) hgrow3 (by simp [go_sem, Value.ownBlock])) | exact news4C (grown_blk ((Blk.new _ _ _).alloc _) hgrow3 (by simp [go_sem, Value.ownBlock])) | exact news4C (grown_blk (blk_new2 _ _ _ _) hgrow3 (by simp [go_sem, Value.ownBlock]))) (one4 _ _ _ _) (by simpa using M3.out) (by simpa using M4.out) (bsz (by assumption) hBs) ?_; intro v4 w4 hown4 hgrow4; have bl4 := bel_gr (by assumption : Below B W0 _) hBs hgrow4 (fun k e => (hown3.lt k (by simpa [go_sem] using e)).1); simp only [Nat.zero_add, List.nil_append] at hown4; obtain ⟨g4, c4, rfl, hc4⟩ := row_atC hown4 (by omega)) | ((try go_split_ands); go_at_call 21; refine (csvI (x := ⟨cs, ch, ca, cl⟩) (by assumption) hBs (by first | exact hown4 | exact row_dr hown4) (by omega) hc4 HFR.out).mono ?_; rintro e w5 ⟨rfl, b5⟩))
          all_goals
            have HF := Lib.hid (BWS.out.trans (b5.mono (by have := BWS.out.size; have := HB.out; omega)))
            clear hown3 hown4 hgrow3 hgrow4
            go_wp2_with fail
            go_ret
            exact ⟨rfl, HF.out⟩
  · go_enter Try.func11, Try.ntmps11
    go_wp2_with fail
    go_ret
    exact ⟨rfl, Below.refl _ _⟩
end
end Go.Proofs.Ytiejkcjbjjnacaa
