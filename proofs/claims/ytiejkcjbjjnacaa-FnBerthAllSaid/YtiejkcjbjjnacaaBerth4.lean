/- The next ship at a quay: the walks. -/
import Derived.Test.YtiejkcjbjjnacaaBerth3
namespace Go.Proofs.Ytiejkcjbjjnacaa
open Go.RowKit
set_option linter.unusedVariables false
set_option linter.unusedSimpArgs false

/-- What BerthNext hands back. -/
def nextV : Option CallV → Value
  | some c => .tuple #[.agg #[.int .i64 c.start, .int .i64 c.hours, .int .i64 c.at_, .int .i64 c.long], .bool true]
  | none => .tuple #[.agg #[.int .i64 0, .int .i64 0, .int .i64 0, .int .i64 0], .bool false]
def NextPost (o : Option CallV) (w : World) (e : Ending) (w' : World) : Prop := e = .returned (nextV o) ∧ Below w.heap.size w w'
theorem csv_is {f : FuncId} {args : Array Value} {w : World} {v x : Bool} (h : Calls Try.prog f args w fun e w' => e = .returned (.bool v) ∧ Below w.heap.size w w') (e : v = x) :
    Calls Try.prog f args w fun e w' => e = .returned (.bool x) ∧ Below w.heap.size w w' := by rw [← e]; exact h
theorem set4 {B g : Nat} {w W : World} {a b c d : Value} (h : Below B w W) (hg : B ≤ g) : Below B w ((((W.setCell ⟨g, 0, none⟩ a).setCell ⟨g, 1, none⟩ b).setCell ⟨g, 2, none⟩ c).setCell ⟨g, 3, none⟩ d) :=
  (((h.setCell hg _).setCell hg _).setCell hg _).setCell hg _
theorem any_clash {l : List CallV} {c : CallV} (hl : ∀ y ∈ l, callV y = true) : (l.any fun y => clashV y c) = (callV c && hits l c) := by
  induction l with
  | nil => simp [hits]
  | cons y l ih =>
    have h1 := ih (fun z hz => hl z (List.mem_cons_of_mem _ hz))
    have h2 := hl y List.mem_cons_self
    have h3 : clashV y c = (callV c && clB c y) := by unfold clashV; rw [h2, clB_symm y c]; rfl
    simp only [List.any_cons, h1, h3, hits]
    cases callV c <;> simp
theorem free_hit {l : List CallV} {c : CallV} (hl : ∀ y ∈ l, callV y = true) (h : (l.any fun y => clashV y c) = true) : freeC l c = false := by
  rw [any_clash hl] at h
  simp only [Bool.and_eq_true] at h
  unfold freeC; rw [h.2]; simp
theorem free_end {l : List CallV} {c : CallV} (hl : ∀ y ∈ l, callV y = true) (h : (l.any fun y => clashV y c) = false) : freeC l c = callV c := by
  rw [any_clash hl] at h
  unfold freeC
  cases hc : callV c
  · rfl
  · rw [hc] at h; simp at h; rw [h]; rfl
theorem at_end {l : List CallV} {s h long a : Int} {M : Option CallV} (hm : atFrom l s h long (21 - long - a).toNat a = M) (ha : ¬ a ≤ 20 - long) : M = none := by
  rw [← hm, show (21 - long - a).toNat = 0 from by omega]; rfl
theorem at_next {l : List CallV} {s h long a : Int} {M : Option CallV} (hm : atFrom l s h long (21 - long - a).toNat a = M) (ha : a ≤ 20 - long) (hf : freeC l ⟨s, h, a, long⟩ = false) : atFrom l s h long (21 - long - (a + 1)).toNat (a + 1) = M := by
  rw [← hm, atFrom_miss (a := a) (by omega) hf]; congr 1; omega
theorem at_hit {l : List CallV} {s h long a : Int} {M : Option CallV} (hm : atFrom l s h long (21 - long - a).toNat a = M) (ha : a ≤ 20 - long) (hf : freeC l ⟨s, h, a, long⟩ = true) : M = some ⟨s, h, a, long⟩ := by
  rw [← hm, atFrom_hit (a := a) (by omega) hf]
theorem st_end {l : List CallV} {h long s : Int} {N : Option CallV} (hn : startFrom l h long (1000 - s).toNat s = N) (hs : ¬ s ≤ 999) : N = none := by
  rw [← hn, show (1000 - s).toNat = 0 from by omega]; rfl
theorem st_next {l : List CallV} {h long s : Int} {N : Option CallV} (hn : startFrom l h long (1000 - s).toNat s = N) (hs : s ≤ 999) (hm : atFrom l s h long (21 - long).toNat 0 = none) : startFrom l h long (1000 - (s + 1)).toNat (s + 1) = N := by
  rw [← hn, startFrom_next (s := s) (by omega) hm]; congr 1; omega
theorem st_hit {l : List CallV} {h long s : Int} {N : Option CallV} {c : CallV} (hn : startFrom l h long (1000 - s).toNat s = N) (hs : s ≤ 999) (hm : atFrom l s h long (21 - long).toNat 0 = some c) : N = some c := by
  rw [← hn, startFrom_hit (s := s) (by omega) hm]

set_option maxHeartbeats 3200000 in
theorem bn_impl (A : Option Addr) (l : List CallV) (c : Nat) (long h f : Int) (w : World) (ha : RdCall w A l) (hl : l.length ≤ 1048576) (hlc : l.length ≤ c) :
    Calls Try.prog 24 #[.slice A l.length c, .int .i64 long, .int .i64 h, .int .i64 f] w (NextPost (nextC l long h f) w) := by
  have hz0 : w.heap.size < (w.alloc (.cells #[.int .i64 0, .int .i64 0, .int .i64 0, .int .i64 0] 25)).heap.size := by simp
  have bw0 : Below w.heap.size w (w.alloc (.cells #[.int .i64 0, .int .i64 0, .int .i64 0, .int .i64 0] 25)) := (Below.refl _ _).alloc (Nat.le_refl _) _
  have ha0 := ha.alloc (.cells #[.int .i64 0, .int .i64 0, .int .i64 0, .int .i64 0] 25)
  have hb0 := Blk.new w 25 #[.int .i64 0, .int .i64 0, .int .i64 0, .int .i64 0]
  obtain ⟨r, HR⟩ : ∃ r, Hid (callsV l = r) := ⟨_, rfl⟩
  have HQ := Lib.hid (csv_is (csv_impl A l c _ ha0 hl hlc) HR.out)
  obtain ⟨N, HN⟩ : ∃ N, Hid (nextC l long h f = N) := ⟨_, rfl⟩
  rw [HN.out]
  clear ha0
  cases r with
  | false =>
    have HN2 := Lib.hid (HN.out.symm.trans (nextC_no (h := h) (asked_n1 (long := long) (f := f) HR.out)))
    go_enter Try.func24, Try.ntmps24
    go_wp2_with fail
    refine HQ.out.mono ?_
    rintro e w1 ⟨rfl, b1⟩
    have kb := hb0.below b1 hb0.lt
    have bw1 := bw0.trans (b1.mono (Nat.le_of_lt hz0))
    have hz1 : w.heap.size < w1.heap.size := Nat.lt_of_lt_of_le hz0 b1.size
    clear hb0 bw0 hz0 b1
    have c0 := kb.cell 0
    have c1 := kb.cell 1
    have c2 := kb.cell 2
    have c3 := kb.cell 3
    have f0 := kb.frozen 0
    have f1 := kb.frozen 1
    have f2 := kb.frozen 2
    have f3 := kb.frozen 3
    simp only [List.getElem?_toArray, List.getElem?_cons_zero, List.getElem?_cons_succ] at c0 c1 c2 c3
    go_wp2_with fail
    refine bodyPost_ret (v := .tuple #[.agg #[.int .i64 0, .int .i64 0, .int .i64 0, .int .i64 0], .bool false]) (by simp [results, Try.results24, go_sem, c0, c1, c2, c3]) rfl ?_
    rw [HN2.out]
    exact ⟨rfl, set4 bw1 (Nat.le_refl _)⟩
  | true =>
    have hv6 := (callsV_spec HR.out).2
    by_cases h6 : l.length = 6
    · have e6 : ((l.length : Int) == 6) = true := beq_iff_eq.2 (by omega)
      have HN2 := Lib.hid (HN.out.symm.trans (nextC_no (h := h) (asked_n2 (long := long) (f := f) h6)))
      have H6 := Lib.hid h6
      clear h6
      go_enter Try.func24, Try.ntmps24
      go_wp2_with fail
      refine HQ.out.mono ?_
      rintro e w1 ⟨rfl, b1⟩
      have kb := hb0.below b1 hb0.lt
      have bw1 := bw0.trans (b1.mono (Nat.le_of_lt hz0))
      have hz1 : w.heap.size < w1.heap.size := Nat.lt_of_lt_of_le hz0 b1.size
      clear hb0 bw0 hz0 b1
      have c0 := kb.cell 0
      have c1 := kb.cell 1
      have c2 := kb.cell 2
      have c3 := kb.cell 3
      have f0 := kb.frozen 0
      have f1 := kb.frozen 1
      have f2 := kb.frozen 2
      have f3 := kb.frozen 3
      simp only [List.getElem?_toArray, List.getElem?_cons_zero, List.getElem?_cons_succ] at c0 c1 c2 c3
      go_wp2_with fail
      refine bodyPost_ret (v := .tuple #[.agg #[.int .i64 0, .int .i64 0, .int .i64 0, .int .i64 0], .bool false]) (by simp [results, Try.results24, go_sem, c0, c1, c2, c3]) rfl ?_
      rw [HN2.out]
      exact ⟨rfl, set4 bw1 (Nat.le_refl _)⟩
    · have e6 : ((l.length : Int) == 6) = false := beq_eq_false_iff_ne.2 (by omega)
      by_cases hlong : 1 ≤ long ∧ long ≤ 20
      · skip
        by_cases hh : 1 ≤ h ∧ h ≤ 99
        · skip
          by_cases hf : 0 ≤ f ∧ f ≤ 999
          · skip
            have hN := HN.out
            rw [nextC_yes (askedB_yes HR.out h6 hlong hf)] at hN
            have HN2 := Lib.hid hN
            clear hN
            have H6 := Lib.hid h6
            have HALL := Lib.hid (callsV_valid HR.out)
            obtain ⟨g1, g2⟩ := hlong
            obtain ⟨g3, g4⟩ := hf
            clear h6
            go_enter Try.func24, Try.ntmps24
            go_wp2_with fail
            refine HQ.out.mono ?_
            rintro e w1 ⟨rfl, b1⟩
            have kb := hb0.below b1 hb0.lt
            have bw1 := bw0.trans (b1.mono (Nat.le_of_lt hz0))
            have hz1 : w.heap.size < w1.heap.size := Nat.lt_of_lt_of_le hz0 b1.size
            clear hb0 bw0 hz0 b1
            go_wp2_with fail
            refine (within_t _ _ _ _ ⟨g1, g2⟩).mono ?_
            rintro e w' ⟨rfl, rfl⟩
            go_wp2_with fail
            refine (within_t _ _ _ _ hh).mono ?_
            rintro e w' ⟨rfl, rfl⟩
            go_wp2_with fail
            refine (within_t _ _ _ _ ⟨g3, g4⟩).mono ?_
            rintro e w' ⟨rfl, rfl⟩
            go_wp2_with fail
            go_loopw [10] (fun sv wr => ∃ s : Int, f ≤ s ∧ s ≤ 1000 ∧ sv = .int .i64 s ∧ Hid (startFrom l h long (1000 - s).toNat s = N) ∧ Blk wr w.heap.size 25 #[.int .i64 0, .int .i64 0, .int .i64 0, .int .i64 0] ∧ Below w.heap.size w wr) (fun sv _ => (1000 - intOf sv).toNat)
            case atStart => exact ⟨f, Int.le_refl _, by omega, rfl, HN2.out, kb, bw1⟩
            case round =>
              obtain ⟨s, hs1, hs2, rfl, HS, kb, bws⟩ := hrel
              have s0 : 0 ≤ s := by omega
              by_cases hs : s ≤ 999
              · obtain ⟨M, HM⟩ : ∃ M, Hid (atFrom l s h long (21 - long).toNat 0 = M) := ⟨_, rfl⟩
                go_wp2_with fail
                go_loopw [11] (fun av wr => ∃ a : Int, 0 ≤ a ∧ a ≤ 21 - long ∧ av = .int .i64 a ∧ Hid (atFrom l s h long (21 - long - a).toNat a = M) ∧ Blk wr w.heap.size 25 #[.int .i64 0, .int .i64 0, .int .i64 0, .int .i64 0] ∧ Below w.heap.size w wr) (fun av _ => (21 - long - intOf av).toNat)
                case atStart => exact ⟨0, Int.le_refl _, by omega, rfl, by show _ = _; rw [show 21 - long - 0 = 21 - long from by omega]; exact HM.out, kb, bws⟩
                case round =>
                  obtain ⟨a, ha1, ha2, rfl, HA, kb, bwa⟩ := hrel
                  by_cases hat : a ≤ 20 - long
                  · have hat2 : a + long ≤ 20 := by omega
                    have HBX := Lib.hid (Blk.new wr 25 #[.int .i64 s, .int .i64 h, .int .i64 a, .int .i64 long])
                    have HBW := Lib.hid (bwa.alloc bwa.size (.cells #[.int .i64 s, .int .i64 h, .int .i64 a, .int .i64 long] 25))
                    have HKB := Lib.hid (kb.alloc (.cells #[.int .i64 s, .int .i64 h, .int .i64 a, .int .i64 long] 25))
                    obtain ⟨r, HR2⟩ : ∃ r, Hid (freeC l ⟨s, h, a, long⟩ = r) := ⟨_, rfl⟩
                    have HV := Lib.hid (callV_mk ⟨s0, hs⟩ hh ⟨g1, g2⟩ ⟨ha1, hat⟩)
                    have hr : (l.take l.length).any (fun y => clB ⟨s, h, a, long⟩ y) = !r := by
                      have h1 := HR2.out
                      rw [freeC_of HV.out] at h1
                      rw [List.take_length, ← h1]
                      show hits l ⟨s, h, a, long⟩ = _
                      simp
                    have HP := Lib.hid (conF_any 46 _ enters46 _ A l l.length c _ (ha.below HBW.out) (Nat.le_refl _) hl (pred_BerthNext ⟨s, h, a, long⟩ wr.heap.size _ (l.take l.length) HV.out (fun y hy => HALL.out y (List.mem_of_mem_take hy)) HBX.out))
                    rw [hr] at HP
                    clear hr
                    go_wp2_with fail
                    refine HP.out.mono ?_
                    rintro e w2 ⟨rfl, b2⟩
                    have kb2 := HKB.out.below b2 HKB.out.lt
                    have bw2 := HBW.out.trans (b2.mono HBW.out.size)
                    cases r with
                    | true =>
                      have HN3 := Lib.hid (st_hit HS.out hs (HM.out.trans (at_hit HA.out hat HR2.out)))
                      have kx := HBX.out.below b2 HBX.out.lt
                      have x0 := kx.cell 0
                      have x1 := kx.cell 1
                      have x2 := kx.cell 2
                      have x3 := kx.cell 3
                      simp only [List.getElem?_toArray, List.getElem?_cons_zero, List.getElem?_cons_succ] at x0 x1 x2 x3
                      have c0 := kb2.cell 0
                      have c1 := kb2.cell 1
                      have c2 := kb2.cell 2
                      have c3 := kb2.cell 3
                      have f0 := kb2.frozen 0
                      have f1 := kb2.frozen 1
                      have f2 := kb2.frozen 2
                      have f3 := kb2.frozen 3
                      simp only [List.getElem?_toArray, List.getElem?_cons_zero, List.getElem?_cons_succ] at c0 c1 c2 c3
                      clear kx
                      go_wp2_with fail
                      refine bodyPost_ret (v := .tuple #[.agg #[.int .i64 s, .int .i64 h, .int .i64 a, .int .i64 long], .bool true]) (by simp [results, Try.results24, go_sem, c0, c1, c2, c3]) rfl ?_
                      rw [HN3.out]
                      exact ⟨rfl, set4 bw2 (Nat.le_refl _)⟩
                    | false =>
                      go_wp2_with fail
                      exact ⟨⟨a + 1, by omega, by omega, rfl, at_next HA.out hat HR2.out, kb2, bw2⟩, by simp [intOf]; omega⟩
                  · have hat2 : ¬ a + long ≤ 20 := by omega
                    have HM0 := Lib.hid (HM.out.trans (at_end HA.out hat))
                    go_wp2_with fail
                    exact ⟨⟨s + 1, by omega, by omega, rfl, st_next HS.out hs HM0.out, kb, bwa⟩, by simp [intOf]; omega⟩
              · have HN3 := Lib.hid (st_end HS.out hs)
                have c0 := kb.cell 0
                have c1 := kb.cell 1
                have c2 := kb.cell 2
                have c3 := kb.cell 3
                have f0 := kb.frozen 0
                have f1 := kb.frozen 1
                have f2 := kb.frozen 2
                have f3 := kb.frozen 3
                simp only [List.getElem?_toArray, List.getElem?_cons_zero, List.getElem?_cons_succ] at c0 c1 c2 c3
                go_wp2_with fail
                refine bodyPost_ret (v := .tuple #[.agg #[.int .i64 0, .int .i64 0, .int .i64 0, .int .i64 0], .bool false]) (by simp [results, Try.results24, go_sem, c0, c1, c2, c3]) rfl ?_
                rw [HN3.out]
                exact ⟨rfl, set4 bws (Nat.le_refl _)⟩
          · skip
            have HN2 := Lib.hid (HN.out.symm.trans (nextC_no (h := h) (asked_n4 (l := l) (long := long) hf)))
            go_enter Try.func24, Try.ntmps24
            go_wp2_with fail
            refine HQ.out.mono ?_
            rintro e w1 ⟨rfl, b1⟩
            have kb := hb0.below b1 hb0.lt
            have bw1 := bw0.trans (b1.mono (Nat.le_of_lt hz0))
            have hz1 : w.heap.size < w1.heap.size := Nat.lt_of_lt_of_le hz0 b1.size
            clear hb0 bw0 hz0 b1
            have c0 := kb.cell 0
            have c1 := kb.cell 1
            have c2 := kb.cell 2
            have c3 := kb.cell 3
            have f0 := kb.frozen 0
            have f1 := kb.frozen 1
            have f2 := kb.frozen 2
            have f3 := kb.frozen 3
            simp only [List.getElem?_toArray, List.getElem?_cons_zero, List.getElem?_cons_succ] at c0 c1 c2 c3
            go_wp2_with fail
            refine (within_t _ _ _ _ hlong).mono ?_
            rintro e w' ⟨rfl, rfl⟩
            go_wp2_with fail
            refine (within_t _ _ _ _ hh).mono ?_
            rintro e w' ⟨rfl, rfl⟩
            go_wp2_with fail
            refine (within_f _ _ _ _ hf).mono ?_
            rintro e w' ⟨rfl, rfl⟩
            go_wp2_with fail
            refine bodyPost_ret (v := .tuple #[.agg #[.int .i64 0, .int .i64 0, .int .i64 0, .int .i64 0], .bool false]) (by simp [results, Try.results24, go_sem, c0, c1, c2, c3]) rfl ?_
            rw [HN2.out]
            exact ⟨rfl, set4 bw1 (Nat.le_refl _)⟩
        · skip
          have HN2 := Lib.hid (HN.out.symm.trans (nextC_bad (l := l) (long := long) (f := f) hh))
          go_enter Try.func24, Try.ntmps24
          go_wp2_with fail
          refine HQ.out.mono ?_
          rintro e w1 ⟨rfl, b1⟩
          have kb := hb0.below b1 hb0.lt
          have bw1 := bw0.trans (b1.mono (Nat.le_of_lt hz0))
          have hz1 : w.heap.size < w1.heap.size := Nat.lt_of_lt_of_le hz0 b1.size
          clear hb0 bw0 hz0 b1
          have c0 := kb.cell 0
          have c1 := kb.cell 1
          have c2 := kb.cell 2
          have c3 := kb.cell 3
          have f0 := kb.frozen 0
          have f1 := kb.frozen 1
          have f2 := kb.frozen 2
          have f3 := kb.frozen 3
          simp only [List.getElem?_toArray, List.getElem?_cons_zero, List.getElem?_cons_succ] at c0 c1 c2 c3
          go_wp2_with fail
          refine (within_t _ _ _ _ hlong).mono ?_
          rintro e w' ⟨rfl, rfl⟩
          go_wp2_with fail
          refine (within_f _ _ _ _ hh).mono ?_
          rintro e w' ⟨rfl, rfl⟩
          go_wp2_with fail
          refine bodyPost_ret (v := .tuple #[.agg #[.int .i64 0, .int .i64 0, .int .i64 0, .int .i64 0], .bool false]) (by simp [results, Try.results24, go_sem, c0, c1, c2, c3]) rfl ?_
          rw [HN2.out]
          exact ⟨rfl, set4 bw1 (Nat.le_refl _)⟩
      · skip
        have HN2 := Lib.hid (HN.out.symm.trans (nextC_no (h := h) (asked_n3 (l := l) (f := f) hlong)))
        go_enter Try.func24, Try.ntmps24
        go_wp2_with fail
        refine HQ.out.mono ?_
        rintro e w1 ⟨rfl, b1⟩
        have kb := hb0.below b1 hb0.lt
        have bw1 := bw0.trans (b1.mono (Nat.le_of_lt hz0))
        have hz1 : w.heap.size < w1.heap.size := Nat.lt_of_lt_of_le hz0 b1.size
        clear hb0 bw0 hz0 b1
        have c0 := kb.cell 0
        have c1 := kb.cell 1
        have c2 := kb.cell 2
        have c3 := kb.cell 3
        have f0 := kb.frozen 0
        have f1 := kb.frozen 1
        have f2 := kb.frozen 2
        have f3 := kb.frozen 3
        simp only [List.getElem?_toArray, List.getElem?_cons_zero, List.getElem?_cons_succ] at c0 c1 c2 c3
        go_wp2_with fail
        refine (within_f _ _ _ _ hlong).mono ?_
        rintro e w' ⟨rfl, rfl⟩
        go_wp2_with fail
        refine bodyPost_ret (v := .tuple #[.agg #[.int .i64 0, .int .i64 0, .int .i64 0, .int .i64 0], .bool false]) (by simp [results, Try.results24, go_sem, c0, c1, c2, c3]) rfl ?_
        rw [HN2.out]
        exact ⟨rfl, set4 bw1 (Nat.le_refl _)⟩
end Go.Proofs.Ytiejkcjbjjnacaa
