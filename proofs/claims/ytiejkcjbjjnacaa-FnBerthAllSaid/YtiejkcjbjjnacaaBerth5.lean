/- The next ship at a quay: the walk of the reference model. -/
import Derived.Test.YtiejkcjbjjnacaaBerth4
namespace Go.Proofs.Ytiejkcjbjjnacaa
open Go.RowKit
set_option linter.unusedVariables false
set_option linter.unusedSimpArgs false

set_option maxHeartbeats 1600000 in
theorem free_any (A : Option Addr) (l : List CallV) (c : Nat) (x : CallV) (w : World) (ha : RdCall w A l) (hl : l.length ≤ 1048576) (hall : ∀ y ∈ l, callV y = true) :
    Calls Try.prog 45 #[.slice A l.length c, .agg #[.int .i64 x.start, .int .i64 x.hours, .int .i64 x.at_, .int .i64 x.long]] w fun e w' => e = .returned (.bool (freeC l x)) ∧ Below w.heap.size w w' := by
  have HALL := Lib.hid hall
  have HBW := Lib.hid ((Below.refl w.heap.size w).alloc (Nat.le_refl _) (.cells #[.int .i64 x.start, .int .i64 x.hours, .int .i64 x.at_, .int .i64 x.long] 25))
  have HBX := Lib.hid (Blk.new w 25 #[.int .i64 x.start, .int .i64 x.hours, .int .i64 x.at_, .int .i64 x.long])
  have HCV := Lib.hid (fun W => cv_spec x W)
  clear hall
  go_enter Try.func45, Try.ntmps45
  go_wp2_with fail
  go_loopw [5] (fun i wr => ∃ k : Nat, k ≤ l.length ∧ i = .int .i64 k ∧ Hid ((l.take k).any (fun y => clashV y x) = false) ∧ Blk wr w.heap.size 25 #[.int .i64 x.start, .int .i64 x.hours, .int .i64 x.at_, .int .i64 x.long] ∧ Below w.heap.size w wr) (fun i _ => l.length - (intOf i).toNat)
  case atStart => exact ⟨0, by omega, rfl, (by simp : _ = _), HBX.out, HBW.out⟩
  case round =>
    obtain ⟨k, hk, rfl, Hk, kx, bwk⟩ := hrel
    have hg := kx.lt
    have hx0 := kx.cell 0
    have hx1 := kx.cell 1
    have hx2 := kx.cell 2
    have hx3 := kx.cell 3
    simp only [List.getElem?_toArray, List.getElem?_cons_zero, List.getElem?_cons_succ] at hx0 hx1 hx2 hx3
    by_cases hlt : k < l.length
    · obtain ⟨b, off, y, rfl, hbb, Hy, hy0, hy1, hy2, hy3⟩ := (ha.below bwk).at_ (k := k) (by omega)
      have q0 : (0 : Int) ≤ (k : Int) := by omega
      have q1 : (k : Int) < (l.length : Int) := by omega
      obtain ⟨r, HR⟩ : ∃ r, Hid (clashV y x = r) := ⟨_, rfl⟩
      have HCY := Lib.hid (fun W => clash_is (clash_spec y x W) HR.out)
      go_wp2_with fail
      go_region_held3 (fun w' => w'.cell? ⟨b, off + k * 4, none⟩ = some (.int .i64 y.start) ∧ w'.cell? ⟨b, off + k * 4 + 1, none⟩ = some (.int .i64 y.hours) ∧ w'.cell? ⟨b, off + k * 4 + 2, none⟩ = some (.int .i64 y.at_) ∧ w'.cell? ⟨b, off + k * 4 + 3, none⟩ = some (.int .i64 y.long) ∧ w'.cell? ⟨w.heap.size, 0, none⟩ = some (.int .i64 x.start) ∧ w'.cell? ⟨w.heap.size, 1, none⟩ = some (.int .i64 x.hours) ∧ w'.cell? ⟨w.heap.size, 2, none⟩ = some (.int .i64 x.at_) ∧ w'.cell? ⟨w.heap.size, 3, none⟩ = some (.int .i64 x.long)) (first | exact ⟨(b2.cell (p := ⟨b, off + k * 4, none⟩) hbb).trans hy0, (b2.cell (p := ⟨b, off + k * 4 + 1, none⟩) hbb).trans hy1, (b2.cell (p := ⟨b, off + k * 4 + 2, none⟩) hbb).trans hy2, (b2.cell (p := ⟨b, off + k * 4 + 3, none⟩) hbb).trans hy3, (b2.cell (p := ⟨w.heap.size, 0, none⟩) hg).trans hx0, (b2.cell (p := ⟨w.heap.size, 1, none⟩) hg).trans hx1, (b2.cell (p := ⟨w.heap.size, 2, none⟩) hg).trans hx2, (b2.cell (p := ⟨w.heap.size, 3, none⟩) hg).trans hx3⟩ | go_keep) (first | (go_at_call 16; refine (HCY.out _).mono ?_; rintro e w2 ⟨rfl, b2⟩))
      have bw2 : Below w.heap.size w w2 := (below_drewN bwk _).trans (b2.mono (below_drewN bwk _).size)
      have kx2 := kx.below (w' := w2) (B := wr.heap.size) ((below_drewN (Below.refl _ wr) _).trans b2) hg
      clear hx0 hx1 hx2 hx3 hy0 hy1 hy2 hy3 kx
      cases r with
      | true =>
        have HF : Hid (freeC l x = false) := free_hit HALL.out (by have h := any_hit (p := fun y => clashV y x) Hy.out hlt HR.out; rwa [List.take_length] at h)
        go_wp2_with fail
        go_ret
        exact ⟨ret_bool HF.out.symm, bw2⟩
      | false =>
        go_wp2_with fail
        exact ⟨⟨k + 1, by omega, by go_num, by show _ = _; rw [any_next Hy.out, Hk.out, HR.out]; rfl, kx2, bw2⟩, by simp [intOf]; omega⟩
    · obtain rfl : k = l.length := by omega
      have HE : Hid (freeC l x = callV x) := free_end HALL.out (by have h := Hk.out; rwa [List.take_length] at h)
      go_wp2_with fail
      refine (HCV.out _).mono ?_
      rintro e w2 ⟨rfl, b2⟩
      go_wp2_with fail
      go_ret
      exact ⟨ret_bool HE.out.symm, bwk.trans (b2.mono bwk.size)⟩

set_option maxHeartbeats 3200000 in
theorem bn_spec (A : Option Addr) (l : List CallV) (c : Nat) (long h f : Int) (w : World) (ha : RdCall w A l) (hl : l.length ≤ 1048576) :
    Calls Try.prog 23 #[.slice A l.length c, .int .i64 long, .int .i64 h, .int .i64 f] w (NextPost (nextC l long h f) w) := by
  have hz0 : w.heap.size < (w.alloc (.cells #[.int .i64 0, .int .i64 0, .int .i64 0, .int .i64 0] 25)).heap.size := by simp
  have bw0 : Below w.heap.size w (w.alloc (.cells #[.int .i64 0, .int .i64 0, .int .i64 0, .int .i64 0] 25)) := (Below.refl _ _).alloc (Nat.le_refl _) _
  have ha0 := ha.alloc (.cells #[.int .i64 0, .int .i64 0, .int .i64 0, .int .i64 0] 25)
  have hb0 := Blk.new w 25 #[.int .i64 0, .int .i64 0, .int .i64 0, .int .i64 0]
  obtain ⟨r, HR⟩ : ∃ r, Hid (callsV l = r) := ⟨_, rfl⟩
  have HQ := Lib.hid (csv_is (csv_spec A l c _ ha0 hl) HR.out)
  obtain ⟨N, HN⟩ : ∃ N, Hid (nextC l long h f = N) := ⟨_, rfl⟩
  rw [HN.out]
  clear ha0
  cases r with
  | false =>
    have HN2 := Lib.hid (HN.out.symm.trans (nextC_no (h := h) (asked_n1 (long := long) (f := f) HR.out)))
    go_enter Try.func23, Try.ntmps23
    go_wp2_with fail
    refine HQ.out.mono ?_
    rintro e w1 ⟨rfl, b1⟩
    have kb := hb0.below b1 hb0.lt
    have bw1 := bw0.trans (b1.mono (Nat.le_of_lt hz0))
    have hz1 : w.heap.size < w1.heap.size := Nat.lt_of_lt_of_le hz0 b1.size
    clear hb0 bw0 hz0 b1
    have c0 := kb.cell 0
    have c1 := kb.cell 1
    have c2 := kb.cell 2
    have c3 := kb.cell 3
    have f0 := kb.frozen 0
    have f1 := kb.frozen 1
    have f2 := kb.frozen 2
    have f3 := kb.frozen 3
    simp only [List.getElem?_toArray, List.getElem?_cons_zero, List.getElem?_cons_succ] at c0 c1 c2 c3
    go_wp2_with fail
    refine bodyPost_ret (v := .tuple #[.agg #[.int .i64 0, .int .i64 0, .int .i64 0, .int .i64 0], .bool false]) (by simp [results, Try.results23, go_sem, c0, c1, c2, c3]) rfl ?_
    rw [HN2.out]
    exact ⟨rfl, set4 bw1 (Nat.le_refl _)⟩
  | true =>
    have hv6 := (callsV_spec HR.out).2
    by_cases h6 : l.length = 6
    · have e6 : ((l.length : Int) == 6) = true := beq_iff_eq.2 (by omega)
      have HN2 := Lib.hid (HN.out.symm.trans (nextC_no (h := h) (asked_n2 (long := long) (f := f) h6)))
      have H6 := Lib.hid h6
      clear h6
      go_enter Try.func23, Try.ntmps23
      go_wp2_with fail
      refine HQ.out.mono ?_
      rintro e w1 ⟨rfl, b1⟩
      have kb := hb0.below b1 hb0.lt
      have bw1 := bw0.trans (b1.mono (Nat.le_of_lt hz0))
      have hz1 : w.heap.size < w1.heap.size := Nat.lt_of_lt_of_le hz0 b1.size
      clear hb0 bw0 hz0 b1
      have c0 := kb.cell 0
      have c1 := kb.cell 1
      have c2 := kb.cell 2
      have c3 := kb.cell 3
      have f0 := kb.frozen 0
      have f1 := kb.frozen 1
      have f2 := kb.frozen 2
      have f3 := kb.frozen 3
      simp only [List.getElem?_toArray, List.getElem?_cons_zero, List.getElem?_cons_succ] at c0 c1 c2 c3
      go_wp2_with fail
      refine bodyPost_ret (v := .tuple #[.agg #[.int .i64 0, .int .i64 0, .int .i64 0, .int .i64 0], .bool false]) (by simp [results, Try.results23, go_sem, c0, c1, c2, c3]) rfl ?_
      rw [HN2.out]
      exact ⟨rfl, set4 bw1 (Nat.le_refl _)⟩
    · have e6 : ((l.length : Int) == 6) = false := beq_eq_false_iff_ne.2 (by omega)
      by_cases hlong : 1 ≤ long ∧ long ≤ 20
      · skip
        by_cases hf : 0 ≤ f ∧ f ≤ 999
        · skip
          have hN := HN.out
          rw [nextC_yes (askedB_yes HR.out h6 hlong hf)] at hN
          have HN2 := Lib.hid hN
          clear hN
          have H6 := Lib.hid h6
          have HALL := Lib.hid (callsV_valid HR.out)
          obtain ⟨g1, g2⟩ := hlong
          obtain ⟨g3, g4⟩ := hf
          clear h6
          go_enter Try.func23, Try.ntmps23
          go_wp2_with fail
          refine HQ.out.mono ?_
          rintro e w1 ⟨rfl, b1⟩
          have kb := hb0.below b1 hb0.lt
          have bw1 := bw0.trans (b1.mono (Nat.le_of_lt hz0))
          have hz1 : w.heap.size < w1.heap.size := Nat.lt_of_lt_of_le hz0 b1.size
          clear hb0 bw0 hz0 b1
          go_wp2_with fail
          refine (l1In_t _ _ _ _ ⟨g1, g2⟩).mono ?_
          rintro e w' ⟨rfl, rfl⟩
          go_wp2_with fail
          refine (l1In_t _ _ _ _ ⟨g3, g4⟩).mono ?_
          rintro e w' ⟨rfl, rfl⟩
          go_wp2_with fail
          go_loopw [10] (fun sv wr => ∃ s : Int, f ≤ s ∧ s ≤ 1000 ∧ sv = .int .i64 s ∧ Hid (startFrom l h long (1000 - s).toNat s = N) ∧ Blk wr w.heap.size 25 #[.int .i64 0, .int .i64 0, .int .i64 0, .int .i64 0] ∧ Below w.heap.size w wr) (fun sv _ => (1000 - intOf sv).toNat)
          case atStart => exact ⟨f, Int.le_refl _, by omega, rfl, HN2.out, kb, bw1⟩
          case round =>
            obtain ⟨s, hs1, hs2, rfl, HS, kb, bws⟩ := hrel
            have s0 : 0 ≤ s := by omega
            by_cases hs : s ≤ 999
            · obtain ⟨M, HM⟩ : ∃ M, Hid (atFrom l s h long (21 - long).toNat 0 = M) := ⟨_, rfl⟩
              go_wp2_with fail
              go_loopw [11] (fun av wr => ∃ a : Int, 0 ≤ a ∧ a ≤ 21 - long ∧ av = .int .i64 a ∧ Hid (atFrom l s h long (21 - long - a).toNat a = M) ∧ Blk wr w.heap.size 25 #[.int .i64 0, .int .i64 0, .int .i64 0, .int .i64 0] ∧ Below w.heap.size w wr) (fun av _ => (21 - long - intOf av).toNat)
              case atStart => exact ⟨0, Int.le_refl _, by omega, rfl, by show _ = _; rw [show 21 - long - 0 = 21 - long from by omega]; exact HM.out, kb, bws⟩
              case round =>
                obtain ⟨a, ha1, ha2, rfl, HA, kb, bwa⟩ := hrel
                by_cases hat : a ≤ 20 - long
                · have hat2 : a + long ≤ 20 := by omega
                  have HBX := Lib.hid (Blk.new wr 25 #[.int .i64 s, .int .i64 h, .int .i64 a, .int .i64 long])
                  have HBW := Lib.hid (bwa.alloc bwa.size (.cells #[.int .i64 s, .int .i64 h, .int .i64 a, .int .i64 long] 25))
                  have HKB := Lib.hid (kb.alloc (.cells #[.int .i64 s, .int .i64 h, .int .i64 a, .int .i64 long] 25))
                  obtain ⟨r, HR2⟩ : ∃ r, Hid (freeC l ⟨s, h, a, long⟩ = r) := ⟨_, rfl⟩
                  have HP := Lib.hid (csv_is (free_any A l c ⟨s, h, a, long⟩ _ (ha.below HBW.out) hl HALL.out) HR2.out)
                  go_wp2_with fail
                  refine HP.out.mono ?_
                  rintro e w2 ⟨rfl, b2⟩
                  have kb2 := HKB.out.below b2 HKB.out.lt
                  have bw2 := HBW.out.trans (b2.mono HBW.out.size)
                  cases r with
                  | true =>
                    have HN3 := Lib.hid (st_hit HS.out hs (HM.out.trans (at_hit HA.out hat HR2.out)))
                    have kx := HBX.out.below b2 HBX.out.lt
                    have x0 := kx.cell 0
                    have x1 := kx.cell 1
                    have x2 := kx.cell 2
                    have x3 := kx.cell 3
                    simp only [List.getElem?_toArray, List.getElem?_cons_zero, List.getElem?_cons_succ] at x0 x1 x2 x3
                    have c0 := kb2.cell 0
                    have c1 := kb2.cell 1
                    have c2 := kb2.cell 2
                    have c3 := kb2.cell 3
                    have f0 := kb2.frozen 0
                    have f1 := kb2.frozen 1
                    have f2 := kb2.frozen 2
                    have f3 := kb2.frozen 3
                    simp only [List.getElem?_toArray, List.getElem?_cons_zero, List.getElem?_cons_succ] at c0 c1 c2 c3
                    clear kx
                    go_wp2_with fail
                    refine bodyPost_ret (v := .tuple #[.agg #[.int .i64 s, .int .i64 h, .int .i64 a, .int .i64 long], .bool true]) (by simp [results, Try.results23, go_sem, c0, c1, c2, c3]) rfl ?_
                    rw [HN3.out]
                    exact ⟨rfl, set4 bw2 (Nat.le_refl _)⟩
                  | false =>
                    go_wp2_with fail
                    exact ⟨⟨a + 1, by omega, by omega, rfl, at_next HA.out hat HR2.out, kb2, bw2⟩, by simp [intOf]; omega⟩
                · have hat2 : ¬ a + long ≤ 20 := by omega
                  have HM0 := Lib.hid (HM.out.trans (at_end HA.out hat))
                  go_wp2_with fail
                  exact ⟨⟨s + 1, by omega, by omega, rfl, st_next HS.out hs HM0.out, kb, bwa⟩, by simp [intOf]; omega⟩
            · have HN3 := Lib.hid (st_end HS.out hs)
              have c0 := kb.cell 0
              have c1 := kb.cell 1
              have c2 := kb.cell 2
              have c3 := kb.cell 3
              have f0 := kb.frozen 0
              have f1 := kb.frozen 1
              have f2 := kb.frozen 2
              have f3 := kb.frozen 3
              simp only [List.getElem?_toArray, List.getElem?_cons_zero, List.getElem?_cons_succ] at c0 c1 c2 c3
              go_wp2_with fail
              refine bodyPost_ret (v := .tuple #[.agg #[.int .i64 0, .int .i64 0, .int .i64 0, .int .i64 0], .bool false]) (by simp [results, Try.results23, go_sem, c0, c1, c2, c3]) rfl ?_
              rw [HN3.out]
              exact ⟨rfl, set4 bws (Nat.le_refl _)⟩
        · skip
          have HN2 := Lib.hid (HN.out.symm.trans (nextC_no (h := h) (asked_n4 (l := l) (long := long) hf)))
          go_enter Try.func23, Try.ntmps23
          go_wp2_with fail
          refine HQ.out.mono ?_
          rintro e w1 ⟨rfl, b1⟩
          have kb := hb0.below b1 hb0.lt
          have bw1 := bw0.trans (b1.mono (Nat.le_of_lt hz0))
          have hz1 : w.heap.size < w1.heap.size := Nat.lt_of_lt_of_le hz0 b1.size
          clear hb0 bw0 hz0 b1
          have c0 := kb.cell 0
          have c1 := kb.cell 1
          have c2 := kb.cell 2
          have c3 := kb.cell 3
          have f0 := kb.frozen 0
          have f1 := kb.frozen 1
          have f2 := kb.frozen 2
          have f3 := kb.frozen 3
          simp only [List.getElem?_toArray, List.getElem?_cons_zero, List.getElem?_cons_succ] at c0 c1 c2 c3
          go_wp2_with fail
          refine (l1In_t _ _ _ _ hlong).mono ?_
          rintro e w' ⟨rfl, rfl⟩
          go_wp2_with fail
          refine (l1In_f _ _ _ _ hf).mono ?_
          rintro e w' ⟨rfl, rfl⟩
          go_wp2_with fail
          refine bodyPost_ret (v := .tuple #[.agg #[.int .i64 0, .int .i64 0, .int .i64 0, .int .i64 0], .bool false]) (by simp [results, Try.results23, go_sem, c0, c1, c2, c3]) rfl ?_
          rw [HN2.out]
          exact ⟨rfl, set4 bw1 (Nat.le_refl _)⟩
      · skip
        have HN2 := Lib.hid (HN.out.symm.trans (nextC_no (h := h) (asked_n3 (l := l) (f := f) hlong)))
        go_enter Try.func23, Try.ntmps23
        go_wp2_with fail
        refine HQ.out.mono ?_
        rintro e w1 ⟨rfl, b1⟩
        have kb := hb0.below b1 hb0.lt
        have bw1 := bw0.trans (b1.mono (Nat.le_of_lt hz0))
        have hz1 : w.heap.size < w1.heap.size := Nat.lt_of_lt_of_le hz0 b1.size
        clear hb0 bw0 hz0 b1
        have c0 := kb.cell 0
        have c1 := kb.cell 1
        have c2 := kb.cell 2
        have c3 := kb.cell 3
        have f0 := kb.frozen 0
        have f1 := kb.frozen 1
        have f2 := kb.frozen 2
        have f3 := kb.frozen 3
        simp only [List.getElem?_toArray, List.getElem?_cons_zero, List.getElem?_cons_succ] at c0 c1 c2 c3
        go_wp2_with fail
        refine (l1In_f _ _ _ _ hlong).mono ?_
        rintro e w' ⟨rfl, rfl⟩
        go_wp2_with fail
        refine bodyPost_ret (v := .tuple #[.agg #[.int .i64 0, .int .i64 0, .int .i64 0, .int .i64 0], .bool false]) (by simp [results, Try.results23, go_sem, c0, c1, c2, c3]) rfl ?_
        rw [HN2.out]
        exact ⟨rfl, set4 bw1 (Nat.le_refl _)⟩
end Go.Proofs.Ytiejkcjbjjnacaa
