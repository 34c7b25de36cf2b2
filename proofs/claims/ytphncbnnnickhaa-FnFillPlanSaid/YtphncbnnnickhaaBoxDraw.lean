/- A box that is drawn, boxes that are drawn. -/
import Derived.Test.YtphncbnnnickhaaDraw
import Derived.Test.YtphncbnnnickhaaFillOrd2
import Derived.Laws.OwnMore
import Derived.Deep.DeepCutAuto
namespace Go.Proofs.Ytphncbnnnickhaa
open Go.RowKit
set_option linter.unusedVariables false
set_option linter.unusedSimpArgs false

set_option maxHeartbeats 400000 in
theorem odd_0 (g : Nat) (w : World) : Calls Try.prog 81 #[.pointer (some ⟨g, 0, none⟩), .int .i64 0] w fun e w' => e = .returned (.bool false) ∧ w = w' := by
  go_enter Try.func81, Try.ntmps81
  go_wp2_with fail
  go_ret
  exact ⟨rfl, rfl⟩
theorem drawn_set5 {lo g q p R : Nat} {w W : World} {a b c d e : Value} (h : Drawn lo g q w W) (hR : w.heap.size ≤ R) (hg : g < w.heap.size) (hq : q ≤ p) : Drawn lo g p w (((((W.setCell ⟨R, 0, none⟩ a).setCell ⟨R, 1, none⟩ b).setCell ⟨R, 2, none⟩ c).setCell ⟨R, 3, none⟩ d).setCell ⟨R, 4, none⟩ e) :=
  (((((h.setNew (a := ⟨R, 0, none⟩) hR hg a).setNew (a := ⟨R, 1, none⟩) hR hg b).setNew (a := ⟨R, 2, none⟩) hR hg c).setNew (a := ⟨R, 3, none⟩) hR hg d).setNew (a := ⟨R, 4, none⟩) hR hg e).more hq
def DrewBox (lo g p : Nat) (w : World) (e : Ending) (w' : World) : Prop :=
  ∃ x : BoxV, e = .returned (.agg #[.int .i64 x.id, .int .i64 x.weight, .int .i64 x.class_, .int .i64 x.port, .bool x.cold]) ∧ Drawn lo g (p + 10) w w'

set_option maxHeartbeats 6400000 in
theorem box_any (lo g p : Nat) (id n : Int) (w : World) (h : Rdr w lo g p) (hp : p ≤ 1000000) (hn : 0 ≤ n) (hn2 : n ≤ 1000) :
    Calls Try.prog 80 #[.pointer (some ⟨g, 0, none⟩), .int .i64 id, .int .i64 n] w (DrewBox lo g p w) := by
  have hg := h.lt
  have kR := Blk.new w 45 #[.int .i64 0, .int .i64 0, .int .i64 0, .int .i64 0, .bool false]
  have D := (Drawn.refl h).alloc (.cells #[.int .i64 0, .int .i64 0, .int .i64 0, .int .i64 0, .bool false] 45)
  go_enter Try.func80, Try.ntmps80
  go_wp2_with fail
  refine (pick_any lo g _ 30 _ D.rdr (by omega) (by omega) (by omega)).mono ?_
  rintro e w1 ⟨a, a0, a9, rfl, hd2, hs⟩
  have kR := kR.chg hd2.chg (.inr (by omega))
  have D := D.trans hd2
  go_wp2_with fail
  refine (pick_any lo g _ 7 _ D.rdr (by omega) (by omega) (by omega)).mono ?_
  rintro e w3 ⟨b, b0, b9, rfl, hd4, hs⟩
  have kR := kR.chg hd4.chg (.inr (by omega))
  have D := D.trans hd4
  go_wp2_with fail
  refine (pick_any lo g _ 4 _ D.rdr (by omega) (by omega) (by omega)).mono ?_
  rintro e w5 ⟨c, c0, c9, rfl, hd6, hs⟩
  have kR := kR.chg hd6.chg (.inr (by omega))
  have D := D.trans hd6
  obtain ⟨co, HCO⟩ : ∃ r, Hid ((c == 0) = r) := ⟨_, rfl⟩
  have tco := HCO.out
  have hCs := kR.lt
  have kC := Blk.new w5 45 #[.int .i64 id, .int .i64 (1 + a), .int .i64 0, .int .i64 b, .bool co]
  have kR := kR.alloc (.cells #[.int .i64 id, .int .i64 (1 + a), .int .i64 0, .int .i64 b, .bool co] 45)
  have D := D.alloc (.cells #[.int .i64 id, .int .i64 (1 + a), .int .i64 0, .int .i64 b, .bool co] 45)
  obtain ⟨R, HR⟩ : ∃ R, Hid (w.heap.size = R) := ⟨_, rfl⟩
  obtain ⟨C, HC⟩ : ∃ C, Hid (w5.heap.size = C) := ⟨_, rfl⟩
  have hRC : R < C := by have := HR.out; have := HC.out; omega
  have hgR : g < R := by have := HR.out; omega
  rw [HR.out] at kR
  rw [HC.out] at kC
  obtain ⟨V7, HV7⟩ : ∃ W, Hid (w5.alloc (.cells #[.int .i64 id, .int .i64 (1 + a), .int .i64 0, .int .i64 b, .bool co] 45) = W) := ⟨_, rfl⟩
  rw [HV7.out] at kC kR D
  have hRw : w.heap.size ≤ R := by have := HR.out; omega
  go_wp2_with fail
  rw [HV7.out, HR.out, HC.out]
  clear tco
  refine (pick_any lo g _ 3 _ D.rdr (by omega) (by omega) (by omega)).mono ?_
  rintro e w8 ⟨d, d0, d9, rfl, hd9, hs⟩
  have kC := kC.chg hd9.chg (.inr (by omega))
  have kR := kR.chg hd9.chg (.inr (by omega))
  have D := D.trans hd9
  by_cases hd0 : d = 0
  · have td : (d == 0) = true := beq_iff_eq.2 hd0
    clear hd0
    go_wp2_with fail
    refine (pick_any lo g _ 4 _ D.rdr (by omega) (by omega) (by omega)).mono ?_
    rintro e w10 ⟨k, k0, k9, rfl, hd11, hs⟩
    have kC := kC.chg hd11.chg (.inr (by omega))
    have kR := kR.chg hd11.chg (.inr (by omega))
    have D := D.trans hd11
    have y9 := kC.cell 2
    have f9 := kC.frozen 2
    simp only [List.getElem?_toArray, List.getElem?_cons_zero, List.getElem?_cons_succ] at y9
    go_wp2_with fail
    clear y9 f9
    have hCR : C ≠ R := by omega
    have kC : Blk (w10.setCell ⟨C, 2, none⟩ (.int .i64 k)) C 45 #[.int .i64 id, .int .i64 (1 + a), .int .i64 k, .int .i64 b, .bool co] := by simpa using kC.set_ 2 (.int .i64 k)
    have kR := kR.far (p := ⟨C, 2, none⟩) (by show R ≠ C; omega) (.int .i64 k)
    have D := D.setNew (a := ⟨C, 2, none⟩) (by show w.heap.size ≤ C; omega) hg (.int .i64 k)
    obtain ⟨V12, HV12⟩ : ∃ W, Hid (w10.setCell ⟨C, 2, none⟩ (.int .i64 k) = W) := ⟨_, rfl⟩
    rw [HV12.out] at kC kR D
    rw [HV12.out]
    by_cases hn0 : n = 0
    · subst hn0
      refine (odd_0 g _).mono ?_
      rintro e w' ⟨rfl, rfl⟩
      have x0 := kC.cell 0
      have x1 := kC.cell 1
      have x2 := kC.cell 2
      have x3 := kC.cell 3
      have x4 := kC.cell 4
      simp only [List.getElem?_toArray, List.getElem?_cons_zero, List.getElem?_cons_succ] at x0 x1 x2 x3 x4
      have c0 := kR.cell 0
      have c1 := kR.cell 1
      have c2 := kR.cell 2
      have c3 := kR.cell 3
      have c4 := kR.cell 4
      have f0 := kR.frozen 0
      have f1 := kR.frozen 1
      have f2 := kR.frozen 2
      have f3 := kR.frozen 3
      have f4 := kR.frozen 4
      simp only [List.getElem?_toArray, List.getElem?_cons_zero, List.getElem?_cons_succ] at c0 c1 c2 c3 c4
      have HD := Lib.hid D
      clear kC kR D
      go_wp2_with fail
      refine bodyPost_ret (v := .agg #[.int .i64 id, .int .i64 (1 + a), .int .i64 k, .int .i64 b, .bool co]) (by simp [results, Try.results80, go_sem, c0, c1, c2, c3, c4]) rfl ?_
      exact ⟨⟨id, (1 + a), k, b, co⟩, rfl, drawn_set5 HD.out hRw hg (by omega)⟩
    · refine (odd_any lo g _ n _ D.rdr (by omega) (by omega) (by omega)).mono ?_
      rintro e w13 ⟨bo, rfl, hd14, hs⟩
      have kC := kC.chg hd14.chg (.inr (by omega))
      have kR := kR.chg hd14.chg (.inr (by omega))
      have D := D.trans hd14
      cases bo with
      | false =>
        have x0 := kC.cell 0
        have x1 := kC.cell 1
        have x2 := kC.cell 2
        have x3 := kC.cell 3
        have x4 := kC.cell 4
        simp only [List.getElem?_toArray, List.getElem?_cons_zero, List.getElem?_cons_succ] at x0 x1 x2 x3 x4
        have c0 := kR.cell 0
        have c1 := kR.cell 1
        have c2 := kR.cell 2
        have c3 := kR.cell 3
        have c4 := kR.cell 4
        have f0 := kR.frozen 0
        have f1 := kR.frozen 1
        have f2 := kR.frozen 2
        have f3 := kR.frozen 3
        have f4 := kR.frozen 4
        simp only [List.getElem?_toArray, List.getElem?_cons_zero, List.getElem?_cons_succ] at c0 c1 c2 c3 c4
        have HD := Lib.hid D
        clear kC kR D
        go_wp2_with fail
        refine bodyPost_ret (v := .agg #[.int .i64 id, .int .i64 (1 + a), .int .i64 k, .int .i64 b, .bool co]) (by simp [results, Try.results80, go_sem, c0, c1, c2, c3, c4]) rfl ?_
        exact ⟨⟨id, (1 + a), k, b, co⟩, rfl, drawn_set5 HD.out hRw hg (by omega)⟩
      | true =>
        go_wp2_with fail
        refine (pick_any lo g _ 4 _ D.rdr (by omega) (by omega) (by omega)).mono ?_
        rintro e w15 ⟨q, q0, q9, rfl, hd16, hs⟩
        have kC := kC.chg hd16.chg (.inr (by omega))
        have kR := kR.chg hd16.chg (.inr (by omega))
        have D := D.trans hd16
        rcases (by omega : q = 0 ∨ q = 1 ∨ q = 2 ∨ q = 3) with rfl | rfl | rfl | rfl
        · skip
          go_wp2_with fail
          have kC := kC.alloc (.cells #[.int .i64 0, .int .i64 1000] 3)
          have kR := kR.alloc (.cells #[.int .i64 0, .int .i64 1000] 3)
          have hgW := D.rdr.lt
          have D := D.alloc (.cells #[.int .i64 0, .int .i64 1000] 3)
          refine (pick_any lo g _ 2 _ D.rdr (by omega) (by omega) (by omega)).mono ?_
          rintro e w17 ⟨z, z0, z9, rfl, hd18, hs⟩
          have kC := kC.chg hd18.chg (.inr (by omega))
          have kR := kR.chg hd18.chg (.inr (by omega))
          have D := D.trans hd18
          obtain ⟨v, hv1, hv2, _⟩ := lit2 0 1000 z z0 z9
          have cl := lit_cell hd18.chg hv1 hgW
          have HV2 := Lib.hid hv2
          clear hv1 hv2
          have y9 := kC.cell 0
          have f9 := kC.frozen 0
          simp only [List.getElem?_toArray, List.getElem?_cons_zero, List.getElem?_cons_succ] at y9
          go_upto_region 13 with fail
          clear y9 f9 cl
          have hCR : C ≠ R := by omega
          have kC : Blk (w17.setCell ⟨C, 0, none⟩ (.int .i64 v)) C 45 #[.int .i64 v, .int .i64 (1 + a), .int .i64 k, .int .i64 b, .bool co] := by simpa using kC.set_ 0 (.int .i64 v)
          have kR := kR.far (p := ⟨C, 0, none⟩) (by show R ≠ C; omega) (.int .i64 v)
          have D := D.setNew (a := ⟨C, 0, none⟩) (by show w.heap.size ≤ C; omega) hg (.int .i64 v)
          obtain ⟨V19, HV19⟩ : ∃ W, Hid (w17.setCell ⟨C, 0, none⟩ (.int .i64 v) = W) := ⟨_, rfl⟩
          rw [HV19.out] at kC kR D
          rw [HV19.out]
          have x0 := kC.cell 0
          have x1 := kC.cell 1
          have x2 := kC.cell 2
          have x3 := kC.cell 3
          have x4 := kC.cell 4
          simp only [List.getElem?_toArray, List.getElem?_cons_zero, List.getElem?_cons_succ] at x0 x1 x2 x3 x4
          have c0 := kR.cell 0
          have c1 := kR.cell 1
          have c2 := kR.cell 2
          have c3 := kR.cell 3
          have c4 := kR.cell 4
          have f0 := kR.frozen 0
          have f1 := kR.frozen 1
          have f2 := kR.frozen 2
          have f3 := kR.frozen 3
          have f4 := kR.frozen 4
          simp only [List.getElem?_toArray, List.getElem?_cons_zero, List.getElem?_cons_succ] at c0 c1 c2 c3 c4
          have HD := Lib.hid D
          clear kC kR D
          go_wp2_with fail
          refine bodyPost_ret (v := .agg #[.int .i64 v, .int .i64 (1 + a), .int .i64 k, .int .i64 b, .bool co]) (by simp [results, Try.results80, go_sem, c0, c1, c2, c3, c4]) rfl ?_
          exact ⟨⟨v, (1 + a), k, b, co⟩, rfl, drawn_set5 HD.out hRw hg (by omega)⟩
        · skip
          go_wp2_with fail
          have kC := kC.alloc (.cells #[.int .i64 0, .int .i64 31] 3)
          have kR := kR.alloc (.cells #[.int .i64 0, .int .i64 31] 3)
          have hgW := D.rdr.lt
          have D := D.alloc (.cells #[.int .i64 0, .int .i64 31] 3)
          refine (pick_any lo g _ 2 _ D.rdr (by omega) (by omega) (by omega)).mono ?_
          rintro e w20 ⟨z, z0, z9, rfl, hd21, hs⟩
          have kC := kC.chg hd21.chg (.inr (by omega))
          have kR := kR.chg hd21.chg (.inr (by omega))
          have D := D.trans hd21
          obtain ⟨v, hv1, hv2, _⟩ := lit2 0 31 z z0 z9
          have cl := lit_cell hd21.chg hv1 hgW
          have HV2 := Lib.hid hv2
          clear hv1 hv2
          have y9 := kC.cell 1
          have f9 := kC.frozen 1
          simp only [List.getElem?_toArray, List.getElem?_cons_zero, List.getElem?_cons_succ] at y9
          go_upto_region 13 with fail
          clear y9 f9 cl
          have hCR : C ≠ R := by omega
          have kC : Blk (w20.setCell ⟨C, 1, none⟩ (.int .i64 v)) C 45 #[.int .i64 id, .int .i64 v, .int .i64 k, .int .i64 b, .bool co] := by simpa using kC.set_ 1 (.int .i64 v)
          have kR := kR.far (p := ⟨C, 1, none⟩) (by show R ≠ C; omega) (.int .i64 v)
          have D := D.setNew (a := ⟨C, 1, none⟩) (by show w.heap.size ≤ C; omega) hg (.int .i64 v)
          obtain ⟨V22, HV22⟩ : ∃ W, Hid (w20.setCell ⟨C, 1, none⟩ (.int .i64 v) = W) := ⟨_, rfl⟩
          rw [HV22.out] at kC kR D
          rw [HV22.out]
          have x0 := kC.cell 0
          have x1 := kC.cell 1
          have x2 := kC.cell 2
          have x3 := kC.cell 3
          have x4 := kC.cell 4
          simp only [List.getElem?_toArray, List.getElem?_cons_zero, List.getElem?_cons_succ] at x0 x1 x2 x3 x4
          have c0 := kR.cell 0
          have c1 := kR.cell 1
          have c2 := kR.cell 2
          have c3 := kR.cell 3
          have c4 := kR.cell 4
          have f0 := kR.frozen 0
          have f1 := kR.frozen 1
          have f2 := kR.frozen 2
          have f3 := kR.frozen 3
          have f4 := kR.frozen 4
          simp only [List.getElem?_toArray, List.getElem?_cons_zero, List.getElem?_cons_succ] at c0 c1 c2 c3 c4
          have HD := Lib.hid D
          clear kC kR D
          go_wp2_with fail
          refine bodyPost_ret (v := .agg #[.int .i64 id, .int .i64 v, .int .i64 k, .int .i64 b, .bool co]) (by simp [results, Try.results80, go_sem, c0, c1, c2, c3, c4]) rfl ?_
          exact ⟨⟨id, v, k, b, co⟩, rfl, drawn_set5 HD.out hRw hg (by omega)⟩
        · skip
          go_wp2_with fail
          have kC := kC.alloc (.cells #[.int .i64 (-1), .int .i64 (4)] 3)
          have kR := kR.alloc (.cells #[.int .i64 (-1), .int .i64 (4)] 3)
          have hgW := D.rdr.lt
          have D := D.alloc (.cells #[.int .i64 (-1), .int .i64 (4)] 3)
          refine (pick_any lo g _ 2 _ D.rdr (by omega) (by omega) (by omega)).mono ?_
          rintro e w23 ⟨z, z0, z9, rfl, hd24, hs⟩
          have kC := kC.chg hd24.chg (.inr (by omega))
          have kR := kR.chg hd24.chg (.inr (by omega))
          have D := D.trans hd24
          obtain ⟨v, hv1, hv2, _⟩ := lit2 (-1) 4 z z0 z9
          have cl := lit_cell hd24.chg hv1 hgW
          have HV2 := Lib.hid hv2
          clear hv1 hv2
          have y9 := kC.cell 2
          have f9 := kC.frozen 2
          simp only [List.getElem?_toArray, List.getElem?_cons_zero, List.getElem?_cons_succ] at y9
          go_upto_region 13 with fail
          clear y9 f9 cl
          have hCR : C ≠ R := by omega
          have kC : Blk (w23.setCell ⟨C, 2, none⟩ (.int .i64 v)) C 45 #[.int .i64 id, .int .i64 (1 + a), .int .i64 v, .int .i64 b, .bool co] := by simpa using kC.set_ 2 (.int .i64 v)
          have kR := kR.far (p := ⟨C, 2, none⟩) (by show R ≠ C; omega) (.int .i64 v)
          have D := D.setNew (a := ⟨C, 2, none⟩) (by show w.heap.size ≤ C; omega) hg (.int .i64 v)
          obtain ⟨V25, HV25⟩ : ∃ W, Hid (w23.setCell ⟨C, 2, none⟩ (.int .i64 v) = W) := ⟨_, rfl⟩
          rw [HV25.out] at kC kR D
          rw [HV25.out]
          have x0 := kC.cell 0
          have x1 := kC.cell 1
          have x2 := kC.cell 2
          have x3 := kC.cell 3
          have x4 := kC.cell 4
          simp only [List.getElem?_toArray, List.getElem?_cons_zero, List.getElem?_cons_succ] at x0 x1 x2 x3 x4
          have c0 := kR.cell 0
          have c1 := kR.cell 1
          have c2 := kR.cell 2
          have c3 := kR.cell 3
          have c4 := kR.cell 4
          have f0 := kR.frozen 0
          have f1 := kR.frozen 1
          have f2 := kR.frozen 2
          have f3 := kR.frozen 3
          have f4 := kR.frozen 4
          simp only [List.getElem?_toArray, List.getElem?_cons_zero, List.getElem?_cons_succ] at c0 c1 c2 c3 c4
          have HD := Lib.hid D
          clear kC kR D
          go_wp2_with fail
          refine bodyPost_ret (v := .agg #[.int .i64 id, .int .i64 (1 + a), .int .i64 v, .int .i64 b, .bool co]) (by simp [results, Try.results80, go_sem, c0, c1, c2, c3, c4]) rfl ?_
          exact ⟨⟨id, (1 + a), v, b, co⟩, rfl, drawn_set5 HD.out hRw hg (by omega)⟩
        · skip
          go_wp2_with fail
          have kC := kC.alloc (.cells #[.int .i64 (-1), .int .i64 (7)] 3)
          have kR := kR.alloc (.cells #[.int .i64 (-1), .int .i64 (7)] 3)
          have hgW := D.rdr.lt
          have D := D.alloc (.cells #[.int .i64 (-1), .int .i64 (7)] 3)
          refine (pick_any lo g _ 2 _ D.rdr (by omega) (by omega) (by omega)).mono ?_
          rintro e w26 ⟨z, z0, z9, rfl, hd27, hs⟩
          have kC := kC.chg hd27.chg (.inr (by omega))
          have kR := kR.chg hd27.chg (.inr (by omega))
          have D := D.trans hd27
          obtain ⟨v, hv1, hv2, _⟩ := lit2 (-1) 7 z z0 z9
          have cl := lit_cell hd27.chg hv1 hgW
          have HV2 := Lib.hid hv2
          clear hv1 hv2
          have y9 := kC.cell 3
          have f9 := kC.frozen 3
          simp only [List.getElem?_toArray, List.getElem?_cons_zero, List.getElem?_cons_succ] at y9
          go_upto_region 13 with fail
          clear y9 f9 cl
          have hCR : C ≠ R := by omega
          have kC : Blk (w26.setCell ⟨C, 3, none⟩ (.int .i64 v)) C 45 #[.int .i64 id, .int .i64 (1 + a), .int .i64 k, .int .i64 v, .bool co] := by simpa using kC.set_ 3 (.int .i64 v)
          have kR := kR.far (p := ⟨C, 3, none⟩) (by show R ≠ C; omega) (.int .i64 v)
          have D := D.setNew (a := ⟨C, 3, none⟩) (by show w.heap.size ≤ C; omega) hg (.int .i64 v)
          obtain ⟨V28, HV28⟩ : ∃ W, Hid (w26.setCell ⟨C, 3, none⟩ (.int .i64 v) = W) := ⟨_, rfl⟩
          rw [HV28.out] at kC kR D
          rw [HV28.out]
          have x0 := kC.cell 0
          have x1 := kC.cell 1
          have x2 := kC.cell 2
          have x3 := kC.cell 3
          have x4 := kC.cell 4
          simp only [List.getElem?_toArray, List.getElem?_cons_zero, List.getElem?_cons_succ] at x0 x1 x2 x3 x4
          have c0 := kR.cell 0
          have c1 := kR.cell 1
          have c2 := kR.cell 2
          have c3 := kR.cell 3
          have c4 := kR.cell 4
          have f0 := kR.frozen 0
          have f1 := kR.frozen 1
          have f2 := kR.frozen 2
          have f3 := kR.frozen 3
          have f4 := kR.frozen 4
          simp only [List.getElem?_toArray, List.getElem?_cons_zero, List.getElem?_cons_succ] at c0 c1 c2 c3 c4
          have HD := Lib.hid D
          clear kC kR D
          go_wp2_with fail
          refine bodyPost_ret (v := .agg #[.int .i64 id, .int .i64 (1 + a), .int .i64 k, .int .i64 v, .bool co]) (by simp [results, Try.results80, go_sem, c0, c1, c2, c3, c4]) rfl ?_
          exact ⟨⟨id, (1 + a), k, v, co⟩, rfl, drawn_set5 HD.out hRw hg (by omega)⟩
  · have td : (d == 0) = false := beq_eq_false_iff_ne.2 hd0
    clear hd0
    go_wp2_with fail
    by_cases hn0 : n = 0
    · subst hn0
      refine (odd_0 g _).mono ?_
      rintro e w' ⟨rfl, rfl⟩
      have x0 := kC.cell 0
      have x1 := kC.cell 1
      have x2 := kC.cell 2
      have x3 := kC.cell 3
      have x4 := kC.cell 4
      simp only [List.getElem?_toArray, List.getElem?_cons_zero, List.getElem?_cons_succ] at x0 x1 x2 x3 x4
      have c0 := kR.cell 0
      have c1 := kR.cell 1
      have c2 := kR.cell 2
      have c3 := kR.cell 3
      have c4 := kR.cell 4
      have f0 := kR.frozen 0
      have f1 := kR.frozen 1
      have f2 := kR.frozen 2
      have f3 := kR.frozen 3
      have f4 := kR.frozen 4
      simp only [List.getElem?_toArray, List.getElem?_cons_zero, List.getElem?_cons_succ] at c0 c1 c2 c3 c4
      have HD := Lib.hid D
      clear kC kR D
      go_wp2_with fail
      refine bodyPost_ret (v := .agg #[.int .i64 id, .int .i64 (1 + a), .int .i64 0, .int .i64 b, .bool co]) (by simp [results, Try.results80, go_sem, c0, c1, c2, c3, c4]) rfl ?_
      exact ⟨⟨id, (1 + a), 0, b, co⟩, rfl, drawn_set5 HD.out hRw hg (by omega)⟩
    · refine (odd_any lo g _ n _ D.rdr (by omega) (by omega) (by omega)).mono ?_
      rintro e w29 ⟨bo, rfl, hd30, hs⟩
      have kC := kC.chg hd30.chg (.inr (by omega))
      have kR := kR.chg hd30.chg (.inr (by omega))
      have D := D.trans hd30
      cases bo with
      | false =>
        have x0 := kC.cell 0
        have x1 := kC.cell 1
        have x2 := kC.cell 2
        have x3 := kC.cell 3
        have x4 := kC.cell 4
        simp only [List.getElem?_toArray, List.getElem?_cons_zero, List.getElem?_cons_succ] at x0 x1 x2 x3 x4
        have c0 := kR.cell 0
        have c1 := kR.cell 1
        have c2 := kR.cell 2
        have c3 := kR.cell 3
        have c4 := kR.cell 4
        have f0 := kR.frozen 0
        have f1 := kR.frozen 1
        have f2 := kR.frozen 2
        have f3 := kR.frozen 3
        have f4 := kR.frozen 4
        simp only [List.getElem?_toArray, List.getElem?_cons_zero, List.getElem?_cons_succ] at c0 c1 c2 c3 c4
        have HD := Lib.hid D
        clear kC kR D
        go_wp2_with fail
        refine bodyPost_ret (v := .agg #[.int .i64 id, .int .i64 (1 + a), .int .i64 0, .int .i64 b, .bool co]) (by simp [results, Try.results80, go_sem, c0, c1, c2, c3, c4]) rfl ?_
        exact ⟨⟨id, (1 + a), 0, b, co⟩, rfl, drawn_set5 HD.out hRw hg (by omega)⟩
      | true =>
        go_wp2_with fail
        refine (pick_any lo g _ 4 _ D.rdr (by omega) (by omega) (by omega)).mono ?_
        rintro e w31 ⟨q, q0, q9, rfl, hd32, hs⟩
        have kC := kC.chg hd32.chg (.inr (by omega))
        have kR := kR.chg hd32.chg (.inr (by omega))
        have D := D.trans hd32
        rcases (by omega : q = 0 ∨ q = 1 ∨ q = 2 ∨ q = 3) with rfl | rfl | rfl | rfl
        · skip
          go_wp2_with fail
          have kC := kC.alloc (.cells #[.int .i64 0, .int .i64 1000] 3)
          have kR := kR.alloc (.cells #[.int .i64 0, .int .i64 1000] 3)
          have hgW := D.rdr.lt
          have D := D.alloc (.cells #[.int .i64 0, .int .i64 1000] 3)
          refine (pick_any lo g _ 2 _ D.rdr (by omega) (by omega) (by omega)).mono ?_
          rintro e w33 ⟨z, z0, z9, rfl, hd34, hs⟩
          have kC := kC.chg hd34.chg (.inr (by omega))
          have kR := kR.chg hd34.chg (.inr (by omega))
          have D := D.trans hd34
          obtain ⟨v, hv1, hv2, _⟩ := lit2 0 1000 z z0 z9
          have cl := lit_cell hd34.chg hv1 hgW
          have HV2 := Lib.hid hv2
          clear hv1 hv2
          have y9 := kC.cell 0
          have f9 := kC.frozen 0
          simp only [List.getElem?_toArray, List.getElem?_cons_zero, List.getElem?_cons_succ] at y9
          go_upto_region 13 with fail
          clear y9 f9 cl
          have hCR : C ≠ R := by omega
          have kC : Blk (w33.setCell ⟨C, 0, none⟩ (.int .i64 v)) C 45 #[.int .i64 v, .int .i64 (1 + a), .int .i64 0, .int .i64 b, .bool co] := by simpa using kC.set_ 0 (.int .i64 v)
          have kR := kR.far (p := ⟨C, 0, none⟩) (by show R ≠ C; omega) (.int .i64 v)
          have D := D.setNew (a := ⟨C, 0, none⟩) (by show w.heap.size ≤ C; omega) hg (.int .i64 v)
          obtain ⟨V35, HV35⟩ : ∃ W, Hid (w33.setCell ⟨C, 0, none⟩ (.int .i64 v) = W) := ⟨_, rfl⟩
          rw [HV35.out] at kC kR D
          rw [HV35.out]
          have x0 := kC.cell 0
          have x1 := kC.cell 1
          have x2 := kC.cell 2
          have x3 := kC.cell 3
          have x4 := kC.cell 4
          simp only [List.getElem?_toArray, List.getElem?_cons_zero, List.getElem?_cons_succ] at x0 x1 x2 x3 x4
          have c0 := kR.cell 0
          have c1 := kR.cell 1
          have c2 := kR.cell 2
          have c3 := kR.cell 3
          have c4 := kR.cell 4
          have f0 := kR.frozen 0
          have f1 := kR.frozen 1
          have f2 := kR.frozen 2
          have f3 := kR.frozen 3
          have f4 := kR.frozen 4
          simp only [List.getElem?_toArray, List.getElem?_cons_zero, List.getElem?_cons_succ] at c0 c1 c2 c3 c4
          have HD := Lib.hid D
          clear kC kR D
          go_wp2_with fail
          refine bodyPost_ret (v := .agg #[.int .i64 v, .int .i64 (1 + a), .int .i64 0, .int .i64 b, .bool co]) (by simp [results, Try.results80, go_sem, c0, c1, c2, c3, c4]) rfl ?_
          exact ⟨⟨v, (1 + a), 0, b, co⟩, rfl, drawn_set5 HD.out hRw hg (by omega)⟩
        · skip
          go_wp2_with fail
          have kC := kC.alloc (.cells #[.int .i64 0, .int .i64 31] 3)
          have kR := kR.alloc (.cells #[.int .i64 0, .int .i64 31] 3)
          have hgW := D.rdr.lt
          have D := D.alloc (.cells #[.int .i64 0, .int .i64 31] 3)
          refine (pick_any lo g _ 2 _ D.rdr (by omega) (by omega) (by omega)).mono ?_
          rintro e w36 ⟨z, z0, z9, rfl, hd37, hs⟩
          have kC := kC.chg hd37.chg (.inr (by omega))
          have kR := kR.chg hd37.chg (.inr (by omega))
          have D := D.trans hd37
          obtain ⟨v, hv1, hv2, _⟩ := lit2 0 31 z z0 z9
          have cl := lit_cell hd37.chg hv1 hgW
          have HV2 := Lib.hid hv2
          clear hv1 hv2
          have y9 := kC.cell 1
          have f9 := kC.frozen 1
          simp only [List.getElem?_toArray, List.getElem?_cons_zero, List.getElem?_cons_succ] at y9
          go_upto_region 13 with fail
          clear y9 f9 cl
          have hCR : C ≠ R := by omega
          have kC : Blk (w36.setCell ⟨C, 1, none⟩ (.int .i64 v)) C 45 #[.int .i64 id, .int .i64 v, .int .i64 0, .int .i64 b, .bool co] := by simpa using kC.set_ 1 (.int .i64 v)
          have kR := kR.far (p := ⟨C, 1, none⟩) (by show R ≠ C; omega) (.int .i64 v)
          have D := D.setNew (a := ⟨C, 1, none⟩) (by show w.heap.size ≤ C; omega) hg (.int .i64 v)
          obtain ⟨V38, HV38⟩ : ∃ W, Hid (w36.setCell ⟨C, 1, none⟩ (.int .i64 v) = W) := ⟨_, rfl⟩
          rw [HV38.out] at kC kR D
          rw [HV38.out]
          have x0 := kC.cell 0
          have x1 := kC.cell 1
          have x2 := kC.cell 2
          have x3 := kC.cell 3
          have x4 := kC.cell 4
          simp only [List.getElem?_toArray, List.getElem?_cons_zero, List.getElem?_cons_succ] at x0 x1 x2 x3 x4
          have c0 := kR.cell 0
          have c1 := kR.cell 1
          have c2 := kR.cell 2
          have c3 := kR.cell 3
          have c4 := kR.cell 4
          have f0 := kR.frozen 0
          have f1 := kR.frozen 1
          have f2 := kR.frozen 2
          have f3 := kR.frozen 3
          have f4 := kR.frozen 4
          simp only [List.getElem?_toArray, List.getElem?_cons_zero, List.getElem?_cons_succ] at c0 c1 c2 c3 c4
          have HD := Lib.hid D
          clear kC kR D
          go_wp2_with fail
          refine bodyPost_ret (v := .agg #[.int .i64 id, .int .i64 v, .int .i64 0, .int .i64 b, .bool co]) (by simp [results, Try.results80, go_sem, c0, c1, c2, c3, c4]) rfl ?_
          exact ⟨⟨id, v, 0, b, co⟩, rfl, drawn_set5 HD.out hRw hg (by omega)⟩
        · skip
          go_wp2_with fail
          have kC := kC.alloc (.cells #[.int .i64 (-1), .int .i64 (4)] 3)
          have kR := kR.alloc (.cells #[.int .i64 (-1), .int .i64 (4)] 3)
          have hgW := D.rdr.lt
          have D := D.alloc (.cells #[.int .i64 (-1), .int .i64 (4)] 3)
          refine (pick_any lo g _ 2 _ D.rdr (by omega) (by omega) (by omega)).mono ?_
          rintro e w39 ⟨z, z0, z9, rfl, hd40, hs⟩
          have kC := kC.chg hd40.chg (.inr (by omega))
          have kR := kR.chg hd40.chg (.inr (by omega))
          have D := D.trans hd40
          obtain ⟨v, hv1, hv2, _⟩ := lit2 (-1) 4 z z0 z9
          have cl := lit_cell hd40.chg hv1 hgW
          have HV2 := Lib.hid hv2
          clear hv1 hv2
          have y9 := kC.cell 2
          have f9 := kC.frozen 2
          simp only [List.getElem?_toArray, List.getElem?_cons_zero, List.getElem?_cons_succ] at y9
          go_upto_region 13 with fail
          clear y9 f9 cl
          have hCR : C ≠ R := by omega
          have kC : Blk (w39.setCell ⟨C, 2, none⟩ (.int .i64 v)) C 45 #[.int .i64 id, .int .i64 (1 + a), .int .i64 v, .int .i64 b, .bool co] := by simpa using kC.set_ 2 (.int .i64 v)
          have kR := kR.far (p := ⟨C, 2, none⟩) (by show R ≠ C; omega) (.int .i64 v)
          have D := D.setNew (a := ⟨C, 2, none⟩) (by show w.heap.size ≤ C; omega) hg (.int .i64 v)
          obtain ⟨V41, HV41⟩ : ∃ W, Hid (w39.setCell ⟨C, 2, none⟩ (.int .i64 v) = W) := ⟨_, rfl⟩
          rw [HV41.out] at kC kR D
          rw [HV41.out]
          have x0 := kC.cell 0
          have x1 := kC.cell 1
          have x2 := kC.cell 2
          have x3 := kC.cell 3
          have x4 := kC.cell 4
          simp only [List.getElem?_toArray, List.getElem?_cons_zero, List.getElem?_cons_succ] at x0 x1 x2 x3 x4
          have c0 := kR.cell 0
          have c1 := kR.cell 1
          have c2 := kR.cell 2
          have c3 := kR.cell 3
          have c4 := kR.cell 4
          have f0 := kR.frozen 0
          have f1 := kR.frozen 1
          have f2 := kR.frozen 2
          have f3 := kR.frozen 3
          have f4 := kR.frozen 4
          simp only [List.getElem?_toArray, List.getElem?_cons_zero, List.getElem?_cons_succ] at c0 c1 c2 c3 c4
          have HD := Lib.hid D
          clear kC kR D
          go_wp2_with fail
          refine bodyPost_ret (v := .agg #[.int .i64 id, .int .i64 (1 + a), .int .i64 v, .int .i64 b, .bool co]) (by simp [results, Try.results80, go_sem, c0, c1, c2, c3, c4]) rfl ?_
          exact ⟨⟨id, (1 + a), v, b, co⟩, rfl, drawn_set5 HD.out hRw hg (by omega)⟩
        · skip
          go_wp2_with fail
          have kC := kC.alloc (.cells #[.int .i64 (-1), .int .i64 (7)] 3)
          have kR := kR.alloc (.cells #[.int .i64 (-1), .int .i64 (7)] 3)
          have hgW := D.rdr.lt
          have D := D.alloc (.cells #[.int .i64 (-1), .int .i64 (7)] 3)
          refine (pick_any lo g _ 2 _ D.rdr (by omega) (by omega) (by omega)).mono ?_
          rintro e w42 ⟨z, z0, z9, rfl, hd43, hs⟩
          have kC := kC.chg hd43.chg (.inr (by omega))
          have kR := kR.chg hd43.chg (.inr (by omega))
          have D := D.trans hd43
          obtain ⟨v, hv1, hv2, _⟩ := lit2 (-1) 7 z z0 z9
          have cl := lit_cell hd43.chg hv1 hgW
          have HV2 := Lib.hid hv2
          clear hv1 hv2
          have y9 := kC.cell 3
          have f9 := kC.frozen 3
          simp only [List.getElem?_toArray, List.getElem?_cons_zero, List.getElem?_cons_succ] at y9
          go_upto_region 13 with fail
          clear y9 f9 cl
          have hCR : C ≠ R := by omega
          have kC : Blk (w42.setCell ⟨C, 3, none⟩ (.int .i64 v)) C 45 #[.int .i64 id, .int .i64 (1 + a), .int .i64 0, .int .i64 v, .bool co] := by simpa using kC.set_ 3 (.int .i64 v)
          have kR := kR.far (p := ⟨C, 3, none⟩) (by show R ≠ C; omega) (.int .i64 v)
          have D := D.setNew (a := ⟨C, 3, none⟩) (by show w.heap.size ≤ C; omega) hg (.int .i64 v)
          obtain ⟨V44, HV44⟩ : ∃ W, Hid (w42.setCell ⟨C, 3, none⟩ (.int .i64 v) = W) := ⟨_, rfl⟩
          rw [HV44.out] at kC kR D
          rw [HV44.out]
          have x0 := kC.cell 0
          have x1 := kC.cell 1
          have x2 := kC.cell 2
          have x3 := kC.cell 3
          have x4 := kC.cell 4
          simp only [List.getElem?_toArray, List.getElem?_cons_zero, List.getElem?_cons_succ] at x0 x1 x2 x3 x4
          have c0 := kR.cell 0
          have c1 := kR.cell 1
          have c2 := kR.cell 2
          have c3 := kR.cell 3
          have c4 := kR.cell 4
          have f0 := kR.frozen 0
          have f1 := kR.frozen 1
          have f2 := kR.frozen 2
          have f3 := kR.frozen 3
          have f4 := kR.frozen 4
          simp only [List.getElem?_toArray, List.getElem?_cons_zero, List.getElem?_cons_succ] at c0 c1 c2 c3 c4
          have HD := Lib.hid D
          clear kC kR D
          go_wp2_with fail
          refine bodyPost_ret (v := .agg #[.int .i64 id, .int .i64 (1 + a), .int .i64 0, .int .i64 v, .bool co]) (by simp [results, Try.results80, go_sem, c0, c1, c2, c3, c4]) rfl ?_
          exact ⟨⟨id, (1 + a), 0, v, co⟩, rfl, drawn_set5 HD.out hRw hg (by omega)⟩
end Go.Proofs.Ytphncbnnnickhaa
