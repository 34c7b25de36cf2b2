/- A ship that is drawn. -/
import Derived.Test.YtphncbnnnickhaaDraw
import Derived.Test.YtphncbnnnickhaaHull
import Derived.Laws.OwnMore
import Derived.Deep.DeepCutAuto
namespace Go.Proofs.Ytphncbnnnickhaa
open Go.RowKit
set_option linter.unusedVariables false
set_option linter.unusedSimpArgs false

theorem drawn_set3 {lo g q p R : Nat} {w W : World} {a b c : Value} (h : Drawn lo g q w W) (hR : w.heap.size ≤ R) (hg : g < w.heap.size) (hq : q ≤ p) : Drawn lo g p w (((W.setCell ⟨R, 0, none⟩ a).setCell ⟨R, 1, none⟩ b).setCell ⟨R, 2, none⟩ c) :=
  (((h.setNew (a := ⟨R, 0, none⟩) hR hg a).setNew (a := ⟨R, 1, none⟩) hR hg b).setNew (a := ⟨R, 2, none⟩) hR hg c).more hq
def DrewHull (lo g p : Nat) (w : World) (e : Ending) (w' : World) : Prop :=
  ∃ h : HullV, e = .returned (.agg #[.int .i64 h.bays, .int .i64 h.rows, .int .i64 h.tiers]) ∧ Drawn lo g (p + 10) w w'

set_option maxHeartbeats 6400000 in
theorem hull_any (lo g p : Nat) (n : Int) (w : World) (h : Rdr w lo g p) (hp : p ≤ 1000000) (hn : 1 ≤ n) (hn2 : n ≤ 1000) :
    Calls Try.prog 58 #[.pointer (some ⟨g, 0, none⟩), .int .i64 n] w (DrewHull lo g p w) := by
  have hg := h.lt
  have kR := Blk.new w 36 #[.int .i64 0, .int .i64 0, .int .i64 0]
  have D := (Drawn.refl h).alloc (.cells #[.int .i64 0, .int .i64 0, .int .i64 0] 36)
  go_enter Try.func58, Try.ntmps58
  go_wp2_with fail
  refine (pick_any lo g _ 4 _ D.rdr (by omega) (by omega) (by omega)).mono ?_
  rintro e w1 ⟨a, a0, a9, rfl, hd2, hs⟩
  have kR := kR.chg hd2.chg (.inr (by omega))
  have D := D.trans hd2
  go_wp2_with fail
  refine (pick_any lo g _ 3 _ D.rdr (by omega) (by omega) (by omega)).mono ?_
  rintro e w3 ⟨b, b0, b9, rfl, hd4, hs⟩
  have kR := kR.chg hd4.chg (.inr (by omega))
  have D := D.trans hd4
  go_wp2_with fail
  refine (pick_any lo g _ 3 _ D.rdr (by omega) (by omega) (by omega)).mono ?_
  rintro e w5 ⟨c, c0, c9, rfl, hd6, hs⟩
  have kR := kR.chg hd6.chg (.inr (by omega))
  have D := D.trans hd6
  have hCs := kR.lt
  have kC := Blk.new w5 36 #[.int .i64 (1 + a), .int .i64 (1 + b), .int .i64 (1 + c)]
  have kR := kR.alloc (.cells #[.int .i64 (1 + a), .int .i64 (1 + b), .int .i64 (1 + c)] 36)
  have D := D.alloc (.cells #[.int .i64 (1 + a), .int .i64 (1 + b), .int .i64 (1 + c)] 36)
  obtain ⟨R, HR⟩ : ∃ R, Hid (w.heap.size = R) := ⟨_, rfl⟩
  obtain ⟨C, HC⟩ : ∃ C, Hid (w5.heap.size = C) := ⟨_, rfl⟩
  have hRC : R < C := by have := HR.out; have := HC.out; omega
  have hgR : g < R := by have := HR.out; omega
  rw [HR.out] at kR
  rw [HC.out] at kC
  obtain ⟨V7, HV7⟩ : ∃ W, Hid (w5.alloc (.cells #[.int .i64 (1 + a), .int .i64 (1 + b), .int .i64 (1 + c)] 36) = W) := ⟨_, rfl⟩
  rw [HV7.out] at kC kR D
  have hRw : w.heap.size ≤ R := by have := HR.out; omega
  go_wp2_with fail
  rw [HV7.out, HR.out, HC.out]
  refine (odd_any lo g _ n _ D.rdr (by omega) (by omega) (by omega)).mono ?_
  rintro e w8 ⟨bo, rfl, hd9, hs⟩
  have kC := kC.chg hd9.chg (.inr (by omega))
  have kR := kR.chg hd9.chg (.inr (by omega))
  have D := D.trans hd9
  cases bo with
  | false =>
    have x0 := kC.cell 0
    have x1 := kC.cell 1
    have x2 := kC.cell 2
    simp only [List.getElem?_toArray, List.getElem?_cons_zero, List.getElem?_cons_succ] at x0 x1 x2
    have c0 := kR.cell 0
    have c1 := kR.cell 1
    have c2 := kR.cell 2
    have f0 := kR.frozen 0
    have f1 := kR.frozen 1
    have f2 := kR.frozen 2
    simp only [List.getElem?_toArray, List.getElem?_cons_zero, List.getElem?_cons_succ] at c0 c1 c2
    have HD := Lib.hid D
    clear kC kR D
    go_wp2_with fail
    refine bodyPost_ret (v := .agg #[.int .i64 (1 + a), .int .i64 (1 + b), .int .i64 (1 + c)]) (by simp [results, Try.results58, go_sem, c0, c1, c2]) rfl ?_
    exact ⟨⟨(1 + a), (1 + b), (1 + c)⟩, rfl, drawn_set3 HD.out hRw hg (by omega)⟩
  | true =>
    go_wp2_with fail
    refine (pick_any lo g _ 3 _ D.rdr (by omega) (by omega) (by omega)).mono ?_
    rintro e w10 ⟨q, q0, q9, rfl, hd11, hs⟩
    have kC := kC.chg hd11.chg (.inr (by omega))
    have kR := kR.chg hd11.chg (.inr (by omega))
    have D := D.trans hd11
    rcases (by omega : q = 0 ∨ q = 1 ∨ q = 2) with rfl | rfl | rfl
    · skip
      go_wp2_with fail
      have kC := kC.alloc (.cells #[.int .i64 0, .int .i64 5] 3)
      have kR := kR.alloc (.cells #[.int .i64 0, .int .i64 5] 3)
      have hgW := D.rdr.lt
      have D := D.alloc (.cells #[.int .i64 0, .int .i64 5] 3)
      refine (pick_any lo g _ 2 _ D.rdr (by omega) (by omega) (by omega)).mono ?_
      rintro e w12 ⟨z, z0, z9, rfl, hd13, hs⟩
      have kC := kC.chg hd13.chg (.inr (by omega))
      have kR := kR.chg hd13.chg (.inr (by omega))
      have D := D.trans hd13
      obtain ⟨v, hv1, hv2, _⟩ := lit2 0 5 z z0 z9
      have cl := lit_cell hd13.chg hv1 hgW
      have HV2 := Lib.hid hv2
      clear hv1 hv2
      have y9 := kC.cell 0
      have f9 := kC.frozen 0
      simp only [List.getElem?_toArray, List.getElem?_cons_zero, List.getElem?_cons_succ] at y9
      go_upto_region 9 with fail
      clear y9 f9 cl
      have hCR : C ≠ R := by omega
      have kC : Blk (w12.setCell ⟨C, 0, none⟩ (.int .i64 v)) C 36 #[.int .i64 v, .int .i64 (1 + b), .int .i64 (1 + c)] := by simpa using kC.set_ 0 (.int .i64 v)
      have kR := kR.far (p := ⟨C, 0, none⟩) (by show R ≠ C; omega) (.int .i64 v)
      have D := D.setNew (a := ⟨C, 0, none⟩) (by show w.heap.size ≤ C; omega) hg (.int .i64 v)
      obtain ⟨V14, HV14⟩ : ∃ W, Hid (w12.setCell ⟨C, 0, none⟩ (.int .i64 v) = W) := ⟨_, rfl⟩
      rw [HV14.out] at kC kR D
      rw [HV14.out]
      have x0 := kC.cell 0
      have x1 := kC.cell 1
      have x2 := kC.cell 2
      simp only [List.getElem?_toArray, List.getElem?_cons_zero, List.getElem?_cons_succ] at x0 x1 x2
      have c0 := kR.cell 0
      have c1 := kR.cell 1
      have c2 := kR.cell 2
      have f0 := kR.frozen 0
      have f1 := kR.frozen 1
      have f2 := kR.frozen 2
      simp only [List.getElem?_toArray, List.getElem?_cons_zero, List.getElem?_cons_succ] at c0 c1 c2
      have HD := Lib.hid D
      clear kC kR D
      go_wp2_with fail
      refine bodyPost_ret (v := .agg #[.int .i64 v, .int .i64 (1 + b), .int .i64 (1 + c)]) (by simp [results, Try.results58, go_sem, c0, c1, c2]) rfl ?_
      exact ⟨⟨v, (1 + b), (1 + c)⟩, rfl, drawn_set3 HD.out hRw hg (by omega)⟩
    · skip
      go_wp2_with fail
      have kC := kC.alloc (.cells #[.int .i64 0, .int .i64 4] 3)
      have kR := kR.alloc (.cells #[.int .i64 0, .int .i64 4] 3)
      have hgW := D.rdr.lt
      have D := D.alloc (.cells #[.int .i64 0, .int .i64 4] 3)
      refine (pick_any lo g _ 2 _ D.rdr (by omega) (by omega) (by omega)).mono ?_
      rintro e w15 ⟨z, z0, z9, rfl, hd16, hs⟩
      have kC := kC.chg hd16.chg (.inr (by omega))
      have kR := kR.chg hd16.chg (.inr (by omega))
      have D := D.trans hd16
      obtain ⟨v, hv1, hv2, _⟩ := lit2 0 4 z z0 z9
      have cl := lit_cell hd16.chg hv1 hgW
      have HV2 := Lib.hid hv2
      clear hv1 hv2
      have y9 := kC.cell 1
      have f9 := kC.frozen 1
      simp only [List.getElem?_toArray, List.getElem?_cons_zero, List.getElem?_cons_succ] at y9
      go_upto_region 9 with fail
      clear y9 f9 cl
      have hCR : C ≠ R := by omega
      have kC : Blk (w15.setCell ⟨C, 1, none⟩ (.int .i64 v)) C 36 #[.int .i64 (1 + a), .int .i64 v, .int .i64 (1 + c)] := by simpa using kC.set_ 1 (.int .i64 v)
      have kR := kR.far (p := ⟨C, 1, none⟩) (by show R ≠ C; omega) (.int .i64 v)
      have D := D.setNew (a := ⟨C, 1, none⟩) (by show w.heap.size ≤ C; omega) hg (.int .i64 v)
      obtain ⟨V17, HV17⟩ : ∃ W, Hid (w15.setCell ⟨C, 1, none⟩ (.int .i64 v) = W) := ⟨_, rfl⟩
      rw [HV17.out] at kC kR D
      rw [HV17.out]
      have x0 := kC.cell 0
      have x1 := kC.cell 1
      have x2 := kC.cell 2
      simp only [List.getElem?_toArray, List.getElem?_cons_zero, List.getElem?_cons_succ] at x0 x1 x2
      have c0 := kR.cell 0
      have c1 := kR.cell 1
      have c2 := kR.cell 2
      have f0 := kR.frozen 0
      have f1 := kR.frozen 1
      have f2 := kR.frozen 2
      simp only [List.getElem?_toArray, List.getElem?_cons_zero, List.getElem?_cons_succ] at c0 c1 c2
      have HD := Lib.hid D
      clear kC kR D
      go_wp2_with fail
      refine bodyPost_ret (v := .agg #[.int .i64 (1 + a), .int .i64 v, .int .i64 (1 + c)]) (by simp [results, Try.results58, go_sem, c0, c1, c2]) rfl ?_
      exact ⟨⟨(1 + a), v, (1 + c)⟩, rfl, drawn_set3 HD.out hRw hg (by omega)⟩
    · skip
      go_wp2_with fail
      have kC := kC.alloc (.cells #[.int .i64 (-1), .int .i64 (4)] 3)
      have kR := kR.alloc (.cells #[.int .i64 (-1), .int .i64 (4)] 3)
      have hgW := D.rdr.lt
      have D := D.alloc (.cells #[.int .i64 (-1), .int .i64 (4)] 3)
      refine (pick_any lo g _ 2 _ D.rdr (by omega) (by omega) (by omega)).mono ?_
      rintro e w18 ⟨z, z0, z9, rfl, hd19, hs⟩
      have kC := kC.chg hd19.chg (.inr (by omega))
      have kR := kR.chg hd19.chg (.inr (by omega))
      have D := D.trans hd19
      obtain ⟨v, hv1, hv2, _⟩ := lit2 (-1) 4 z z0 z9
      have cl := lit_cell hd19.chg hv1 hgW
      have HV2 := Lib.hid hv2
      clear hv1 hv2
      have y9 := kC.cell 2
      have f9 := kC.frozen 2
      simp only [List.getElem?_toArray, List.getElem?_cons_zero, List.getElem?_cons_succ] at y9
      go_upto_region 9 with fail
      clear y9 f9 cl
      have hCR : C ≠ R := by omega
      have kC : Blk (w18.setCell ⟨C, 2, none⟩ (.int .i64 v)) C 36 #[.int .i64 (1 + a), .int .i64 (1 + b), .int .i64 v] := by simpa using kC.set_ 2 (.int .i64 v)
      have kR := kR.far (p := ⟨C, 2, none⟩) (by show R ≠ C; omega) (.int .i64 v)
      have D := D.setNew (a := ⟨C, 2, none⟩) (by show w.heap.size ≤ C; omega) hg (.int .i64 v)
      obtain ⟨V20, HV20⟩ : ∃ W, Hid (w18.setCell ⟨C, 2, none⟩ (.int .i64 v) = W) := ⟨_, rfl⟩
      rw [HV20.out] at kC kR D
      rw [HV20.out]
      have x0 := kC.cell 0
      have x1 := kC.cell 1
      have x2 := kC.cell 2
      simp only [List.getElem?_toArray, List.getElem?_cons_zero, List.getElem?_cons_succ] at x0 x1 x2
      have c0 := kR.cell 0
      have c1 := kR.cell 1
      have c2 := kR.cell 2
      have f0 := kR.frozen 0
      have f1 := kR.frozen 1
      have f2 := kR.frozen 2
      simp only [List.getElem?_toArray, List.getElem?_cons_zero, List.getElem?_cons_succ] at c0 c1 c2
      have HD := Lib.hid D
      clear kC kR D
      go_wp2_with fail
      refine bodyPost_ret (v := .agg #[.int .i64 (1 + a), .int .i64 (1 + b), .int .i64 v]) (by simp [results, Try.results58, go_sem, c0, c1, c2]) rfl ?_
      exact ⟨⟨(1 + a), (1 + b), v⟩, rfl, drawn_set3 HD.out hRw hg (by omega)⟩
end Go.Proofs.Ytphncbnnnickhaa
