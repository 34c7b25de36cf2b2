/- Ships at a quay: clashes, and lists that are valid: the walks. -/
import Derived.Test.YtiejkcjbjjnacaaBerth
import Derived.Deep.RegionHeld3
namespace Go.Proofs.Ytiejkcjbjjnacaa
open Go.RowKit
set_option linter.unusedVariables false
set_option linter.unusedSimpArgs false

theorem bcell {W w1 : World} (hb : Below W.heap.size W w1) : (∀ b o, b < W.heap.size → w1.cell? ⟨b, o, none⟩ = W.cell? ⟨b, o, none⟩) ∧ (∀ b o, b < W.heap.size → w1.frozen? ⟨b, o, none⟩ = W.frozen? ⟨b, o, none⟩) :=
  ⟨fun b o h => hb.cell (p := ⟨b, o, none⟩) h, fun b o h => hb.frozen (p := ⟨b, o, none⟩) h⟩

theorem clashV_f1 {x y : CallV} (h : callV x = false) : clashV x y = false := by unfold clashV; rw [h]; rfl
theorem clashV_f2 {x y : CallV} (h : callV y = false) : clashV x y = false := by unfold clashV; rw [h]; simp
theorem clashV_t {x y : CallV} (h : callV x = true) (h' : callV y = true) : clashV x y = clB x y := by unfold clashV; rw [h, h']; rfl

set_option maxHeartbeats 1600000 in
theorem clash_impl (x y : CallV) (w : World) :
    Calls Try.prog 17 #[.agg #[.int .i64 x.start, .int .i64 x.hours, .int .i64 x.at_, .int .i64 x.long], .agg #[.int .i64 y.start, .int .i64 y.hours, .int .i64 y.at_, .int .i64 y.long]] w fun e w' => e = .returned (.bool (clashV x y)) ∧ Below w.heap.size w w' := by
  obtain ⟨W, hW⟩ : ∃ W, W = (w.alloc (.cells #[.int .i64 x.start, .int .i64 x.hours, .int .i64 x.at_, .int .i64 x.long] 25)).alloc (.cells #[.int .i64 y.start, .int .i64 y.hours, .int .i64 y.at_, .int .i64 y.long] 25) := ⟨_, rfl⟩
  have hb : Below w.heap.size w W := by rw [hW]; exact ((Below.refl _ _).alloc (Nat.le_refl _) _).alloc (by simp) _
  have bx : Blk W w.heap.size 25 #[.int .i64 x.start, .int .i64 x.hours, .int .i64 x.at_, .int .i64 x.long] := by rw [hW]; exact (Blk.new _ _ _).alloc _
  have by_ : Blk W (w.heap.size + 1) 25 #[.int .i64 y.start, .int .i64 y.hours, .int .i64 y.at_, .int .i64 y.long] := by
    have h := Blk.new (w.alloc (.cells #[.int .i64 x.start, .int .i64 x.hours, .int .i64 x.at_, .int .i64 x.long] 25)) 25 #[.int .i64 y.start, .int .i64 y.hours, .int .i64 y.at_, .int .i64 y.long]
    rw [hW]; simpa using h
  have HB := Lib.hid hb
  have HW := Lib.hid hW
  have HBX := Lib.hid bx
  have HBY := Lib.hid by_
  clear hb hW bx by_
  obtain ⟨r, HR⟩ : ∃ r, Hid (clashV x y = r) := ⟨_, rfl⟩
  rw [HR.out]
  cases hx : callV x
  · have HQ := Lib.hid (cv_is (cv_impl x W) hx)
    have HO := Lib.hid ((clashV_f1 (y := y) hx).symm.trans HR.out)
    clear hx
    rw [HW.out] at HQ HB
    go_enter Try.func17, Try.ntmps17
    go_wp2_with fail
    refine HQ.out.mono ?_
    rintro e w1 ⟨rfl, b1⟩
    go_wp2_with fail
    go_ret
    exact ⟨ret_bool HO.out, HB.out.trans (b1.mono HB.out.size)⟩
  · have HQ := Lib.hid (cv_is (cv_impl x W) hx)
    have HX := Lib.hid hx
    clear hx
    cases hy : callV y
    · have HO := Lib.hid ((clashV_f2 (x := x) hy).symm.trans HR.out)
      have HQ2 := Lib.hid (fun w1 => cv_is (cv_impl y w1) hy)
      clear hy
      rw [HW.out] at HQ HB
      go_enter Try.func17, Try.ntmps17
      go_wp2_with fail
      refine HQ.out.mono ?_
      rintro e w1 ⟨rfl, b1⟩
      rw [← HW.out] at b1 HB
      have ky := HBY.out.below b1 HBY.out.lt
      have y0 := ky.cell 0
      have y1 := ky.cell 1
      have y2 := ky.cell 2
      have y3 := ky.cell 3
      simp at y0 y1 y2 y3
      clear ky
      go_wp2_with fail
      refine (HQ2.out w1).mono ?_
      rintro e w2 ⟨rfl, b2⟩
      go_wp2_with fail
      go_ret
      exact ⟨ret_bool HO.out, (HB.out.trans (b1.mono HB.out.size)).trans (b2.mono (Nat.le_trans HB.out.size b1.size))⟩
    · have HO := Lib.hid ((clashV_t HX.out hy).symm.trans HR.out)
      have HQ2 := Lib.hid (fun w1 => cv_is (cv_impl y w1) hy)
      have HQ3 := Lib.hid (fun w1 => clash_any x y w1 HX.out hy)
      rw [HO.out] at HQ3
      clear hy
      rw [HW.out] at HQ HB
      go_enter Try.func17, Try.ntmps17
      go_wp2_with fail
      refine HQ.out.mono ?_
      rintro e w1 ⟨rfl, b1⟩
      rw [← HW.out] at b1 HB
      have kx := HBX.out.below b1 HBX.out.lt
      have ky := HBY.out.below b1 HBY.out.lt
      have y0 := ky.cell 0
      have y1 := ky.cell 1
      have y2 := ky.cell 2
      have y3 := ky.cell 3
      simp at y0 y1 y2 y3
      go_wp2_with fail
      refine (HQ2.out w1).mono ?_
      rintro e w2 ⟨rfl, b2⟩
      clear y0 y1 y2 y3
      have kx2 := kx.below b2 kx.lt
      have ky2 := ky.below b2 ky.lt
      have x0 := kx2.cell 0
      have x1 := kx2.cell 1
      have x2 := kx2.cell 2
      have x3 := kx2.cell 3
      have y0 := ky2.cell 0
      have y1 := ky2.cell 1
      have y2 := ky2.cell 2
      have y3 := ky2.cell 3
      simp at x0 x1 x2 x3 y0 y1 y2 y3
      clear kx ky kx2 ky2
      go_wp2_with fail
      refine (HQ3.out w2).mono ?_
      rintro e w3 ⟨rfl, b3⟩
      go_wp2_with fail
      go_ret
      exact ⟨rfl, ((HB.out.trans (b1.mono HB.out.size)).trans (b2.mono (Nat.le_trans HB.out.size b1.size))).trans (b3.mono (Nat.le_trans (Nat.le_trans HB.out.size b1.size) b2.size))⟩

theorem clash_is {f : FuncId} {x y : CallV} {w : World} {r : Bool} (h : Calls Try.prog f #[.agg #[.int .i64 x.start, .int .i64 x.hours, .int .i64 x.at_, .int .i64 x.long], .agg #[.int .i64 y.start, .int .i64 y.hours, .int .i64 y.at_, .int .i64 y.long]] w fun e w' => e = .returned (.bool (clashV x y)) ∧ Below w.heap.size w w') (e : clashV x y = r) :
    Calls Try.prog f #[.agg #[.int .i64 x.start, .int .i64 x.hours, .int .i64 x.at_, .int .i64 x.long], .agg #[.int .i64 y.start, .int .i64 y.hours, .int .i64 y.at_, .int .i64 y.long]] w fun e w' => e = .returned (.bool r) ∧ Below w.heap.size w w' := by rw [← e]; exact h

set_option maxHeartbeats 1600000 in
theorem clash_spec (x y : CallV) (w : World) :
    Calls Try.prog 16 #[.agg #[.int .i64 x.start, .int .i64 x.hours, .int .i64 x.at_, .int .i64 x.long], .agg #[.int .i64 y.start, .int .i64 y.hours, .int .i64 y.at_, .int .i64 y.long]] w fun e w' => e = .returned (.bool (clashV x y)) ∧ Below w.heap.size w w' := by
  obtain ⟨W, hW⟩ : ∃ W, W = (w.alloc (.cells #[.int .i64 x.start, .int .i64 x.hours, .int .i64 x.at_, .int .i64 x.long] 25)).alloc (.cells #[.int .i64 y.start, .int .i64 y.hours, .int .i64 y.at_, .int .i64 y.long] 25) := ⟨_, rfl⟩
  have hb : Below w.heap.size w W := by rw [hW]; exact ((Below.refl _ _).alloc (Nat.le_refl _) _).alloc (by simp) _
  have bx : Blk W w.heap.size 25 #[.int .i64 x.start, .int .i64 x.hours, .int .i64 x.at_, .int .i64 x.long] := by rw [hW]; exact (Blk.new _ _ _).alloc _
  have by_ : Blk W (w.heap.size + 1) 25 #[.int .i64 y.start, .int .i64 y.hours, .int .i64 y.at_, .int .i64 y.long] := by
    have h := Blk.new (w.alloc (.cells #[.int .i64 x.start, .int .i64 x.hours, .int .i64 x.at_, .int .i64 x.long] 25)) 25 #[.int .i64 y.start, .int .i64 y.hours, .int .i64 y.at_, .int .i64 y.long]
    rw [hW]; simpa using h
  have HB := Lib.hid hb
  have HW := Lib.hid hW
  have HBX := Lib.hid bx
  have HBY := Lib.hid by_
  clear hb hW bx by_
  obtain ⟨r, HR⟩ : ∃ r, Hid (clashV x y = r) := ⟨_, rfl⟩
  rw [HR.out]
  cases hx : callV x
  · have HQ := Lib.hid (cv_is (cv_spec x W) hx)
    have HO := Lib.hid ((clashV_f1 (y := y) hx).symm.trans HR.out)
    clear hx
    rw [HW.out] at HQ HB
    go_enter Try.func16, Try.ntmps16
    go_wp2_with fail
    refine HQ.out.mono ?_
    rintro e w1 ⟨rfl, b1⟩
    go_wp2_with fail
    go_ret
    exact ⟨ret_bool HO.out, HB.out.trans (b1.mono HB.out.size)⟩
  · have HQ := Lib.hid (cv_is (cv_spec x W) hx)
    have HX := Lib.hid hx
    clear hx
    cases hy : callV y
    · have HO := Lib.hid ((clashV_f2 (x := x) hy).symm.trans HR.out)
      have HQ2 := Lib.hid (fun w1 => cv_is (cv_spec y w1) hy)
      clear hy
      rw [HW.out] at HQ HB
      go_enter Try.func16, Try.ntmps16
      go_wp2_with fail
      refine HQ.out.mono ?_
      rintro e w1 ⟨rfl, b1⟩
      rw [← HW.out] at b1 HB
      have ky := HBY.out.below b1 HBY.out.lt
      have y0 := ky.cell 0
      have y1 := ky.cell 1
      have y2 := ky.cell 2
      have y3 := ky.cell 3
      simp at y0 y1 y2 y3
      clear ky
      go_wp2_with fail
      refine (HQ2.out w1).mono ?_
      rintro e w2 ⟨rfl, b2⟩
      go_wp2_with fail
      go_ret
      exact ⟨ret_bool HO.out, (HB.out.trans (b1.mono HB.out.size)).trans (b2.mono (Nat.le_trans HB.out.size b1.size))⟩
    · have HO := Lib.hid ((clashV_t HX.out hy).symm.trans HR.out)
      have HQ2 := Lib.hid (fun w1 => cv_is (cv_spec y w1) hy)
      obtain ⟨p1, p2, p3, p4, p5, p6, p7, p8⟩ := clash_bd HX.out
      obtain ⟨o1, o2, o3, o4, o5, o6, o7, o8⟩ := clash_bd hy
      have HD : Hid (r = true ↔ x.start < y.start + y.hours ∧ y.start < x.start + x.hours ∧ x.at_ < y.at_ + y.long ∧ y.at_ < x.at_ + x.long) := by show _ ↔ _; rw [← HO.out]; simp [clB]
      clear hy
      rw [HW.out] at HQ HB
      go_enter Try.func16, Try.ntmps16
      go_wp2_with fail
      refine HQ.out.mono ?_
      rintro e w1 ⟨rfl, b1⟩
      rw [← HW.out] at b1 HB
      have kx := HBX.out.below b1 HBX.out.lt
      have ky := HBY.out.below b1 HBY.out.lt
      have y0 := ky.cell 0
      have y1 := ky.cell 1
      have y2 := ky.cell 2
      have y3 := ky.cell 3
      simp at y0 y1 y2 y3
      go_wp2_with fail
      refine (HQ2.out w1).mono ?_
      rintro e w2 ⟨rfl, b2⟩
      clear y0 y1 y2 y3
      have kx2 := kx.below b2 kx.lt
      have ky2 := ky.below b2 ky.lt
      have x0 := kx2.cell 0
      have x1 := kx2.cell 1
      have x2 := kx2.cell 2
      have x3 := kx2.cell 3
      have y0 := ky2.cell 0
      have y1 := ky2.cell 1
      have y2 := ky2.cell 2
      have y3 := ky2.cell 3
      simp at x0 x1 x2 x3 y0 y1 y2 y3
      clear kx ky kx2 ky2
      have hbw := Lib.hid ((HB.out.trans (b1.mono HB.out.size)).trans (b2.mono (Nat.le_trans HB.out.size b1.size)))
      go_wp2_with fail
      all_goals
        go_ret
        exact ⟨ret_bool (by rw [Bool.eq_iff_iff, HD.out]; simp; omega), hbw.out⟩

end Go.Proofs.Ytiejkcjbjjnacaa
