/- What the program's and the reference's functions on ships at a quay compute: single ships and lists. -/
import Derived.Test.YtiejkcjbjjnacaaBerthLaw
import Derived.Deep.LoopGhost
namespace Go.Proofs.Ytiejkcjbjjnacaa
open Go.RowKit
set_option linter.unusedVariables false
set_option linter.unusedSimpArgs false

theorem callV_f1 {s h a l : Int} (x : ¬ (0 ≤ s ∧ s ≤ 999)) : callV ⟨s, h, a, l⟩ = false := by simp [callV]; omega
theorem callV_f2 {s h a l : Int} (x : ¬ (1 ≤ h ∧ h ≤ 99)) : callV ⟨s, h, a, l⟩ = false := by simp [callV]; omega
theorem callV_f3 {s h a l : Int} (x : ¬ (1 ≤ l ∧ l ≤ 20)) : callV ⟨s, h, a, l⟩ = false := by simp [callV]; omega
theorem callV_f4 {s h a l : Int} (x : ¬ (0 ≤ a ∧ a ≤ 20 - l)) : callV ⟨s, h, a, l⟩ = false := by simp [callV]; omega

set_option maxHeartbeats 800000 in
theorem cv_impl (c : CallV) (w : World) :
    Calls Try.prog 15 #[.agg #[.int .i64 c.start, .int .i64 c.hours, .int .i64 c.at_, .int .i64 c.long]] w fun e w' => e = .returned (.bool (callV c)) ∧ Below w.heap.size w w' := by
  obtain ⟨s, h, a, l⟩ := c
  have hb : Below w.heap.size w (w.alloc (.cells #[.int .i64 s, .int .i64 h, .int .i64 a, .int .i64 l] 25)) := (Below.refl _ _).alloc (Nat.le_refl _) _
  by_cases h1 : 0 ≤ s ∧ s ≤ 999
  · by_cases h2 : 1 ≤ h ∧ h ≤ 99
    · by_cases h3 : 1 ≤ l ∧ l ≤ 20
      · have l1 := h3.1
        have l2 := h3.2
        by_cases h4 : 0 ≤ a ∧ a ≤ 20 - l
        · have HV := Lib.hid (callV_mk h1 h2 h3 h4)
          go_enter Try.func15, Try.ntmps15
          go_wp2_with fail
          refine (within_t _ _ _ _ h1).mono ?_
          rintro e w' ⟨rfl, rfl⟩
          go_wp2_with fail
          refine (within_t _ _ _ _ h2).mono ?_
          rintro e w' ⟨rfl, rfl⟩
          go_wp2_with fail
          refine (within_t _ _ _ _ h3).mono ?_
          rintro e w' ⟨rfl, rfl⟩
          go_wp2_with fail
          refine (within_t _ _ _ _ h4).mono ?_
          rintro e w' ⟨rfl, rfl⟩
          go_wp2_with fail
          go_ret
          exact ⟨ret_bool HV.out.symm, hb⟩
        · have HV := Lib.hid (callV_f4 (s := s) (h := h) h4)
          go_enter Try.func15, Try.ntmps15
          go_wp2_with fail
          refine (within_t _ _ _ _ h1).mono ?_
          rintro e w' ⟨rfl, rfl⟩
          go_wp2_with fail
          refine (within_t _ _ _ _ h2).mono ?_
          rintro e w' ⟨rfl, rfl⟩
          go_wp2_with fail
          refine (within_t _ _ _ _ h3).mono ?_
          rintro e w' ⟨rfl, rfl⟩
          go_wp2_with fail
          refine (within_f _ _ _ _ h4).mono ?_
          rintro e w' ⟨rfl, rfl⟩
          go_wp2_with fail
          go_ret
          exact ⟨ret_bool HV.out.symm, hb⟩
      · have HV := Lib.hid (callV_f3 (s := s) (h := h) (a := a) h3)
        go_enter Try.func15, Try.ntmps15
        go_wp2_with fail
        refine (within_t _ _ _ _ h1).mono ?_
        rintro e w' ⟨rfl, rfl⟩
        go_wp2_with fail
        refine (within_t _ _ _ _ h2).mono ?_
        rintro e w' ⟨rfl, rfl⟩
        go_wp2_with fail
        refine (within_f _ _ _ _ h3).mono ?_
        rintro e w' ⟨rfl, rfl⟩
        go_wp2_with fail
        go_ret
        exact ⟨ret_bool HV.out.symm, hb⟩
    · have HV := Lib.hid (callV_f2 (s := s) (a := a) (l := l) h2)
      go_enter Try.func15, Try.ntmps15
      go_wp2_with fail
      refine (within_t _ _ _ _ h1).mono ?_
      rintro e w' ⟨rfl, rfl⟩
      go_wp2_with fail
      refine (within_f _ _ _ _ h2).mono ?_
      rintro e w' ⟨rfl, rfl⟩
      go_wp2_with fail
      go_ret
      exact ⟨ret_bool HV.out.symm, hb⟩
  · have HV := Lib.hid (callV_f1 (h := h) (a := a) (l := l) h1)
    go_enter Try.func15, Try.ntmps15
    go_wp2_with fail
    refine (within_f _ _ _ _ h1).mono ?_
    rintro e w' ⟨rfl, rfl⟩
    go_wp2_with fail
    go_ret
    exact ⟨ret_bool HV.out.symm, hb⟩
set_option maxHeartbeats 800000 in
theorem cv_spec (c : CallV) (w : World) :
    Calls Try.prog 13 #[.agg #[.int .i64 c.start, .int .i64 c.hours, .int .i64 c.at_, .int .i64 c.long]] w fun e w' => e = .returned (.bool (callV c)) ∧ Below w.heap.size w w' := by
  obtain ⟨s, h, a, l⟩ := c
  have hb : Below w.heap.size w (w.alloc (.cells #[.int .i64 s, .int .i64 h, .int .i64 a, .int .i64 l] 25)) := (Below.refl _ _).alloc (Nat.le_refl _) _
  by_cases h1 : 0 ≤ s ∧ s ≤ 999
  · by_cases h2 : 1 ≤ h ∧ h ≤ 99
    · by_cases h3 : 1 ≤ l ∧ l ≤ 20
      · have l1 := h3.1
        have l2 := h3.2
        by_cases h4 : 0 ≤ a ∧ a ≤ 20 - l
        · have HV := Lib.hid (callV_mk h1 h2 h3 h4)
          go_enter Try.func13, Try.ntmps13
          go_wp2_with fail
          refine (l1In_t _ _ _ _ h1).mono ?_
          rintro e w' ⟨rfl, rfl⟩
          go_wp2_with fail
          refine (l1In_t _ _ _ _ h2).mono ?_
          rintro e w' ⟨rfl, rfl⟩
          go_wp2_with fail
          refine (l1In_t _ _ _ _ h3).mono ?_
          rintro e w' ⟨rfl, rfl⟩
          go_wp2_with fail
          refine (l1In_t _ _ _ _ h4).mono ?_
          rintro e w' ⟨rfl, rfl⟩
          go_wp2_with fail
          go_ret
          exact ⟨ret_bool HV.out.symm, hb⟩
        · have HV := Lib.hid (callV_f4 (s := s) (h := h) h4)
          go_enter Try.func13, Try.ntmps13
          go_wp2_with fail
          refine (l1In_t _ _ _ _ h1).mono ?_
          rintro e w' ⟨rfl, rfl⟩
          go_wp2_with fail
          refine (l1In_t _ _ _ _ h2).mono ?_
          rintro e w' ⟨rfl, rfl⟩
          go_wp2_with fail
          refine (l1In_t _ _ _ _ h3).mono ?_
          rintro e w' ⟨rfl, rfl⟩
          go_wp2_with fail
          refine (l1In_f _ _ _ _ h4).mono ?_
          rintro e w' ⟨rfl, rfl⟩
          go_wp2_with fail
          go_ret
          exact ⟨ret_bool HV.out.symm, hb⟩
      · have HV := Lib.hid (callV_f3 (s := s) (h := h) (a := a) h3)
        go_enter Try.func13, Try.ntmps13
        go_wp2_with fail
        refine (l1In_t _ _ _ _ h1).mono ?_
        rintro e w' ⟨rfl, rfl⟩
        go_wp2_with fail
        refine (l1In_t _ _ _ _ h2).mono ?_
        rintro e w' ⟨rfl, rfl⟩
        go_wp2_with fail
        refine (l1In_f _ _ _ _ h3).mono ?_
        rintro e w' ⟨rfl, rfl⟩
        go_wp2_with fail
        go_ret
        exact ⟨ret_bool HV.out.symm, hb⟩
    · have HV := Lib.hid (callV_f2 (s := s) (a := a) (l := l) h2)
      go_enter Try.func13, Try.ntmps13
      go_wp2_with fail
      refine (l1In_t _ _ _ _ h1).mono ?_
      rintro e w' ⟨rfl, rfl⟩
      go_wp2_with fail
      refine (l1In_f _ _ _ _ h2).mono ?_
      rintro e w' ⟨rfl, rfl⟩
      go_wp2_with fail
      go_ret
      exact ⟨ret_bool HV.out.symm, hb⟩
  · have HV := Lib.hid (callV_f1 (h := h) (a := a) (l := l) h1)
    go_enter Try.func13, Try.ntmps13
    go_wp2_with fail
    refine (l1In_f _ _ _ _ h1).mono ?_
    rintro e w' ⟨rfl, rfl⟩
    go_wp2_with fail
    go_ret
    exact ⟨ret_bool HV.out.symm, hb⟩
/-- Two valid ships: the sums that are compared stay small. -/
theorem clash_bd {x : CallV} (h : callV x = true) : 0 ≤ x.start ∧ x.start ≤ 999 ∧ 1 ≤ x.hours ∧ x.hours ≤ 99 ∧ 0 ≤ x.at_ ∧ x.at_ ≤ 20 ∧ 1 ≤ x.long ∧ x.long ≤ 20 := by
  have := callV_spec h; omega
set_option maxHeartbeats 800000 in
theorem clash_any (x y : CallV) (w : World) (hx : callV x = true) (hy : callV y = true) :
    Calls Try.prog 42 #[.agg #[.int .i64 x.start, .int .i64 x.hours, .int .i64 x.at_, .int .i64 x.long], .agg #[.int .i64 y.start, .int .i64 y.hours, .int .i64 y.at_, .int .i64 y.long]] w fun e w' => e = .returned (.bool (clB x y)) ∧ Below w.heap.size w w' := by
  obtain ⟨x1, x2, x3, x4, x5, x6, x7, x8⟩ := clash_bd hx
  obtain ⟨y1, y2, y3, y4, y5, y6, y7, y8⟩ := clash_bd hy
  clear hx hy
  obtain ⟨s, h, a, l⟩ := x
  obtain ⟨t, i, b, m⟩ := y
  simp only at x1 x2 x3 x4 x5 x6 x7 x8 y1 y2 y3 y4 y5 y6 y7 y8
  have hb : Below w.heap.size w ((w.alloc (.cells #[.int .i64 s, .int .i64 h, .int .i64 a, .int .i64 l] 25)).alloc (.cells #[.int .i64 t, .int .i64 i, .int .i64 b, .int .i64 m] 25)) := ((Below.refl _ _).alloc (Nat.le_refl _) _).alloc (by simp) _
  obtain ⟨r, HR⟩ : ∃ r, Hid (clB ⟨s, h, a, l⟩ ⟨t, i, b, m⟩ = r) := ⟨_, rfl⟩
  rw [HR.out]
  have HD : Hid (r = true ↔ s < t + i ∧ t < s + h ∧ a < b + m ∧ b < a + l) := by show _ ↔ _; rw [← HR.out]; simp [clB]
  clear HR
  go_enter Try.func42, Try.ntmps42
  go_wp2_with fail
  all_goals
    go_ret
    exact ⟨ret_bool (by rw [Bool.eq_iff_iff, HD.out]; simp; omega), hb⟩

theorem cv_is {f : FuncId} {c : CallV} {w : World} {r : Bool} (h : Calls Try.prog f #[.agg #[.int .i64 c.start, .int .i64 c.hours, .int .i64 c.at_, .int .i64 c.long]] w fun e w' => e = .returned (.bool (callV c)) ∧ Below w.heap.size w w') (e : callV c = r) :
    Calls Try.prog f #[.agg #[.int .i64 c.start, .int .i64 c.hours, .int .i64 c.at_, .int .i64 c.long]] w fun e w' => e = .returned (.bool r) ∧ Below w.heap.size w w' := by rw [← e]; exact h
end Go.Proofs.Ytiejkcjbjjnacaa
