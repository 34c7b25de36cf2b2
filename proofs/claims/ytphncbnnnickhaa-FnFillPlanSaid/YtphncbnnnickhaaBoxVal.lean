/- Boxes: BoxValid and BoxesValid. -/
import Derived.Test.YtphncbnnnickhaaBoxes
import Derived.BigQuiet
import Derived.Deep.QuietTactic
namespace Go.Proofs.Ytphncbnnnickhaa
open Go.RowKit Go.Shelf
set_option linter.unusedVariables false
set_option linter.unusedSimpArgs false

def boxOk (x : BoxV) : Prop := (1 ≤ x.id ∧ x.id ≤ 999) ∧ (1 ≤ x.weight ∧ x.weight ≤ 30) ∧ (0 ≤ x.class_ ∧ x.class_ ≤ 3) ∧ (0 ≤ x.port ∧ x.port ≤ 6)
instance (x : BoxV) : Decidable (boxOk x) := by unfold boxOk; infer_instance
theorem isId_t (n : Int) (w : World) (h : 1 ≤ n ∧ n ≤ 999) : Calls Try.prog 92 #[.int .i64 n] w fun e w' => e = .returned (.bool true) ∧ w = w' := by
  have HQ := Lib.hid (within_t n 1 999 w h)
  clear h
  go_enter Try.func92, Try.ntmps92
  go_wp2_with fail
  refine HQ.out.mono ?_
  rintro e w1 ⟨rfl, rfl⟩
  go_wp2_with fail
  go_ret
  exact ⟨rfl, rfl⟩
theorem isId_f (n : Int) (w : World) (h : ¬ (1 ≤ n ∧ n ≤ 999)) : Calls Try.prog 92 #[.int .i64 n] w fun e w' => e = .returned (.bool false) ∧ w = w' := by
  have HQ := Lib.hid (within_f n 1 999 w h)
  clear h
  go_enter Try.func92, Try.ntmps92
  go_wp2_with fail
  refine HQ.out.mono ?_
  rintro e w1 ⟨rfl, rfl⟩
  go_wp2_with fail
  go_ret
  exact ⟨rfl, rfl⟩

set_option maxHeartbeats 800000 in
theorem bv_one (x : BoxV) (w : World) :
    Calls Try.prog 70 #[.agg #[.int .i64 x.id, .int .i64 x.weight, .int .i64 x.class_, .int .i64 x.port, .bool x.cold]] w fun e w' => e = .returned (.bool (decide (boxOk x))) ∧ Below w.heap.size w w' := by
  by_cases h0 : 1 ≤ x.id ∧ x.id ≤ 999
  · by_cases h1 : 1 ≤ x.weight ∧ x.weight ≤ 30
    · by_cases h2 : 0 ≤ x.class_ ∧ x.class_ ≤ 3
      · by_cases h3 : 0 ≤ x.port ∧ x.port ≤ 6
        · have T0 := Lib.hid (fun W => isId_t x.id W h0)
          have T1 := Lib.hid (fun W => within_t x.weight 1 30 W h1)
          have T2 := Lib.hid (fun W => within_t x.class_ 0 3 W h2)
          have T3 := Lib.hid (fun W => within_t x.port 0 6 W h3)
          have HD : Hid (decide (boxOk x) = true) := decide_eq_true ⟨h0, h1, h2, h3⟩
          clear h0 h1 h2 h3
          rw [HD.out]
          go_enter Try.func70, Try.ntmps70
          go_wp2_with fail
          refine (T0.out _).mono ?_
          rintro e w0 ⟨rfl, rfl⟩
          go_wp2_with fail
          refine (T1.out _).mono ?_
          rintro e w1 ⟨rfl, rfl⟩
          go_wp2_with fail
          refine (T2.out _).mono ?_
          rintro e w2 ⟨rfl, rfl⟩
          go_wp2_with fail
          refine (T3.out _).mono ?_
          rintro e w3 ⟨rfl, rfl⟩
          go_wp2_with fail
          go_ret
          exact ⟨rfl, (Below.refl _ _).alloc (Nat.le_refl _) _⟩
        · have T0 := Lib.hid (fun W => isId_t x.id W h0)
          have T1 := Lib.hid (fun W => within_t x.weight 1 30 W h1)
          have T2 := Lib.hid (fun W => within_t x.class_ 0 3 W h2)
          have T3 := Lib.hid (fun W => within_f x.port 0 6 W h3)
          have HD : Hid (decide (boxOk x) = false) := decide_eq_false (fun h => h3 h.2.2.2)
          clear h0 h1 h2 h3
          rw [HD.out]
          go_enter Try.func70, Try.ntmps70
          go_wp2_with fail
          refine (T0.out _).mono ?_
          rintro e w0 ⟨rfl, rfl⟩
          go_wp2_with fail
          refine (T1.out _).mono ?_
          rintro e w1 ⟨rfl, rfl⟩
          go_wp2_with fail
          refine (T2.out _).mono ?_
          rintro e w2 ⟨rfl, rfl⟩
          go_wp2_with fail
          refine (T3.out _).mono ?_
          rintro e w3 ⟨rfl, rfl⟩
          go_wp2_with fail
          go_ret
          exact ⟨rfl, (Below.refl _ _).alloc (Nat.le_refl _) _⟩
      · have T0 := Lib.hid (fun W => isId_t x.id W h0)
        have T1 := Lib.hid (fun W => within_t x.weight 1 30 W h1)
        have T2 := Lib.hid (fun W => within_f x.class_ 0 3 W h2)
        have HD : Hid (decide (boxOk x) = false) := decide_eq_false (fun h => h2 h.2.2.1)
        clear h0 h1 h2
        rw [HD.out]
        go_enter Try.func70, Try.ntmps70
        go_wp2_with fail
        refine (T0.out _).mono ?_
        rintro e w0 ⟨rfl, rfl⟩
        go_wp2_with fail
        refine (T1.out _).mono ?_
        rintro e w1 ⟨rfl, rfl⟩
        go_wp2_with fail
        refine (T2.out _).mono ?_
        rintro e w2 ⟨rfl, rfl⟩
        go_wp2_with fail
        go_ret
        exact ⟨rfl, (Below.refl _ _).alloc (Nat.le_refl _) _⟩
    · have T0 := Lib.hid (fun W => isId_t x.id W h0)
      have T1 := Lib.hid (fun W => within_f x.weight 1 30 W h1)
      have HD : Hid (decide (boxOk x) = false) := decide_eq_false (fun h => h1 h.2.1)
      clear h0 h1
      rw [HD.out]
      go_enter Try.func70, Try.ntmps70
      go_wp2_with fail
      refine (T0.out _).mono ?_
      rintro e w0 ⟨rfl, rfl⟩
      go_wp2_with fail
      refine (T1.out _).mono ?_
      rintro e w1 ⟨rfl, rfl⟩
      go_wp2_with fail
      go_ret
      exact ⟨rfl, (Below.refl _ _).alloc (Nat.le_refl _) _⟩
  · have T0 := Lib.hid (fun W => isId_f x.id W h0)
    have HD : Hid (decide (boxOk x) = false) := decide_eq_false (fun h => h0 h.1)
    clear h0
    rw [HD.out]
    go_enter Try.func70, Try.ntmps70
    go_wp2_with fail
    refine (T0.out _).mono ?_
    rintro e w0 ⟨rfl, rfl⟩
    go_wp2_with fail
    go_ret
    exact ⟨rfl, (Below.refl _ _).alloc (Nat.le_refl _) _⟩
set_option maxHeartbeats 800000 in
theorem bv_ones (x : BoxV) (w : World) :
    Calls Try.prog 54 #[.agg #[.int .i64 x.id, .int .i64 x.weight, .int .i64 x.class_, .int .i64 x.port, .bool x.cold]] w fun e w' => e = .returned (.bool (decide (boxOk x))) ∧ Below w.heap.size w w' := by
  by_cases h0 : 1 ≤ x.id ∧ x.id ≤ 999
  · by_cases h1 : 1 ≤ x.weight ∧ x.weight ≤ 30
    · by_cases h2 : 0 ≤ x.class_ ∧ x.class_ ≤ 3
      · by_cases h3 : 0 ≤ x.port ∧ x.port ≤ 6
        · have T0 := Lib.hid (fun W => l1In_t x.id 1 999 W h0)
          have T1 := Lib.hid (fun W => l1In_t x.weight 1 30 W h1)
          have T2 := Lib.hid (fun W => l1In_t x.class_ 0 3 W h2)
          have T3 := Lib.hid (fun W => l1In_t x.port 0 6 W h3)
          have HD : Hid (decide (boxOk x) = true) := decide_eq_true ⟨h0, h1, h2, h3⟩
          clear h0 h1 h2 h3
          rw [HD.out]
          go_enter Try.func54, Try.ntmps54
          go_wp2_with fail
          refine (T0.out _).mono ?_
          rintro e w0 ⟨rfl, rfl⟩
          go_wp2_with fail
          refine (T1.out _).mono ?_
          rintro e w1 ⟨rfl, rfl⟩
          go_wp2_with fail
          refine (T2.out _).mono ?_
          rintro e w2 ⟨rfl, rfl⟩
          go_wp2_with fail
          refine (T3.out _).mono ?_
          rintro e w3 ⟨rfl, rfl⟩
          go_wp2_with fail
          go_ret
          exact ⟨rfl, (Below.refl _ _).alloc (Nat.le_refl _) _⟩
        · have T0 := Lib.hid (fun W => l1In_t x.id 1 999 W h0)
          have T1 := Lib.hid (fun W => l1In_t x.weight 1 30 W h1)
          have T2 := Lib.hid (fun W => l1In_t x.class_ 0 3 W h2)
          have T3 := Lib.hid (fun W => l1In_f x.port 0 6 W h3)
          have HD : Hid (decide (boxOk x) = false) := decide_eq_false (fun h => h3 h.2.2.2)
          clear h0 h1 h2 h3
          rw [HD.out]
          go_enter Try.func54, Try.ntmps54
          go_wp2_with fail
          refine (T0.out _).mono ?_
          rintro e w0 ⟨rfl, rfl⟩
          go_wp2_with fail
          refine (T1.out _).mono ?_
          rintro e w1 ⟨rfl, rfl⟩
          go_wp2_with fail
          refine (T2.out _).mono ?_
          rintro e w2 ⟨rfl, rfl⟩
          go_wp2_with fail
          refine (T3.out _).mono ?_
          rintro e w3 ⟨rfl, rfl⟩
          go_wp2_with fail
          go_ret
          exact ⟨rfl, (Below.refl _ _).alloc (Nat.le_refl _) _⟩
      · have T0 := Lib.hid (fun W => l1In_t x.id 1 999 W h0)
        have T1 := Lib.hid (fun W => l1In_t x.weight 1 30 W h1)
        have T2 := Lib.hid (fun W => l1In_f x.class_ 0 3 W h2)
        have HD : Hid (decide (boxOk x) = false) := decide_eq_false (fun h => h2 h.2.2.1)
        clear h0 h1 h2
        rw [HD.out]
        go_enter Try.func54, Try.ntmps54
        go_wp2_with fail
        refine (T0.out _).mono ?_
        rintro e w0 ⟨rfl, rfl⟩
        go_wp2_with fail
        refine (T1.out _).mono ?_
        rintro e w1 ⟨rfl, rfl⟩
        go_wp2_with fail
        refine (T2.out _).mono ?_
        rintro e w2 ⟨rfl, rfl⟩
        go_wp2_with fail
        go_ret
        exact ⟨rfl, (Below.refl _ _).alloc (Nat.le_refl _) _⟩
    · have T0 := Lib.hid (fun W => l1In_t x.id 1 999 W h0)
      have T1 := Lib.hid (fun W => l1In_f x.weight 1 30 W h1)
      have HD : Hid (decide (boxOk x) = false) := decide_eq_false (fun h => h1 h.2.1)
      clear h0 h1
      rw [HD.out]
      go_enter Try.func54, Try.ntmps54
      go_wp2_with fail
      refine (T0.out _).mono ?_
      rintro e w0 ⟨rfl, rfl⟩
      go_wp2_with fail
      refine (T1.out _).mono ?_
      rintro e w1 ⟨rfl, rfl⟩
      go_wp2_with fail
      go_ret
      exact ⟨rfl, (Below.refl _ _).alloc (Nat.le_refl _) _⟩
  · have T0 := Lib.hid (fun W => l1In_f x.id 1 999 W h0)
    have HD : Hid (decide (boxOk x) = false) := decide_eq_false (fun h => h0 h.1)
    clear h0
    rw [HD.out]
    go_enter Try.func54, Try.ntmps54
    go_wp2_with fail
    refine (T0.out _).mono ?_
    rintro e w0 ⟨rfl, rfl⟩
    go_wp2_with fail
    go_ret
    exact ⟨rfl, (Below.refl _ _).alloc (Nat.le_refl _) _⟩
end Go.Proofs.Ytphncbnnnickhaa
