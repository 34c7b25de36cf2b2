/- Ships: which are valid, how many slots they have, where a slot lies. -/
import Derived.Test.YtphncbnnnickhaaCom
import Derived.BigRegion
import Derived.IntWalk
namespace Go.Proofs.Ytphncbnnnickhaa
open Go.RowKit
set_option linter.unusedVariables false
set_option linter.unusedSimpArgs false

structure HullV where
  bays : Int
  rows : Int
  tiers : Int
def hullOk (h : HullV) : Prop := (1 ≤ h.bays ∧ h.bays ≤ 4) ∧ (1 ≤ h.rows ∧ h.rows ≤ 3) ∧ (1 ≤ h.tiers ∧ h.tiers ≤ 3)
instance (h : HullV) : Decidable (hullOk h) := by unfold hullOk; infer_instance
/-- How many slots a valid ship has. -/
def slotsV (h : HullV) : Nat := (h.bays * h.rows * h.tiers).toNat
theorem below_one {w : World} (o : Obj) : Below w.heap.size w (w.alloc o) := (Below.refl _ _).alloc (Nat.le_refl _) o
theorem slots_bd {h : HullV} (hk : hullOk h) : ((slotsV h : Nat) : Int) = h.bays * h.rows * h.tiers ∧ 1 ≤ slotsV h ∧ slotsV h ≤ 36 := by
  obtain ⟨⟨a, b⟩, ⟨c, d⟩, e, f⟩ := hk
  unfold slotsV
  rcases (by omega : h.rows = 1 ∨ h.rows = 2 ∨ h.rows = 3) with e1 | e1 | e1 <;> rcases (by omega : h.tiers = 1 ∨ h.tiers = 2 ∨ h.tiers = 3) with e2 | e2 | e2 <;> rw [e1, e2] <;> omega
set_option maxHeartbeats 1600000 in
theorem hv_impl (h : HullV) (w : World) :
    Calls Try.prog 59 #[.agg #[.int .i64 h.bays, .int .i64 h.rows, .int .i64 h.tiers]] w fun e w' => e = .returned (.bool (decide (hullOk h))) ∧ Below w.heap.size w w' := by
  obtain ⟨r, HR⟩ : ∃ r, Hid (decide (hullOk h) = r) := ⟨_, rfl⟩
  rw [HR.out]
  by_cases c0 : 1 ≤ h.bays ∧ h.bays ≤ 4
  · have HC0 := Lib.hid c0
    have HW0 := Lib.hid (fun W => within_t h.bays 1 4 W c0)
    clear c0
    by_cases c1 : 1 ≤ h.rows ∧ h.rows ≤ 3
    · have HC1 := Lib.hid c1
      have HW1 := Lib.hid (fun W => within_t h.rows 1 3 W c1)
      clear c1
      by_cases c2 : 1 ≤ h.tiers ∧ h.tiers ≤ 3
      · have HC2 := Lib.hid c2
        have HW2 := Lib.hid (fun W => within_t h.tiers 1 3 W c2)
        clear c2
        have HN : Hid (r = true) := by show _ = _; rw [← HR.out]; exact decide_eq_true ⟨HC0.out, HC1.out, HC2.out⟩
        go_enter Try.func59, Try.ntmps59
        go_wp2_with fail
        refine (HW0.out _).mono ?_
        rintro e w' ⟨rfl, rfl⟩
        go_wp2_with fail
        refine (HW1.out _).mono ?_
        rintro e w' ⟨rfl, rfl⟩
        go_wp2_with fail
        refine (HW2.out _).mono ?_
        rintro e w' ⟨rfl, rfl⟩
        go_wp2_with fail
        go_ret
        exact ⟨ret_bool HN.out.symm, below_one _⟩
      · have HN : Hid (r = false) := by show _ = _; rw [← HR.out]; exact decide_eq_false (fun k => c2 k.2.2)
        have HW2 := Lib.hid (fun W => within_f h.tiers 1 3 W c2)
        clear c2
        go_enter Try.func59, Try.ntmps59
        go_wp2_with fail
        refine (HW0.out _).mono ?_
        rintro e w' ⟨rfl, rfl⟩
        go_wp2_with fail
        refine (HW1.out _).mono ?_
        rintro e w' ⟨rfl, rfl⟩
        go_wp2_with fail
        refine (HW2.out _).mono ?_
        rintro e w' ⟨rfl, rfl⟩
        go_wp2_with fail
        go_ret
        exact ⟨ret_bool HN.out.symm, below_one _⟩
    · have HN : Hid (r = false) := by show _ = _; rw [← HR.out]; exact decide_eq_false (fun k => c1 k.2.1)
      have HW1 := Lib.hid (fun W => within_f h.rows 1 3 W c1)
      clear c1
      go_enter Try.func59, Try.ntmps59
      go_wp2_with fail
      refine (HW0.out _).mono ?_
      rintro e w' ⟨rfl, rfl⟩
      go_wp2_with fail
      refine (HW1.out _).mono ?_
      rintro e w' ⟨rfl, rfl⟩
      go_wp2_with fail
      go_ret
      exact ⟨ret_bool HN.out.symm, below_one _⟩
  · have HN : Hid (r = false) := by show _ = _; rw [← HR.out]; exact decide_eq_false (fun k => c0 k.1)
    have HW0 := Lib.hid (fun W => within_f h.bays 1 4 W c0)
    clear c0
    go_enter Try.func59, Try.ntmps59
    go_wp2_with fail
    refine (HW0.out _).mono ?_
    rintro e w' ⟨rfl, rfl⟩
    go_wp2_with fail
    go_ret
    exact ⟨ret_bool HN.out.symm, below_one _⟩
set_option maxHeartbeats 1600000 in
theorem hv_spec (h : HullV) (w : World) :
    Calls Try.prog 67 #[.agg #[.int .i64 h.bays, .int .i64 h.rows, .int .i64 h.tiers]] w fun e w' => e = .returned (.bool (decide (hullOk h))) ∧ Below w.heap.size w w' := by
  obtain ⟨r, HR⟩ : ∃ r, Hid (decide (hullOk h) = r) := ⟨_, rfl⟩
  rw [HR.out]
  by_cases c0 : 1 ≤ h.bays ∧ h.bays ≤ 4
  · have HC0 := Lib.hid c0
    have HW0 := Lib.hid (fun W => l1In_t h.bays 1 4 W c0)
    clear c0
    by_cases c1 : 1 ≤ h.rows ∧ h.rows ≤ 3
    · have HC1 := Lib.hid c1
      have HW1 := Lib.hid (fun W => l1In_t h.rows 1 3 W c1)
      clear c1
      by_cases c2 : 1 ≤ h.tiers ∧ h.tiers ≤ 3
      · have HC2 := Lib.hid c2
        have HW2 := Lib.hid (fun W => l1In_t h.tiers 1 3 W c2)
        clear c2
        have HN : Hid (r = true) := by show _ = _; rw [← HR.out]; exact decide_eq_true ⟨HC0.out, HC1.out, HC2.out⟩
        go_enter Try.func67, Try.ntmps67
        go_wp2_with fail
        refine (HW0.out _).mono ?_
        rintro e w' ⟨rfl, rfl⟩
        go_wp2_with fail
        refine (HW1.out _).mono ?_
        rintro e w' ⟨rfl, rfl⟩
        go_wp2_with fail
        refine (HW2.out _).mono ?_
        rintro e w' ⟨rfl, rfl⟩
        go_wp2_with fail
        go_ret
        exact ⟨ret_bool HN.out.symm, below_one _⟩
      · have HN : Hid (r = false) := by show _ = _; rw [← HR.out]; exact decide_eq_false (fun k => c2 k.2.2)
        have HW2 := Lib.hid (fun W => l1In_f h.tiers 1 3 W c2)
        clear c2
        go_enter Try.func67, Try.ntmps67
        go_wp2_with fail
        refine (HW0.out _).mono ?_
        rintro e w' ⟨rfl, rfl⟩
        go_wp2_with fail
        refine (HW1.out _).mono ?_
        rintro e w' ⟨rfl, rfl⟩
        go_wp2_with fail
        refine (HW2.out _).mono ?_
        rintro e w' ⟨rfl, rfl⟩
        go_wp2_with fail
        go_ret
        exact ⟨ret_bool HN.out.symm, below_one _⟩
    · have HN : Hid (r = false) := by show _ = _; rw [← HR.out]; exact decide_eq_false (fun k => c1 k.2.1)
      have HW1 := Lib.hid (fun W => l1In_f h.rows 1 3 W c1)
      clear c1
      go_enter Try.func67, Try.ntmps67
      go_wp2_with fail
      refine (HW0.out _).mono ?_
      rintro e w' ⟨rfl, rfl⟩
      go_wp2_with fail
      refine (HW1.out _).mono ?_
      rintro e w' ⟨rfl, rfl⟩
      go_wp2_with fail
      go_ret
      exact ⟨ret_bool HN.out.symm, below_one _⟩
  · have HN : Hid (r = false) := by show _ = _; rw [← HR.out]; exact decide_eq_false (fun k => c0 k.1)
    have HW0 := Lib.hid (fun W => l1In_f h.bays 1 4 W c0)
    clear c0
    go_enter Try.func67, Try.ntmps67
    go_wp2_with fail
    refine (HW0.out _).mono ?_
    rintro e w' ⟨rfl, rfl⟩
    go_wp2_with fail
    go_ret
    exact ⟨ret_bool HN.out.symm, below_one _⟩
theorem hv_t (f : FuncId) {h : HullV} {w : World} (k : Calls Try.prog f #[.agg #[.int .i64 h.bays, .int .i64 h.rows, .int .i64 h.tiers]] w fun e w' => e = .returned (.bool (decide (hullOk h))) ∧ Below w.heap.size w w') (ok : hullOk h) : Calls Try.prog f #[.agg #[.int .i64 h.bays, .int .i64 h.rows, .int .i64 h.tiers]] w fun e w' => e = .returned (.bool true) ∧ Below w.heap.size w w' :=
  k.mono fun _ _ ⟨he, hb⟩ => ⟨he.trans (ret_bool (decide_eq_true ok)), hb⟩
theorem hv_f (f : FuncId) {h : HullV} {w : World} (k : Calls Try.prog f #[.agg #[.int .i64 h.bays, .int .i64 h.rows, .int .i64 h.tiers]] w fun e w' => e = .returned (.bool (decide (hullOk h))) ∧ Below w.heap.size w w') (ok : ¬ hullOk h) : Calls Try.prog f #[.agg #[.int .i64 h.bays, .int .i64 h.rows, .int .i64 h.tiers]] w fun e w' => e = .returned (.bool false) ∧ Below w.heap.size w w' :=
  k.mono fun _ _ ⟨he, hb⟩ => ⟨he.trans (ret_bool (decide_eq_false ok)), hb⟩
theorem hull_ways {P : HullV → Prop} (h : HullV) (hk : hullOk h) (H : ∀ b : Int, 1 ≤ b → b ≤ 4 → P ⟨b, 1, 1⟩ ∧ P ⟨b, 1, 2⟩ ∧ P ⟨b, 1, 3⟩ ∧ P ⟨b, 2, 1⟩ ∧ P ⟨b, 2, 2⟩ ∧ P ⟨b, 2, 3⟩ ∧ P ⟨b, 3, 1⟩ ∧ P ⟨b, 3, 2⟩ ∧ P ⟨b, 3, 3⟩) : P h := by
  obtain ⟨b, r, t⟩ := h
  obtain ⟨⟨h1, h2⟩, ⟨h3, h4⟩, h5, h6⟩ := hk
  simp only at h1 h2 h3 h4 h5 h6
  obtain ⟨p1, p2, p3, p4, p5, p6, p7, p8, p9⟩ := H b h1 h2
  rcases (by omega : r = 1 ∨ r = 2 ∨ r = 3) with rfl | rfl | rfl <;> rcases (by omega : t = 1 ∨ t = 2 ∨ t = 3) with rfl | rfl | rfl <;> assumption
set_option maxHeartbeats 1600000 in
theorem slots_any (h : HullV) (w : World) (hk : hullOk h) :
    Calls Try.prog 60 #[.agg #[.int .i64 h.bays, .int .i64 h.rows, .int .i64 h.tiers]] w fun e w' => e = .returned (.int .i64 (slotsV h)) ∧ Below w.heap.size w w' := by
  revert w
  refine hull_ways (P := fun h => ∀ w : World, Calls Try.prog 60 #[.agg #[.int .i64 h.bays, .int .i64 h.rows, .int .i64 h.tiers]] w fun e w' => e = .returned (.int .i64 (slotsV h)) ∧ Below w.heap.size w w') h hk (fun b b1 b4 => ?_)
  refine ⟨?_, ?_, ?_, ?_, ?_, ?_, ?_, ?_, ?_⟩
  all_goals
    intro w
    go_enter Try.func60, Try.ntmps60
    go_wp2_with fail
    go_ret
    exact ⟨ret_int (by unfold slotsV; simp; omega), below_one _⟩
set_option maxHeartbeats 800000 in
theorem tier_any (h : HullV) (k : Int) (w : World) (hk : hullOk h) (h0 : 0 ≤ k) (h1 : k ≤ 1000) :
    Calls Try.prog 62 #[.agg #[.int .i64 h.bays, .int .i64 h.rows, .int .i64 h.tiers], .int .i64 k] w fun e w' => e = .returned (.int .i64 (k % h.tiers)) ∧ Below w.heap.size w w' := by
  obtain ⟨_, _, t1, t2⟩ := hk
  have t0 : 0 < h.tiers := by omega
  go_enter Try.func62, Try.ntmps62
  go_wp2_with fail
  go_ret
  exact ⟨rfl, below_one _⟩
set_option maxHeartbeats 800000 in
theorem stack_any (h : HullV) (k : Int) (w : World) (hk : hullOk h) (h0 : 0 ≤ k) (h1 : k ≤ 1000) :
    Calls Try.prog 78 #[.agg #[.int .i64 h.bays, .int .i64 h.rows, .int .i64 h.tiers], .int .i64 k] w fun e w' => e = .returned (.int .i64 (k / h.tiers)) ∧ Below w.heap.size w w' := by
  obtain ⟨_, _, t1, t2⟩ := hk
  have t0 : 0 < h.tiers := by omega
  go_enter Try.func78, Try.ntmps78
  go_wp2_with fail
  go_ret
  exact ⟨rfl, below_one _⟩
set_option maxHeartbeats 1600000 in
theorem many_impl (h : HullV) (w : World) (hk : hullOk h) :
    Calls Try.prog 31 #[.agg #[.int .i64 h.bays, .int .i64 h.rows, .int .i64 h.tiers]] w fun e w' => e = .returned (.int .i64 (slotsV h)) ∧ Below w.heap.size w w' := by
  have HV := Lib.hid (fun W => hv_t _ (hv_impl h W) hk)
  have HS := Lib.hid (fun W => slots_any h W hk)
  have kx := Blk.new w 36 #[.int .i64 h.bays, .int .i64 h.rows, .int .i64 h.tiers]
  go_enter Try.func31, Try.ntmps31
  go_wp2_with fail
  refine (HV.out _).mono ?_
  rintro e w1 ⟨rfl, b1⟩
  have k1 := kx.below b1 kx.lt
  have c0 := k1.cell 0
  have c1 := k1.cell 1
  have c2 := k1.cell 2
  simp only [List.getElem?_toArray, List.getElem?_cons_zero, List.getElem?_cons_succ] at c0 c1 c2
  have B1 : Below w.heap.size w w1 := (below_one _).trans (b1.mono (below_one _).size)
  clear kx k1 b1
  go_wp2_with fail
  refine (HS.out _).mono ?_
  rintro e w2 ⟨rfl, b2⟩
  go_wp2_with fail
  go_ret
  exact ⟨rfl, B1.trans (b2.mono B1.size)⟩
set_option maxHeartbeats 1600000 in
theorem many_spec (h : HullV) (w : World) (hk : hullOk h) :
    Calls Try.prog 68 #[.agg #[.int .i64 h.bays, .int .i64 h.rows, .int .i64 h.tiers]] w fun e w' => e = .returned (.int .i64 (slotsV h)) ∧ Below w.heap.size w w' := by
  have HV := Lib.hid (fun W => hv_t _ (hv_spec h W) hk)
  revert w
  intro w
  have HS := Lib.hid hk
  revert HV
  refine hull_ways (P := fun h => Hid (∀ W, Calls Try.prog 67 #[.agg #[.int .i64 h.bays, .int .i64 h.rows, .int .i64 h.tiers]] W fun e w' => e = .returned (.bool true) ∧ Below W.heap.size W w') → Calls Try.prog 68 #[.agg #[.int .i64 h.bays, .int .i64 h.rows, .int .i64 h.tiers]] w fun e w' => e = .returned (.int .i64 (slotsV h)) ∧ Below w.heap.size w w') h hk (fun b b1 b4 => ?_)
  clear HS hk
  refine ⟨?_, ?_, ?_, ?_, ?_, ?_, ?_, ?_, ?_⟩
  · intro HV
    have kx := Blk.new w 36 #[.int .i64 b, .int .i64 1, .int .i64 1]
    have B0 := below_one (w := w) (.cells #[.int .i64 b, .int .i64 1, .int .i64 1] 36)
    have HV := Lib.hid (HV.out (w.alloc (.cells #[.int .i64 b, .int .i64 1, .int .i64 1] 36)))
    go_enter Try.func68, Try.ntmps68
    go_wp2_with fail
    refine HV.out.mono ?_
    rintro e w1 ⟨rfl, b1⟩
    have k1 := kx.below b1 kx.lt
    have c0 := k1.cell 0
    have c1 := k1.cell 1
    have c2 := k1.cell 2
    simp only [List.getElem?_toArray, List.getElem?_cons_zero, List.getElem?_cons_succ] at c0 c1 c2
    have B1 := Lib.hid (B0.trans (b1.mono B0.size))
    clear kx k1 b1 B0
    go_wp2_with fail
    go_ret
    exact ⟨ret_int (by unfold slotsV; simp; omega), B1.out⟩
  · intro HV
    have kx := Blk.new w 36 #[.int .i64 b, .int .i64 1, .int .i64 2]
    have B0 := below_one (w := w) (.cells #[.int .i64 b, .int .i64 1, .int .i64 2] 36)
    have HV := Lib.hid (HV.out (w.alloc (.cells #[.int .i64 b, .int .i64 1, .int .i64 2] 36)))
    go_enter Try.func68, Try.ntmps68
    go_wp2_with fail
    refine HV.out.mono ?_
    rintro e w1 ⟨rfl, b1⟩
    have k1 := kx.below b1 kx.lt
    have c0 := k1.cell 0
    have c1 := k1.cell 1
    have c2 := k1.cell 2
    simp only [List.getElem?_toArray, List.getElem?_cons_zero, List.getElem?_cons_succ] at c0 c1 c2
    have B1 := Lib.hid (B0.trans (b1.mono B0.size))
    clear kx k1 b1 B0
    go_wp2_with fail
    go_ret
    exact ⟨ret_int (by unfold slotsV; simp; omega), B1.out⟩
  · intro HV
    have kx := Blk.new w 36 #[.int .i64 b, .int .i64 1, .int .i64 3]
    have B0 := below_one (w := w) (.cells #[.int .i64 b, .int .i64 1, .int .i64 3] 36)
    have HV := Lib.hid (HV.out (w.alloc (.cells #[.int .i64 b, .int .i64 1, .int .i64 3] 36)))
    go_enter Try.func68, Try.ntmps68
    go_wp2_with fail
    refine HV.out.mono ?_
    rintro e w1 ⟨rfl, b1⟩
    have k1 := kx.below b1 kx.lt
    have c0 := k1.cell 0
    have c1 := k1.cell 1
    have c2 := k1.cell 2
    simp only [List.getElem?_toArray, List.getElem?_cons_zero, List.getElem?_cons_succ] at c0 c1 c2
    have B1 := Lib.hid (B0.trans (b1.mono B0.size))
    clear kx k1 b1 B0
    go_wp2_with fail
    go_ret
    exact ⟨ret_int (by unfold slotsV; simp; omega), B1.out⟩
  · intro HV
    have kx := Blk.new w 36 #[.int .i64 b, .int .i64 2, .int .i64 1]
    have B0 := below_one (w := w) (.cells #[.int .i64 b, .int .i64 2, .int .i64 1] 36)
    have HV := Lib.hid (HV.out (w.alloc (.cells #[.int .i64 b, .int .i64 2, .int .i64 1] 36)))
    go_enter Try.func68, Try.ntmps68
    go_wp2_with fail
    refine HV.out.mono ?_
    rintro e w1 ⟨rfl, b1⟩
    have k1 := kx.below b1 kx.lt
    have c0 := k1.cell 0
    have c1 := k1.cell 1
    have c2 := k1.cell 2
    simp only [List.getElem?_toArray, List.getElem?_cons_zero, List.getElem?_cons_succ] at c0 c1 c2
    have B1 := Lib.hid (B0.trans (b1.mono B0.size))
    clear kx k1 b1 B0
    go_wp2_with fail
    go_ret
    exact ⟨ret_int (by unfold slotsV; simp; omega), B1.out⟩
  · intro HV
    have kx := Blk.new w 36 #[.int .i64 b, .int .i64 2, .int .i64 2]
    have B0 := below_one (w := w) (.cells #[.int .i64 b, .int .i64 2, .int .i64 2] 36)
    have HV := Lib.hid (HV.out (w.alloc (.cells #[.int .i64 b, .int .i64 2, .int .i64 2] 36)))
    go_enter Try.func68, Try.ntmps68
    go_wp2_with fail
    refine HV.out.mono ?_
    rintro e w1 ⟨rfl, b1⟩
    have k1 := kx.below b1 kx.lt
    have c0 := k1.cell 0
    have c1 := k1.cell 1
    have c2 := k1.cell 2
    simp only [List.getElem?_toArray, List.getElem?_cons_zero, List.getElem?_cons_succ] at c0 c1 c2
    have B1 := Lib.hid (B0.trans (b1.mono B0.size))
    clear kx k1 b1 B0
    go_wp2_with fail
    go_ret
    exact ⟨ret_int (by unfold slotsV; simp; omega), B1.out⟩
  · intro HV
    have kx := Blk.new w 36 #[.int .i64 b, .int .i64 2, .int .i64 3]
    have B0 := below_one (w := w) (.cells #[.int .i64 b, .int .i64 2, .int .i64 3] 36)
    have HV := Lib.hid (HV.out (w.alloc (.cells #[.int .i64 b, .int .i64 2, .int .i64 3] 36)))
    go_enter Try.func68, Try.ntmps68
    go_wp2_with fail
    refine HV.out.mono ?_
    rintro e w1 ⟨rfl, b1⟩
    have k1 := kx.below b1 kx.lt
    have c0 := k1.cell 0
    have c1 := k1.cell 1
    have c2 := k1.cell 2
    simp only [List.getElem?_toArray, List.getElem?_cons_zero, List.getElem?_cons_succ] at c0 c1 c2
    have B1 := Lib.hid (B0.trans (b1.mono B0.size))
    clear kx k1 b1 B0
    go_wp2_with fail
    go_ret
    exact ⟨ret_int (by unfold slotsV; simp; omega), B1.out⟩
  · intro HV
    have kx := Blk.new w 36 #[.int .i64 b, .int .i64 3, .int .i64 1]
    have B0 := below_one (w := w) (.cells #[.int .i64 b, .int .i64 3, .int .i64 1] 36)
    have HV := Lib.hid (HV.out (w.alloc (.cells #[.int .i64 b, .int .i64 3, .int .i64 1] 36)))
    go_enter Try.func68, Try.ntmps68
    go_wp2_with fail
    refine HV.out.mono ?_
    rintro e w1 ⟨rfl, b1⟩
    have k1 := kx.below b1 kx.lt
    have c0 := k1.cell 0
    have c1 := k1.cell 1
    have c2 := k1.cell 2
    simp only [List.getElem?_toArray, List.getElem?_cons_zero, List.getElem?_cons_succ] at c0 c1 c2
    have B1 := Lib.hid (B0.trans (b1.mono B0.size))
    clear kx k1 b1 B0
    go_wp2_with fail
    go_ret
    exact ⟨ret_int (by unfold slotsV; simp; omega), B1.out⟩
  · intro HV
    have kx := Blk.new w 36 #[.int .i64 b, .int .i64 3, .int .i64 2]
    have B0 := below_one (w := w) (.cells #[.int .i64 b, .int .i64 3, .int .i64 2] 36)
    have HV := Lib.hid (HV.out (w.alloc (.cells #[.int .i64 b, .int .i64 3, .int .i64 2] 36)))
    go_enter Try.func68, Try.ntmps68
    go_wp2_with fail
    refine HV.out.mono ?_
    rintro e w1 ⟨rfl, b1⟩
    have k1 := kx.below b1 kx.lt
    have c0 := k1.cell 0
    have c1 := k1.cell 1
    have c2 := k1.cell 2
    simp only [List.getElem?_toArray, List.getElem?_cons_zero, List.getElem?_cons_succ] at c0 c1 c2
    have B1 := Lib.hid (B0.trans (b1.mono B0.size))
    clear kx k1 b1 B0
    go_wp2_with fail
    go_ret
    exact ⟨ret_int (by unfold slotsV; simp; omega), B1.out⟩
  · intro HV
    have kx := Blk.new w 36 #[.int .i64 b, .int .i64 3, .int .i64 3]
    have B0 := below_one (w := w) (.cells #[.int .i64 b, .int .i64 3, .int .i64 3] 36)
    have HV := Lib.hid (HV.out (w.alloc (.cells #[.int .i64 b, .int .i64 3, .int .i64 3] 36)))
    go_enter Try.func68, Try.ntmps68
    go_wp2_with fail
    refine HV.out.mono ?_
    rintro e w1 ⟨rfl, b1⟩
    have k1 := kx.below b1 kx.lt
    have c0 := k1.cell 0
    have c1 := k1.cell 1
    have c2 := k1.cell 2
    simp only [List.getElem?_toArray, List.getElem?_cons_zero, List.getElem?_cons_succ] at c0 c1 c2
    have B1 := Lib.hid (B0.trans (b1.mono B0.size))
    clear kx k1 b1 B0
    go_wp2_with fail
    go_ret
    exact ⟨ret_int (by unfold slotsV; simp; omega), B1.out⟩
end Go.Proofs.Ytphncbnnnickhaa
