/- The reference's place of a slot, and the slot below it. -/
import Derived.Test.YtphncbnnnickhaaHull
namespace Go.Proofs.Ytphncbnnnickhaa
open Go.RowKit
set_option linter.unusedVariables false
set_option linter.unusedSimpArgs false

theorem place_bd {h : HullV} (hk : hullOk h) (k : Int) (h0 : 0 ≤ k) (h1 : k < slotsV h) : (0 ≤ k / h.tiers / h.rows ∧ k / h.tiers / h.rows ≤ h.bays - 1) ∧ (0 ≤ k / h.tiers % h.rows ∧ k / h.tiers % h.rows ≤ h.rows - 1) ∧ (0 ≤ k % h.tiers ∧ k % h.tiers ≤ h.tiers - 1) ∧ (k / h.tiers / h.rows * h.rows + k / h.tiers % h.rows) * h.tiers + (k % h.tiers - 1) = k - 1 := by
  rw [(slots_bd hk).1] at h1
  revert h1
  refine hull_ways (P := fun h => k < h.bays * h.rows * h.tiers → (0 ≤ k / h.tiers / h.rows ∧ k / h.tiers / h.rows ≤ h.bays - 1) ∧ (0 ≤ k / h.tiers % h.rows ∧ k / h.tiers % h.rows ≤ h.rows - 1) ∧ (0 ≤ k % h.tiers ∧ k % h.tiers ≤ h.tiers - 1) ∧ (k / h.tiers / h.rows * h.rows + k / h.tiers % h.rows) * h.tiers + (k % h.tiers - 1) = k - 1) h hk (fun b b1 b4 => ?_)
  refine ⟨?_, ?_, ?_, ?_, ?_, ?_, ?_, ?_, ?_⟩ <;> (simp only; intro h1; omega)
set_option maxHeartbeats 1600000 in
theorem place_spec (h : HullV) (k : Int) (w : World) (hk : hullOk h) (h0 : 0 ≤ k) (h1 : k < slotsV h) :
    Calls Try.prog 90 #[.agg #[.int .i64 h.bays, .int .i64 h.rows, .int .i64 h.tiers], .int .i64 k] w fun e w' => e = .returned (.tuple #[.int .i64 (k / h.tiers / h.rows), .int .i64 (k / h.tiers % h.rows), .int .i64 (k % h.tiers)]) ∧ Below w.heap.size w w' := by
  have HV := Lib.hid (fun W => hv_t _ (hv_spec h W) hk)
  have HM := Lib.hid (fun W => many_spec h W hk)
  have hs := (slots_bd hk).2
  have HIN := Lib.hid (fun W => l1In_t k 0 ((slotsV h : Int) - 1) W ⟨h0, by omega⟩)
  obtain ⟨⟨_, _⟩, ⟨r1, r2⟩, t1, t2⟩ := hk
  have t0 : 0 < h.tiers := by omega
  have r0 : 0 < h.rows := by omega
  have h36 : k ≤ 36 := by omega
  have h37 : 0 ≤ k / h.tiers := Int.ediv_nonneg h0 (by omega)
  have h38 : k / h.tiers ≤ 36 := by have := Int.ediv_le_self h.tiers h0; omega
  have kx := Blk.new w 36 #[.int .i64 h.bays, .int .i64 h.rows, .int .i64 h.tiers]
  have B0 := below_one (w := w) (.cells #[.int .i64 h.bays, .int .i64 h.rows, .int .i64 h.tiers] 36)
  obtain ⟨n, hn⟩ : ∃ n, slotsV h = n := ⟨_, rfl⟩
  rw [hn] at HM HIN hs h1
  clear hn h1
  go_enter Try.func90, Try.ntmps90
  go_wp2_with fail
  refine (HV.out _).mono ?_
  rintro e w1 ⟨rfl, b1⟩
  have k1 := kx.below b1 kx.lt
  have c0 := k1.cell 0
  have c1 := k1.cell 1
  have c2 := k1.cell 2
  simp only [List.getElem?_toArray, List.getElem?_cons_zero, List.getElem?_cons_succ] at c0 c1 c2
  have B1 := B0.trans (b1.mono B0.size)
  clear kx B0 b1
  go_wp2_with fail
  refine (HM.out _).mono ?_
  rintro e w2 ⟨rfl, b2⟩
  have k2 := k1.below b2 k1.lt
  clear c0 c1 c2
  have c0 := k2.cell 0
  have c1 := k2.cell 1
  have c2 := k2.cell 2
  simp only [List.getElem?_toArray, List.getElem?_cons_zero, List.getElem?_cons_succ] at c0 c1 c2
  have B2 := B1.trans (b2.mono B1.size)
  clear k1 B1 b2
  go_wp2_with fail
  refine (HIN.out _).mono ?_
  rintro e w' ⟨rfl, rfl⟩
  go_wp2_with fail
  go_quiet (fail)
  go_wp2_with fail
  go_ret3
  exact ⟨rfl, below_drewN B2 _⟩
/-- The slot of a place whose tier may be none. -/
def slotTo (h : HullV) (a c d : Int) : Int := if 0 ≤ d then (a * h.rows + c) * h.tiers + d else -1
set_option maxHeartbeats 3200000 in
theorem slotOf_any (h : HullV) (a c d : Int) (w : World) (hk : hullOk h) (a0 : 0 ≤ a) (a9 : a ≤ h.bays - 1) (c0 : 0 ≤ c) (c9 : c ≤ h.rows - 1) (d0 : -1 ≤ d) (d9 : d ≤ h.tiers - 1) :
    Calls Try.prog 91 #[.agg #[.int .i64 h.bays, .int .i64 h.rows, .int .i64 h.tiers], .int .i64 a, .int .i64 c, .int .i64 d] w fun e w' => e = .returned (.int .i64 (slotTo h a c d)) ∧ Below w.heap.size w w' := by
  have HV := Lib.hid (fun W => hv_t _ (hv_spec h W) hk)
  have HA := Lib.hid (fun W => l1In_t a 0 (h.bays - 1) W ⟨a0, a9⟩)
  have HC := Lib.hid (fun W => l1In_t c 0 (h.rows - 1) W ⟨c0, c9⟩)
  have HD : Hid (∀ W, Calls Try.prog 76 #[.int .i64 d, .int .i64 0, .int .i64 (h.tiers - 1)] W fun e w' => e = .returned (.bool (decide (0 ≤ d))) ∧ W = w') := fun W => (l1In_any d 0 (h.tiers - 1) W).mono fun e w' ⟨h1, h2⟩ => ⟨h1.trans (ret_bool (decide_eq_decide.2 (by omega))), h2⟩
  revert HV HA HC HD a9 c9 d9
  refine hull_ways (P := fun h => a ≤ h.bays - 1 → c ≤ h.rows - 1 → d ≤ h.tiers - 1 → Hid (∀ W, Calls Try.prog 67 #[.agg #[.int .i64 h.bays, .int .i64 h.rows, .int .i64 h.tiers]] W fun e w' => e = .returned (.bool true) ∧ Below W.heap.size W w') → Hid (∀ W, Calls Try.prog 76 #[.int .i64 a, .int .i64 0, .int .i64 (h.bays - 1)] W fun e w' => e = .returned (.bool true) ∧ W = w') → Hid (∀ W, Calls Try.prog 76 #[.int .i64 c, .int .i64 0, .int .i64 (h.rows - 1)] W fun e w' => e = .returned (.bool true) ∧ W = w') → Hid (∀ W, Calls Try.prog 76 #[.int .i64 d, .int .i64 0, .int .i64 (h.tiers - 1)] W fun e w' => e = .returned (.bool (decide (0 ≤ d))) ∧ W = w') → Calls Try.prog 91 #[.agg #[.int .i64 h.bays, .int .i64 h.rows, .int .i64 h.tiers], .int .i64 a, .int .i64 c, .int .i64 d] w fun e w' => e = .returned (.int .i64 (slotTo h a c d)) ∧ Below w.heap.size w w') h hk (fun b b1 b4 => ?_)
  clear hk
  refine ⟨?_, ?_, ?_, ?_, ?_, ?_, ?_, ?_, ?_⟩
  · intro a9 c9 d9 HV HA HC HD
    simp only at a9 c9 d9
    have HV := Lib.hid (HV.out (w.alloc (.cells #[.int .i64 b, .int .i64 1, .int .i64 1] 36)))
    have HC : Hid (∀ W, Calls Try.prog 76 #[.int .i64 c, .int .i64 0, .int .i64 0] W fun e w' => e = .returned (.bool true) ∧ W = w') := HC.out
    have HD : Hid (∀ W, Calls Try.prog 76 #[.int .i64 d, .int .i64 0, .int .i64 0] W fun e w' => e = .returned (.bool (decide (0 ≤ d))) ∧ W = w') := HD.out
    have HS : Hid (slotTo ⟨b, 1, 1⟩ a c d = if 0 ≤ d then (a * 1 + c) * 1 + d else -1) := rfl
    obtain ⟨s, HSS⟩ : ∃ s, Hid (slotTo ⟨b, 1, 1⟩ a c d = s) := ⟨_, rfl⟩
    rw [HSS.out] at HS ⊢
    have kx := Blk.new w 36 #[.int .i64 b, .int .i64 1, .int .i64 1]
    have B0 := below_one (w := w) (.cells #[.int .i64 b, .int .i64 1, .int .i64 1] 36)
    by_cases hd : 0 ≤ d
    · rw [decide_eq_true hd] at HD
      have HS2 : Hid (s = (a * 1 + c) * 1 + d) := by show _ = _; rw [HS.out, if_pos hd]
      go_enter Try.func91, Try.ntmps91
      go_wp2_with fail
      refine HV.out.mono ?_
      rintro e w1 ⟨rfl, b1⟩
      have k1 := kx.below b1 kx.lt
      have z0 := k1.cell 0
      have z1 := k1.cell 1
      have z2 := k1.cell 2
      simp only [List.getElem?_toArray, List.getElem?_cons_zero, List.getElem?_cons_succ] at z0 z1 z2
      have B1 := Lib.hid (B0.trans (b1.mono B0.size))
      clear kx B0 b1 k1
      go_wp2_with fail
      refine (HA.out _).mono ?_
      rintro e w' ⟨rfl, rfl⟩
      go_wp2_with fail
      refine (HC.out _).mono ?_
      rintro e w' ⟨rfl, rfl⟩
      go_wp2_with fail
      refine (HD.out _).mono ?_
      rintro e w' ⟨rfl, rfl⟩
      go_wp2_with fail
      go_ret
      exact ⟨ret_int (by have := HS2.out; omega), B1.out⟩
    · rw [decide_eq_false hd] at HD
      have HS2 : Hid (s = -1) := by show _ = _; rw [HS.out, if_neg hd]
      go_enter Try.func91, Try.ntmps91
      go_wp2_with fail
      refine HV.out.mono ?_
      rintro e w1 ⟨rfl, b1⟩
      have k1 := kx.below b1 kx.lt
      have z0 := k1.cell 0
      have z1 := k1.cell 1
      have z2 := k1.cell 2
      simp only [List.getElem?_toArray, List.getElem?_cons_zero, List.getElem?_cons_succ] at z0 z1 z2
      have B1 := Lib.hid (B0.trans (b1.mono B0.size))
      clear kx B0 b1 k1
      go_wp2_with fail
      refine (HA.out _).mono ?_
      rintro e w' ⟨rfl, rfl⟩
      go_wp2_with fail
      refine (HC.out _).mono ?_
      rintro e w' ⟨rfl, rfl⟩
      go_wp2_with fail
      refine (HD.out _).mono ?_
      rintro e w' ⟨rfl, rfl⟩
      go_wp2_with fail
      go_ret
      exact ⟨ret_int HS2.out.symm, B1.out⟩
  · intro a9 c9 d9 HV HA HC HD
    simp only at a9 c9 d9
    have HV := Lib.hid (HV.out (w.alloc (.cells #[.int .i64 b, .int .i64 1, .int .i64 2] 36)))
    have HC : Hid (∀ W, Calls Try.prog 76 #[.int .i64 c, .int .i64 0, .int .i64 0] W fun e w' => e = .returned (.bool true) ∧ W = w') := HC.out
    have HD : Hid (∀ W, Calls Try.prog 76 #[.int .i64 d, .int .i64 0, .int .i64 1] W fun e w' => e = .returned (.bool (decide (0 ≤ d))) ∧ W = w') := HD.out
    have HS : Hid (slotTo ⟨b, 1, 2⟩ a c d = if 0 ≤ d then (a * 1 + c) * 2 + d else -1) := rfl
    obtain ⟨s, HSS⟩ : ∃ s, Hid (slotTo ⟨b, 1, 2⟩ a c d = s) := ⟨_, rfl⟩
    rw [HSS.out] at HS ⊢
    have kx := Blk.new w 36 #[.int .i64 b, .int .i64 1, .int .i64 2]
    have B0 := below_one (w := w) (.cells #[.int .i64 b, .int .i64 1, .int .i64 2] 36)
    by_cases hd : 0 ≤ d
    · rw [decide_eq_true hd] at HD
      have HS2 : Hid (s = (a * 1 + c) * 2 + d) := by show _ = _; rw [HS.out, if_pos hd]
      go_enter Try.func91, Try.ntmps91
      go_wp2_with fail
      refine HV.out.mono ?_
      rintro e w1 ⟨rfl, b1⟩
      have k1 := kx.below b1 kx.lt
      have z0 := k1.cell 0
      have z1 := k1.cell 1
      have z2 := k1.cell 2
      simp only [List.getElem?_toArray, List.getElem?_cons_zero, List.getElem?_cons_succ] at z0 z1 z2
      have B1 := Lib.hid (B0.trans (b1.mono B0.size))
      clear kx B0 b1 k1
      go_wp2_with fail
      refine (HA.out _).mono ?_
      rintro e w' ⟨rfl, rfl⟩
      go_wp2_with fail
      refine (HC.out _).mono ?_
      rintro e w' ⟨rfl, rfl⟩
      go_wp2_with fail
      refine (HD.out _).mono ?_
      rintro e w' ⟨rfl, rfl⟩
      go_wp2_with fail
      go_ret
      exact ⟨ret_int (by have := HS2.out; omega), B1.out⟩
    · rw [decide_eq_false hd] at HD
      have HS2 : Hid (s = -1) := by show _ = _; rw [HS.out, if_neg hd]
      go_enter Try.func91, Try.ntmps91
      go_wp2_with fail
      refine HV.out.mono ?_
      rintro e w1 ⟨rfl, b1⟩
      have k1 := kx.below b1 kx.lt
      have z0 := k1.cell 0
      have z1 := k1.cell 1
      have z2 := k1.cell 2
      simp only [List.getElem?_toArray, List.getElem?_cons_zero, List.getElem?_cons_succ] at z0 z1 z2
      have B1 := Lib.hid (B0.trans (b1.mono B0.size))
      clear kx B0 b1 k1
      go_wp2_with fail
      refine (HA.out _).mono ?_
      rintro e w' ⟨rfl, rfl⟩
      go_wp2_with fail
      refine (HC.out _).mono ?_
      rintro e w' ⟨rfl, rfl⟩
      go_wp2_with fail
      refine (HD.out _).mono ?_
      rintro e w' ⟨rfl, rfl⟩
      go_wp2_with fail
      go_ret
      exact ⟨ret_int HS2.out.symm, B1.out⟩
  · intro a9 c9 d9 HV HA HC HD
    simp only at a9 c9 d9
    have HV := Lib.hid (HV.out (w.alloc (.cells #[.int .i64 b, .int .i64 1, .int .i64 3] 36)))
    have HC : Hid (∀ W, Calls Try.prog 76 #[.int .i64 c, .int .i64 0, .int .i64 0] W fun e w' => e = .returned (.bool true) ∧ W = w') := HC.out
    have HD : Hid (∀ W, Calls Try.prog 76 #[.int .i64 d, .int .i64 0, .int .i64 2] W fun e w' => e = .returned (.bool (decide (0 ≤ d))) ∧ W = w') := HD.out
    have HS : Hid (slotTo ⟨b, 1, 3⟩ a c d = if 0 ≤ d then (a * 1 + c) * 3 + d else -1) := rfl
    obtain ⟨s, HSS⟩ : ∃ s, Hid (slotTo ⟨b, 1, 3⟩ a c d = s) := ⟨_, rfl⟩
    rw [HSS.out] at HS ⊢
    have kx := Blk.new w 36 #[.int .i64 b, .int .i64 1, .int .i64 3]
    have B0 := below_one (w := w) (.cells #[.int .i64 b, .int .i64 1, .int .i64 3] 36)
    by_cases hd : 0 ≤ d
    · rw [decide_eq_true hd] at HD
      have HS2 : Hid (s = (a * 1 + c) * 3 + d) := by show _ = _; rw [HS.out, if_pos hd]
      go_enter Try.func91, Try.ntmps91
      go_wp2_with fail
      refine HV.out.mono ?_
      rintro e w1 ⟨rfl, b1⟩
      have k1 := kx.below b1 kx.lt
      have z0 := k1.cell 0
      have z1 := k1.cell 1
      have z2 := k1.cell 2
      simp only [List.getElem?_toArray, List.getElem?_cons_zero, List.getElem?_cons_succ] at z0 z1 z2
      have B1 := Lib.hid (B0.trans (b1.mono B0.size))
      clear kx B0 b1 k1
      go_wp2_with fail
      refine (HA.out _).mono ?_
      rintro e w' ⟨rfl, rfl⟩
      go_wp2_with fail
      refine (HC.out _).mono ?_
      rintro e w' ⟨rfl, rfl⟩
      go_wp2_with fail
      refine (HD.out _).mono ?_
      rintro e w' ⟨rfl, rfl⟩
      go_wp2_with fail
      go_ret
      exact ⟨ret_int (by have := HS2.out; omega), B1.out⟩
    · rw [decide_eq_false hd] at HD
      have HS2 : Hid (s = -1) := by show _ = _; rw [HS.out, if_neg hd]
      go_enter Try.func91, Try.ntmps91
      go_wp2_with fail
      refine HV.out.mono ?_
      rintro e w1 ⟨rfl, b1⟩
      have k1 := kx.below b1 kx.lt
      have z0 := k1.cell 0
      have z1 := k1.cell 1
      have z2 := k1.cell 2
      simp only [List.getElem?_toArray, List.getElem?_cons_zero, List.getElem?_cons_succ] at z0 z1 z2
      have B1 := Lib.hid (B0.trans (b1.mono B0.size))
      clear kx B0 b1 k1
      go_wp2_with fail
      refine (HA.out _).mono ?_
      rintro e w' ⟨rfl, rfl⟩
      go_wp2_with fail
      refine (HC.out _).mono ?_
      rintro e w' ⟨rfl, rfl⟩
      go_wp2_with fail
      refine (HD.out _).mono ?_
      rintro e w' ⟨rfl, rfl⟩
      go_wp2_with fail
      go_ret
      exact ⟨ret_int HS2.out.symm, B1.out⟩
  · intro a9 c9 d9 HV HA HC HD
    simp only at a9 c9 d9
    have HV := Lib.hid (HV.out (w.alloc (.cells #[.int .i64 b, .int .i64 2, .int .i64 1] 36)))
    have HC : Hid (∀ W, Calls Try.prog 76 #[.int .i64 c, .int .i64 0, .int .i64 1] W fun e w' => e = .returned (.bool true) ∧ W = w') := HC.out
    have HD : Hid (∀ W, Calls Try.prog 76 #[.int .i64 d, .int .i64 0, .int .i64 0] W fun e w' => e = .returned (.bool (decide (0 ≤ d))) ∧ W = w') := HD.out
    have HS : Hid (slotTo ⟨b, 2, 1⟩ a c d = if 0 ≤ d then (a * 2 + c) * 1 + d else -1) := rfl
    obtain ⟨s, HSS⟩ : ∃ s, Hid (slotTo ⟨b, 2, 1⟩ a c d = s) := ⟨_, rfl⟩
    rw [HSS.out] at HS ⊢
    have kx := Blk.new w 36 #[.int .i64 b, .int .i64 2, .int .i64 1]
    have B0 := below_one (w := w) (.cells #[.int .i64 b, .int .i64 2, .int .i64 1] 36)
    by_cases hd : 0 ≤ d
    · rw [decide_eq_true hd] at HD
      have HS2 : Hid (s = (a * 2 + c) * 1 + d) := by show _ = _; rw [HS.out, if_pos hd]
      go_enter Try.func91, Try.ntmps91
      go_wp2_with fail
      refine HV.out.mono ?_
      rintro e w1 ⟨rfl, b1⟩
      have k1 := kx.below b1 kx.lt
      have z0 := k1.cell 0
      have z1 := k1.cell 1
      have z2 := k1.cell 2
      simp only [List.getElem?_toArray, List.getElem?_cons_zero, List.getElem?_cons_succ] at z0 z1 z2
      have B1 := Lib.hid (B0.trans (b1.mono B0.size))
      clear kx B0 b1 k1
      go_wp2_with fail
      refine (HA.out _).mono ?_
      rintro e w' ⟨rfl, rfl⟩
      go_wp2_with fail
      refine (HC.out _).mono ?_
      rintro e w' ⟨rfl, rfl⟩
      go_wp2_with fail
      refine (HD.out _).mono ?_
      rintro e w' ⟨rfl, rfl⟩
      go_wp2_with fail
      go_ret
      exact ⟨ret_int (by have := HS2.out; omega), B1.out⟩
    · rw [decide_eq_false hd] at HD
      have HS2 : Hid (s = -1) := by show _ = _; rw [HS.out, if_neg hd]
      go_enter Try.func91, Try.ntmps91
      go_wp2_with fail
      refine HV.out.mono ?_
      rintro e w1 ⟨rfl, b1⟩
      have k1 := kx.below b1 kx.lt
      have z0 := k1.cell 0
      have z1 := k1.cell 1
      have z2 := k1.cell 2
      simp only [List.getElem?_toArray, List.getElem?_cons_zero, List.getElem?_cons_succ] at z0 z1 z2
      have B1 := Lib.hid (B0.trans (b1.mono B0.size))
      clear kx B0 b1 k1
      go_wp2_with fail
      refine (HA.out _).mono ?_
      rintro e w' ⟨rfl, rfl⟩
      go_wp2_with fail
      refine (HC.out _).mono ?_
      rintro e w' ⟨rfl, rfl⟩
      go_wp2_with fail
      refine (HD.out _).mono ?_
      rintro e w' ⟨rfl, rfl⟩
      go_wp2_with fail
      go_ret
      exact ⟨ret_int HS2.out.symm, B1.out⟩
  · intro a9 c9 d9 HV HA HC HD
    simp only at a9 c9 d9
    have HV := Lib.hid (HV.out (w.alloc (.cells #[.int .i64 b, .int .i64 2, .int .i64 2] 36)))
    have HC : Hid (∀ W, Calls Try.prog 76 #[.int .i64 c, .int .i64 0, .int .i64 1] W fun e w' => e = .returned (.bool true) ∧ W = w') := HC.out
    have HD : Hid (∀ W, Calls Try.prog 76 #[.int .i64 d, .int .i64 0, .int .i64 1] W fun e w' => e = .returned (.bool (decide (0 ≤ d))) ∧ W = w') := HD.out
    have HS : Hid (slotTo ⟨b, 2, 2⟩ a c d = if 0 ≤ d then (a * 2 + c) * 2 + d else -1) := rfl
    obtain ⟨s, HSS⟩ : ∃ s, Hid (slotTo ⟨b, 2, 2⟩ a c d = s) := ⟨_, rfl⟩
    rw [HSS.out] at HS ⊢
    have kx := Blk.new w 36 #[.int .i64 b, .int .i64 2, .int .i64 2]
    have B0 := below_one (w := w) (.cells #[.int .i64 b, .int .i64 2, .int .i64 2] 36)
    by_cases hd : 0 ≤ d
    · rw [decide_eq_true hd] at HD
      have HS2 : Hid (s = (a * 2 + c) * 2 + d) := by show _ = _; rw [HS.out, if_pos hd]
      go_enter Try.func91, Try.ntmps91
      go_wp2_with fail
      refine HV.out.mono ?_
      rintro e w1 ⟨rfl, b1⟩
      have k1 := kx.below b1 kx.lt
      have z0 := k1.cell 0
      have z1 := k1.cell 1
      have z2 := k1.cell 2
      simp only [List.getElem?_toArray, List.getElem?_cons_zero, List.getElem?_cons_succ] at z0 z1 z2
      have B1 := Lib.hid (B0.trans (b1.mono B0.size))
      clear kx B0 b1 k1
      go_wp2_with fail
      refine (HA.out _).mono ?_
      rintro e w' ⟨rfl, rfl⟩
      go_wp2_with fail
      refine (HC.out _).mono ?_
      rintro e w' ⟨rfl, rfl⟩
      go_wp2_with fail
      refine (HD.out _).mono ?_
      rintro e w' ⟨rfl, rfl⟩
      go_wp2_with fail
      go_ret
      exact ⟨ret_int (by have := HS2.out; omega), B1.out⟩
    · rw [decide_eq_false hd] at HD
      have HS2 : Hid (s = -1) := by show _ = _; rw [HS.out, if_neg hd]
      go_enter Try.func91, Try.ntmps91
      go_wp2_with fail
      refine HV.out.mono ?_
      rintro e w1 ⟨rfl, b1⟩
      have k1 := kx.below b1 kx.lt
      have z0 := k1.cell 0
      have z1 := k1.cell 1
      have z2 := k1.cell 2
      simp only [List.getElem?_toArray, List.getElem?_cons_zero, List.getElem?_cons_succ] at z0 z1 z2
      have B1 := Lib.hid (B0.trans (b1.mono B0.size))
      clear kx B0 b1 k1
      go_wp2_with fail
      refine (HA.out _).mono ?_
      rintro e w' ⟨rfl, rfl⟩
      go_wp2_with fail
      refine (HC.out _).mono ?_
      rintro e w' ⟨rfl, rfl⟩
      go_wp2_with fail
      refine (HD.out _).mono ?_
      rintro e w' ⟨rfl, rfl⟩
      go_wp2_with fail
      go_ret
      exact ⟨ret_int HS2.out.symm, B1.out⟩
  · intro a9 c9 d9 HV HA HC HD
    simp only at a9 c9 d9
    have HV := Lib.hid (HV.out (w.alloc (.cells #[.int .i64 b, .int .i64 2, .int .i64 3] 36)))
    have HC : Hid (∀ W, Calls Try.prog 76 #[.int .i64 c, .int .i64 0, .int .i64 1] W fun e w' => e = .returned (.bool true) ∧ W = w') := HC.out
    have HD : Hid (∀ W, Calls Try.prog 76 #[.int .i64 d, .int .i64 0, .int .i64 2] W fun e w' => e = .returned (.bool (decide (0 ≤ d))) ∧ W = w') := HD.out
    have HS : Hid (slotTo ⟨b, 2, 3⟩ a c d = if 0 ≤ d then (a * 2 + c) * 3 + d else -1) := rfl
    obtain ⟨s, HSS⟩ : ∃ s, Hid (slotTo ⟨b, 2, 3⟩ a c d = s) := ⟨_, rfl⟩
    rw [HSS.out] at HS ⊢
    have kx := Blk.new w 36 #[.int .i64 b, .int .i64 2, .int .i64 3]
    have B0 := below_one (w := w) (.cells #[.int .i64 b, .int .i64 2, .int .i64 3] 36)
    by_cases hd : 0 ≤ d
    · rw [decide_eq_true hd] at HD
      have HS2 : Hid (s = (a * 2 + c) * 3 + d) := by show _ = _; rw [HS.out, if_pos hd]
      go_enter Try.func91, Try.ntmps91
      go_wp2_with fail
      refine HV.out.mono ?_
      rintro e w1 ⟨rfl, b1⟩
      have k1 := kx.below b1 kx.lt
      have z0 := k1.cell 0
      have z1 := k1.cell 1
      have z2 := k1.cell 2
      simp only [List.getElem?_toArray, List.getElem?_cons_zero, List.getElem?_cons_succ] at z0 z1 z2
      have B1 := Lib.hid (B0.trans (b1.mono B0.size))
      clear kx B0 b1 k1
      go_wp2_with fail
      refine (HA.out _).mono ?_
      rintro e w' ⟨rfl, rfl⟩
      go_wp2_with fail
      refine (HC.out _).mono ?_
      rintro e w' ⟨rfl, rfl⟩
      go_wp2_with fail
      refine (HD.out _).mono ?_
      rintro e w' ⟨rfl, rfl⟩
      go_wp2_with fail
      go_ret
      exact ⟨ret_int (by have := HS2.out; omega), B1.out⟩
    · rw [decide_eq_false hd] at HD
      have HS2 : Hid (s = -1) := by show _ = _; rw [HS.out, if_neg hd]
      go_enter Try.func91, Try.ntmps91
      go_wp2_with fail
      refine HV.out.mono ?_
      rintro e w1 ⟨rfl, b1⟩
      have k1 := kx.below b1 kx.lt
      have z0 := k1.cell 0
      have z1 := k1.cell 1
      have z2 := k1.cell 2
      simp only [List.getElem?_toArray, List.getElem?_cons_zero, List.getElem?_cons_succ] at z0 z1 z2
      have B1 := Lib.hid (B0.trans (b1.mono B0.size))
      clear kx B0 b1 k1
      go_wp2_with fail
      refine (HA.out _).mono ?_
      rintro e w' ⟨rfl, rfl⟩
      go_wp2_with fail
      refine (HC.out _).mono ?_
      rintro e w' ⟨rfl, rfl⟩
      go_wp2_with fail
      refine (HD.out _).mono ?_
      rintro e w' ⟨rfl, rfl⟩
      go_wp2_with fail
      go_ret
      exact ⟨ret_int HS2.out.symm, B1.out⟩
  · intro a9 c9 d9 HV HA HC HD
    simp only at a9 c9 d9
    have HV := Lib.hid (HV.out (w.alloc (.cells #[.int .i64 b, .int .i64 3, .int .i64 1] 36)))
    have HC : Hid (∀ W, Calls Try.prog 76 #[.int .i64 c, .int .i64 0, .int .i64 2] W fun e w' => e = .returned (.bool true) ∧ W = w') := HC.out
    have HD : Hid (∀ W, Calls Try.prog 76 #[.int .i64 d, .int .i64 0, .int .i64 0] W fun e w' => e = .returned (.bool (decide (0 ≤ d))) ∧ W = w') := HD.out
    have HS : Hid (slotTo ⟨b, 3, 1⟩ a c d = if 0 ≤ d then (a * 3 + c) * 1 + d else -1) := rfl
    obtain ⟨s, HSS⟩ : ∃ s, Hid (slotTo ⟨b, 3, 1⟩ a c d = s) := ⟨_, rfl⟩
    rw [HSS.out] at HS ⊢
    have kx := Blk.new w 36 #[.int .i64 b, .int .i64 3, .int .i64 1]
    have B0 := below_one (w := w) (.cells #[.int .i64 b, .int .i64 3, .int .i64 1] 36)
    by_cases hd : 0 ≤ d
    · rw [decide_eq_true hd] at HD
      have HS2 : Hid (s = (a * 3 + c) * 1 + d) := by show _ = _; rw [HS.out, if_pos hd]
      go_enter Try.func91, Try.ntmps91
      go_wp2_with fail
      refine HV.out.mono ?_
      rintro e w1 ⟨rfl, b1⟩
      have k1 := kx.below b1 kx.lt
      have z0 := k1.cell 0
      have z1 := k1.cell 1
      have z2 := k1.cell 2
      simp only [List.getElem?_toArray, List.getElem?_cons_zero, List.getElem?_cons_succ] at z0 z1 z2
      have B1 := Lib.hid (B0.trans (b1.mono B0.size))
      clear kx B0 b1 k1
      go_wp2_with fail
      refine (HA.out _).mono ?_
      rintro e w' ⟨rfl, rfl⟩
      go_wp2_with fail
      refine (HC.out _).mono ?_
      rintro e w' ⟨rfl, rfl⟩
      go_wp2_with fail
      refine (HD.out _).mono ?_
      rintro e w' ⟨rfl, rfl⟩
      go_wp2_with fail
      go_ret
      exact ⟨ret_int (by have := HS2.out; omega), B1.out⟩
    · rw [decide_eq_false hd] at HD
      have HS2 : Hid (s = -1) := by show _ = _; rw [HS.out, if_neg hd]
      go_enter Try.func91, Try.ntmps91
      go_wp2_with fail
      refine HV.out.mono ?_
      rintro e w1 ⟨rfl, b1⟩
      have k1 := kx.below b1 kx.lt
      have z0 := k1.cell 0
      have z1 := k1.cell 1
      have z2 := k1.cell 2
      simp only [List.getElem?_toArray, List.getElem?_cons_zero, List.getElem?_cons_succ] at z0 z1 z2
      have B1 := Lib.hid (B0.trans (b1.mono B0.size))
      clear kx B0 b1 k1
      go_wp2_with fail
      refine (HA.out _).mono ?_
      rintro e w' ⟨rfl, rfl⟩
      go_wp2_with fail
      refine (HC.out _).mono ?_
      rintro e w' ⟨rfl, rfl⟩
      go_wp2_with fail
      refine (HD.out _).mono ?_
      rintro e w' ⟨rfl, rfl⟩
      go_wp2_with fail
      go_ret
      exact ⟨ret_int HS2.out.symm, B1.out⟩
  · intro a9 c9 d9 HV HA HC HD
    simp only at a9 c9 d9
    have HV := Lib.hid (HV.out (w.alloc (.cells #[.int .i64 b, .int .i64 3, .int .i64 2] 36)))
    have HC : Hid (∀ W, Calls Try.prog 76 #[.int .i64 c, .int .i64 0, .int .i64 2] W fun e w' => e = .returned (.bool true) ∧ W = w') := HC.out
    have HD : Hid (∀ W, Calls Try.prog 76 #[.int .i64 d, .int .i64 0, .int .i64 1] W fun e w' => e = .returned (.bool (decide (0 ≤ d))) ∧ W = w') := HD.out
    have HS : Hid (slotTo ⟨b, 3, 2⟩ a c d = if 0 ≤ d then (a * 3 + c) * 2 + d else -1) := rfl
    obtain ⟨s, HSS⟩ : ∃ s, Hid (slotTo ⟨b, 3, 2⟩ a c d = s) := ⟨_, rfl⟩
    rw [HSS.out] at HS ⊢
    have kx := Blk.new w 36 #[.int .i64 b, .int .i64 3, .int .i64 2]
    have B0 := below_one (w := w) (.cells #[.int .i64 b, .int .i64 3, .int .i64 2] 36)
    by_cases hd : 0 ≤ d
    · rw [decide_eq_true hd] at HD
      have HS2 : Hid (s = (a * 3 + c) * 2 + d) := by show _ = _; rw [HS.out, if_pos hd]
      go_enter Try.func91, Try.ntmps91
      go_wp2_with fail
      refine HV.out.mono ?_
      rintro e w1 ⟨rfl, b1⟩
      have k1 := kx.below b1 kx.lt
      have z0 := k1.cell 0
      have z1 := k1.cell 1
      have z2 := k1.cell 2
      simp only [List.getElem?_toArray, List.getElem?_cons_zero, List.getElem?_cons_succ] at z0 z1 z2
      have B1 := Lib.hid (B0.trans (b1.mono B0.size))
      clear kx B0 b1 k1
      go_wp2_with fail
      refine (HA.out _).mono ?_
      rintro e w' ⟨rfl, rfl⟩
      go_wp2_with fail
      refine (HC.out _).mono ?_
      rintro e w' ⟨rfl, rfl⟩
      go_wp2_with fail
      refine (HD.out _).mono ?_
      rintro e w' ⟨rfl, rfl⟩
      go_wp2_with fail
      go_ret
      exact ⟨ret_int (by have := HS2.out; omega), B1.out⟩
    · rw [decide_eq_false hd] at HD
      have HS2 : Hid (s = -1) := by show _ = _; rw [HS.out, if_neg hd]
      go_enter Try.func91, Try.ntmps91
      go_wp2_with fail
      refine HV.out.mono ?_
      rintro e w1 ⟨rfl, b1⟩
      have k1 := kx.below b1 kx.lt
      have z0 := k1.cell 0
      have z1 := k1.cell 1
      have z2 := k1.cell 2
      simp only [List.getElem?_toArray, List.getElem?_cons_zero, List.getElem?_cons_succ] at z0 z1 z2
      have B1 := Lib.hid (B0.trans (b1.mono B0.size))
      clear kx B0 b1 k1
      go_wp2_with fail
      refine (HA.out _).mono ?_
      rintro e w' ⟨rfl, rfl⟩
      go_wp2_with fail
      refine (HC.out _).mono ?_
      rintro e w' ⟨rfl, rfl⟩
      go_wp2_with fail
      refine (HD.out _).mono ?_
      rintro e w' ⟨rfl, rfl⟩
      go_wp2_with fail
      go_ret
      exact ⟨ret_int HS2.out.symm, B1.out⟩
  · intro a9 c9 d9 HV HA HC HD
    simp only at a9 c9 d9
    have HV := Lib.hid (HV.out (w.alloc (.cells #[.int .i64 b, .int .i64 3, .int .i64 3] 36)))
    have HC : Hid (∀ W, Calls Try.prog 76 #[.int .i64 c, .int .i64 0, .int .i64 2] W fun e w' => e = .returned (.bool true) ∧ W = w') := HC.out
    have HD : Hid (∀ W, Calls Try.prog 76 #[.int .i64 d, .int .i64 0, .int .i64 2] W fun e w' => e = .returned (.bool (decide (0 ≤ d))) ∧ W = w') := HD.out
    have HS : Hid (slotTo ⟨b, 3, 3⟩ a c d = if 0 ≤ d then (a * 3 + c) * 3 + d else -1) := rfl
    obtain ⟨s, HSS⟩ : ∃ s, Hid (slotTo ⟨b, 3, 3⟩ a c d = s) := ⟨_, rfl⟩
    rw [HSS.out] at HS ⊢
    have kx := Blk.new w 36 #[.int .i64 b, .int .i64 3, .int .i64 3]
    have B0 := below_one (w := w) (.cells #[.int .i64 b, .int .i64 3, .int .i64 3] 36)
    by_cases hd : 0 ≤ d
    · rw [decide_eq_true hd] at HD
      have HS2 : Hid (s = (a * 3 + c) * 3 + d) := by show _ = _; rw [HS.out, if_pos hd]
      go_enter Try.func91, Try.ntmps91
      go_wp2_with fail
      refine HV.out.mono ?_
      rintro e w1 ⟨rfl, b1⟩
      have k1 := kx.below b1 kx.lt
      have z0 := k1.cell 0
      have z1 := k1.cell 1
      have z2 := k1.cell 2
      simp only [List.getElem?_toArray, List.getElem?_cons_zero, List.getElem?_cons_succ] at z0 z1 z2
      have B1 := Lib.hid (B0.trans (b1.mono B0.size))
      clear kx B0 b1 k1
      go_wp2_with fail
      refine (HA.out _).mono ?_
      rintro e w' ⟨rfl, rfl⟩
      go_wp2_with fail
      refine (HC.out _).mono ?_
      rintro e w' ⟨rfl, rfl⟩
      go_wp2_with fail
      refine (HD.out _).mono ?_
      rintro e w' ⟨rfl, rfl⟩
      go_wp2_with fail
      go_ret
      exact ⟨ret_int (by have := HS2.out; omega), B1.out⟩
    · rw [decide_eq_false hd] at HD
      have HS2 : Hid (s = -1) := by show _ = _; rw [HS.out, if_neg hd]
      go_enter Try.func91, Try.ntmps91
      go_wp2_with fail
      refine HV.out.mono ?_
      rintro e w1 ⟨rfl, b1⟩
      have k1 := kx.below b1 kx.lt
      have z0 := k1.cell 0
      have z1 := k1.cell 1
      have z2 := k1.cell 2
      simp only [List.getElem?_toArray, List.getElem?_cons_zero, List.getElem?_cons_succ] at z0 z1 z2
      have B1 := Lib.hid (B0.trans (b1.mono B0.size))
      clear kx B0 b1 k1
      go_wp2_with fail
      refine (HA.out _).mono ?_
      rintro e w' ⟨rfl, rfl⟩
      go_wp2_with fail
      refine (HC.out _).mono ?_
      rintro e w' ⟨rfl, rfl⟩
      go_wp2_with fail
      refine (HD.out _).mono ?_
      rintro e w' ⟨rfl, rfl⟩
      go_wp2_with fail
      go_ret
      exact ⟨ret_int HS2.out.symm, B1.out⟩
/-- The slot below. -/
def belowV (h : HullV) (k : Int) : Int := if 1 ≤ k % h.tiers then k - 1 else -1
set_option maxHeartbeats 1600000 in
theorem below_spec (h : HullV) (k : Int) (w : World) (hk : hullOk h) (h0 : 0 ≤ k) (h1 : k < slotsV h) :
    Calls Try.prog 69 #[.agg #[.int .i64 h.bays, .int .i64 h.rows, .int .i64 h.tiers], .int .i64 k] w fun e w' => e = .returned (.int .i64 (belowV h k)) ∧ Below w.heap.size w w' := by
  obtain ⟨⟨a0, a9⟩, ⟨c0, c9⟩, ⟨d0, d9⟩, he⟩ := place_bd hk k h0 h1
  have HP := Lib.hid (place_spec h k (w.alloc (.cells #[.int .i64 h.bays, .int .i64 h.rows, .int .i64 h.tiers] 36)) hk h0 h1)
  have HS := Lib.hid (fun W => slotOf_any h (k / h.tiers / h.rows) (k / h.tiers % h.rows) (k % h.tiers - 1) W hk a0 a9 c0 c9 (by omega) (by omega))
  have HE : Hid (slotTo h (k / h.tiers / h.rows) (k / h.tiers % h.rows) (k % h.tiers - 1) = belowV h k) := by
    show _ = _
    unfold slotTo belowV
    split
    · rw [if_pos (by omega)]; exact he
    · rw [if_neg (by omega)]
  rw [HE.out] at HS
  have q3 := hk.2.2.2
  obtain ⟨pa, HPA⟩ : ∃ x, Hid (k / h.tiers / h.rows = x) := ⟨_, rfl⟩
  obtain ⟨pc, HPC⟩ : ∃ x, Hid (k / h.tiers % h.rows = x) := ⟨_, rfl⟩
  obtain ⟨pd, HPD⟩ : ∃ x, Hid (k % h.tiers = x) := ⟨_, rfl⟩
  obtain ⟨s, HSS⟩ : ∃ s, Hid (belowV h k = s) := ⟨_, rfl⟩
  rw [HPA.out, HPC.out, HPD.out] at HP HS
  rw [HSS.out] at HS ⊢
  rw [HPD.out] at d0 d9
  clear a0 a9 c0 c9 he HE hk h0 h1
  have kx := Blk.new w 36 #[.int .i64 h.bays, .int .i64 h.rows, .int .i64 h.tiers]
  have B0 := below_one (w := w) (.cells #[.int .i64 h.bays, .int .i64 h.rows, .int .i64 h.tiers] 36)
  go_enter Try.func69, Try.ntmps69
  go_wp2_with fail
  refine HP.out.mono ?_
  rintro e w1 ⟨rfl, b1⟩
  have k1 := kx.below b1 kx.lt
  have c0 := k1.cell 0
  have c1 := k1.cell 1
  have c2 := k1.cell 2
  simp only [List.getElem?_toArray, List.getElem?_cons_zero, List.getElem?_cons_succ] at c0 c1 c2
  have B1 := B0.trans (b1.mono B0.size)
  clear kx B0 b1 k1
  go_wp2_with fail
  refine (HS.out _).mono ?_
  rintro e w2 ⟨rfl, b2⟩
  go_wp2_with fail
  go_ret
  exact ⟨rfl, B1.trans (b2.mono B1.size)⟩
end Go.Proofs.Ytphncbnnnickhaa
