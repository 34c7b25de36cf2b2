/- The way that is cleared can be driven: all drives are done, and the crane is at its place. Plain Lean, no program. -/
import Derived.Test.YtiffcnhmlmblhaaRailLaw
namespace Go.Proofs.Ytiffcnhmlmblhaa
open Go.RowKit
set_option linter.unusedSimpArgs false
set_option linter.unusedVariables false

theorem all1 {Q : Nat → Prop} : (∀ i, i < 1 → Q i) ↔ Q 0 := ⟨fun h => h 0 (by omega), fun h i hi => by
    have e : i = 0 := by omega
    rw [e]; exact h⟩
theorem allS {Q : Nat → Prop} {n : Nat} : (∀ i, i < n + 1 → Q i) ↔ (∀ i, i < n → Q i) ∧ Q n :=
  ⟨fun h => ⟨fun i hi => h i (by omega), h n (by omega)⟩, fun h i hi => by
    by_cases e : i = n
    · rw [e]; exact h.2
    · exact h.1 i (by omega)⟩
theorem railV1 (a : Int) : railV [a] = true ↔ 0 ≤ a ∧ a ≤ 20 := by
  simp only [railV, decide_eq_true_eq, List.length_cons, List.length_nil, Nat.zero_add, all1, railOk, List.getD_cons_zero]
  omega
theorem railV2 (a b : Int) : railV [a, b] = true ↔ 0 ≤ a ∧ a + 2 ≤ b ∧ b ≤ 20 := by
  simp only [railV, decide_eq_true_eq, List.length_cons, List.length_nil, Nat.zero_add, allS, all1, railOk, List.getD_cons_zero, List.getD_cons_succ, Nat.reduceAdd]
  simp
  omega
theorem railV3 (a b c : Int) : railV [a, b, c] = true ↔ 0 ≤ a ∧ a + 2 ≤ b ∧ b + 2 ≤ c ∧ c ≤ 20 := by
  simp only [railV, decide_eq_true_eq, List.length_cons, List.length_nil, Nat.zero_add, allS, all1, railOk, List.getD_cons_zero, List.getD_cons_succ, Nat.reduceAdd]
  simp
  omega
theorem railV4 (a b c d : Int) : railV [a, b, c, d] = true ↔ 0 ≤ a ∧ a + 2 ≤ b ∧ b + 2 ≤ c ∧ c + 2 ≤ d ∧ d ≤ 20 := by
  simp only [railV, decide_eq_true_eq, List.length_cons, List.length_nil, Nat.zero_add, allS, all1, railOk, List.getD_cons_zero, List.getD_cons_succ, Nat.reduceAdd]
  simp
  omega

theorem step_yes {r : List Int} {n i : Nat} {t : Int} (hi : i < r.length) (h : railV (r.set i t) = true) : stepR (r, n) ⟨i, t⟩ = (r.set i t, n + 1) := by
  have hv : driveV r i t = true := by unfold driveV; rw [Int.toNat_natCast, h]; simp; omega
  simp [stepR, driveTo, hv]

/-- All drives are done; the crane is at the place; the drive alone could be done just if it is the only one. -/
def Clears (r : List Int) (c : Nat) (t : Int) : Prop :=
  ∃ R, runR r (clearW r c t) = (R, (clearW r c t).length) ∧ R.length = r.length ∧ R[c]? = some t ∧ (driveV r c t = true ↔ (clearW r c t).length = 1)

theorem run_cons {r : List Int} {n i : Nat} {t : Int} {l : List DriveV} (hi : i < r.length) (h : railV (r.set i t) = true) : List.foldl stepR (r, n) (⟨i, t⟩ :: l) = List.foldl stepR (r.set i t, n + 1) l := by
  rw [List.foldl_cons, step_yes hi h]
theorem drive_iff {r : List Int} {i : Nat} {t : Int} (hi : i < r.length) : driveV r i t = true ↔ railV (r.set i t) = true := by
  unfold driveV; rw [Int.toNat_natCast]; simp; omega
theorem clears1_0 (a t : Int) (h : railV [a] = true) (h1 : 0 ≤ t) (h2 : t ≤ 20) : Clears [a] 0 t := by
  rw [railV1] at h
  unfold Clears
  all_goals
    simp only [clearW, hiD, loD, List.length_cons, List.length_nil, Nat.zero_add, Nat.reduceAdd, Nat.reduceSub, List.getD_cons_zero, List.getD_cons_succ, List.nil_append, List.cons_append, List.append_nil, ite_true, ite_false, not_false_eq_true]
    apply Exists.intro
    refine ⟨?h1, ?h2, ?h3, ?h4⟩
    case h4 =>
      rw [drive_iff (by simp)]
      simp only [List.set_cons_succ, List.set_cons_zero, railV1]
      first | omega | (simp only [iff_true]; omega)
    case h1 =>
      unfold runR
      repeat (rw [run_cons (by simp) (by simp only [List.set_cons_succ, List.set_cons_zero, railV1]; omega)]; simp only [List.set_cons_succ, List.set_cons_zero])
      exact rfl
    case h2 => rfl
    case h3 => rfl
theorem clears2_0 (a b t : Int) (h : railV [a, b] = true) (h1 : 0 ≤ t) (h2 : t ≤ 18) : Clears [a, b] 0 t := by
  rw [railV2] at h
  unfold Clears
  by_cases k1 : b < t + 2 * (((1 : Nat) : Int) - ((0 : Nat) : Int))
  all_goals
    simp only [clearW, hiD, loD, List.length_cons, List.length_nil, Nat.zero_add, Nat.reduceAdd, Nat.reduceSub, List.getD_cons_zero, List.getD_cons_succ, k1, List.nil_append, List.cons_append, List.append_nil, ite_true, ite_false, not_false_eq_true]
    apply Exists.intro
    refine ⟨?h1, ?h2, ?h3, ?h4⟩
    case h4 =>
      rw [drive_iff (by simp)]
      simp only [List.set_cons_succ, List.set_cons_zero, railV2]
      first | omega | (simp only [iff_true]; omega)
    case h1 =>
      unfold runR
      repeat (rw [run_cons (by simp) (by simp only [List.set_cons_succ, List.set_cons_zero, railV2]; omega)]; simp only [List.set_cons_succ, List.set_cons_zero])
      exact rfl
    case h2 => rfl
    case h3 => rfl
theorem clears2_1 (a b t : Int) (h : railV [a, b] = true) (h1 : 2 ≤ t) (h2 : t ≤ 20) : Clears [a, b] 1 t := by
  rw [railV2] at h
  unfold Clears
  by_cases k0 : t - 2 * (((1 : Nat) : Int) - ((0 : Nat) : Int)) < a
  all_goals
    simp only [clearW, hiD, loD, List.length_cons, List.length_nil, Nat.zero_add, Nat.reduceAdd, Nat.reduceSub, List.getD_cons_zero, List.getD_cons_succ, k0, List.nil_append, List.cons_append, List.append_nil, ite_true, ite_false, not_false_eq_true]
    apply Exists.intro
    refine ⟨?h1, ?h2, ?h3, ?h4⟩
    case h4 =>
      rw [drive_iff (by simp)]
      simp only [List.set_cons_succ, List.set_cons_zero, railV2]
      first | omega | (simp only [iff_true]; omega)
    case h1 =>
      unfold runR
      repeat (rw [run_cons (by simp) (by simp only [List.set_cons_succ, List.set_cons_zero, railV2]; omega)]; simp only [List.set_cons_succ, List.set_cons_zero])
      exact rfl
    case h2 => rfl
    case h3 => rfl
theorem clears3_0 (a b c t : Int) (h : railV [a, b, c] = true) (h1 : 0 ≤ t) (h2 : t ≤ 16) : Clears [a, b, c] 0 t := by
  rw [railV3] at h
  unfold Clears
  by_cases k2 : c < t + 2 * (((2 : Nat) : Int) - ((0 : Nat) : Int))
  all_goals by_cases k1 : b < t + 2 * (((1 : Nat) : Int) - ((0 : Nat) : Int))
  all_goals
    simp only [clearW, hiD, loD, List.length_cons, List.length_nil, Nat.zero_add, Nat.reduceAdd, Nat.reduceSub, List.getD_cons_zero, List.getD_cons_succ, k2, k1, List.nil_append, List.cons_append, List.append_nil, ite_true, ite_false, not_false_eq_true]
    apply Exists.intro
    refine ⟨?h1, ?h2, ?h3, ?h4⟩
    case h4 =>
      rw [drive_iff (by simp)]
      simp only [List.set_cons_succ, List.set_cons_zero, railV3]
      first | omega | (simp only [iff_true]; omega)
    case h1 =>
      unfold runR
      repeat (rw [run_cons (by simp) (by simp only [List.set_cons_succ, List.set_cons_zero, railV3]; omega)]; simp only [List.set_cons_succ, List.set_cons_zero])
      exact rfl
    case h2 => rfl
    case h3 => rfl
theorem clears3_1 (a b c t : Int) (h : railV [a, b, c] = true) (h1 : 2 ≤ t) (h2 : t ≤ 18) : Clears [a, b, c] 1 t := by
  rw [railV3] at h
  unfold Clears
  by_cases k2 : c < t + 2 * (((2 : Nat) : Int) - ((1 : Nat) : Int))
  all_goals by_cases k0 : t - 2 * (((1 : Nat) : Int) - ((0 : Nat) : Int)) < a
  all_goals
    simp only [clearW, hiD, loD, List.length_cons, List.length_nil, Nat.zero_add, Nat.reduceAdd, Nat.reduceSub, List.getD_cons_zero, List.getD_cons_succ, k2, k0, List.nil_append, List.cons_append, List.append_nil, ite_true, ite_false, not_false_eq_true]
    apply Exists.intro
    refine ⟨?h1, ?h2, ?h3, ?h4⟩
    case h4 =>
      rw [drive_iff (by simp)]
      simp only [List.set_cons_succ, List.set_cons_zero, railV3]
      first | omega | (simp only [iff_true]; omega)
    case h1 =>
      unfold runR
      repeat (rw [run_cons (by simp) (by simp only [List.set_cons_succ, List.set_cons_zero, railV3]; omega)]; simp only [List.set_cons_succ, List.set_cons_zero])
      exact rfl
    case h2 => rfl
    case h3 => rfl
theorem clears3_2 (a b c t : Int) (h : railV [a, b, c] = true) (h1 : 4 ≤ t) (h2 : t ≤ 20) : Clears [a, b, c] 2 t := by
  rw [railV3] at h
  unfold Clears
  by_cases k0 : t - 2 * (((2 : Nat) : Int) - ((0 : Nat) : Int)) < a
  all_goals by_cases k1 : t - 2 * (((2 : Nat) : Int) - ((1 : Nat) : Int)) < b
  all_goals
    simp only [clearW, hiD, loD, List.length_cons, List.length_nil, Nat.zero_add, Nat.reduceAdd, Nat.reduceSub, List.getD_cons_zero, List.getD_cons_succ, k0, k1, List.nil_append, List.cons_append, List.append_nil, ite_true, ite_false, not_false_eq_true]
    apply Exists.intro
    refine ⟨?h1, ?h2, ?h3, ?h4⟩
    case h4 =>
      rw [drive_iff (by simp)]
      simp only [List.set_cons_succ, List.set_cons_zero, railV3]
      first | omega | (simp only [iff_true]; omega)
    case h1 =>
      unfold runR
      repeat (rw [run_cons (by simp) (by simp only [List.set_cons_succ, List.set_cons_zero, railV3]; omega)]; simp only [List.set_cons_succ, List.set_cons_zero])
      exact rfl
    case h2 => rfl
    case h3 => rfl
theorem clears4_0 (a b c d t : Int) (h : railV [a, b, c, d] = true) (h1 : 0 ≤ t) (h2 : t ≤ 14) : Clears [a, b, c, d] 0 t := by
  rw [railV4] at h
  unfold Clears
  by_cases k3 : d < t + 2 * (((3 : Nat) : Int) - ((0 : Nat) : Int))
  all_goals by_cases k2 : c < t + 2 * (((2 : Nat) : Int) - ((0 : Nat) : Int))
  all_goals by_cases k1 : b < t + 2 * (((1 : Nat) : Int) - ((0 : Nat) : Int))
  all_goals
    simp only [clearW, hiD, loD, List.length_cons, List.length_nil, Nat.zero_add, Nat.reduceAdd, Nat.reduceSub, List.getD_cons_zero, List.getD_cons_succ, k3, k2, k1, List.nil_append, List.cons_append, List.append_nil, ite_true, ite_false, not_false_eq_true]
    apply Exists.intro
    refine ⟨?h1, ?h2, ?h3, ?h4⟩
    case h4 =>
      rw [drive_iff (by simp)]
      simp only [List.set_cons_succ, List.set_cons_zero, railV4]
      first | omega | (simp only [iff_true]; omega)
    case h1 =>
      unfold runR
      repeat (rw [run_cons (by simp) (by simp only [List.set_cons_succ, List.set_cons_zero, railV4]; omega)]; simp only [List.set_cons_succ, List.set_cons_zero])
      exact rfl
    case h2 => rfl
    case h3 => rfl
theorem clears4_1 (a b c d t : Int) (h : railV [a, b, c, d] = true) (h1 : 2 ≤ t) (h2 : t ≤ 16) : Clears [a, b, c, d] 1 t := by
  rw [railV4] at h
  unfold Clears
  by_cases k3 : d < t + 2 * (((3 : Nat) : Int) - ((1 : Nat) : Int))
  all_goals by_cases k2 : c < t + 2 * (((2 : Nat) : Int) - ((1 : Nat) : Int))
  all_goals by_cases k0 : t - 2 * (((1 : Nat) : Int) - ((0 : Nat) : Int)) < a
  all_goals
    simp only [clearW, hiD, loD, List.length_cons, List.length_nil, Nat.zero_add, Nat.reduceAdd, Nat.reduceSub, List.getD_cons_zero, List.getD_cons_succ, k3, k2, k0, List.nil_append, List.cons_append, List.append_nil, ite_true, ite_false, not_false_eq_true]
    apply Exists.intro
    refine ⟨?h1, ?h2, ?h3, ?h4⟩
    case h4 =>
      rw [drive_iff (by simp)]
      simp only [List.set_cons_succ, List.set_cons_zero, railV4]
      first | omega | (simp only [iff_true]; omega)
    case h1 =>
      unfold runR
      repeat (rw [run_cons (by simp) (by simp only [List.set_cons_succ, List.set_cons_zero, railV4]; omega)]; simp only [List.set_cons_succ, List.set_cons_zero])
      exact rfl
    case h2 => rfl
    case h3 => rfl
theorem clears4_2 (a b c d t : Int) (h : railV [a, b, c, d] = true) (h1 : 4 ≤ t) (h2 : t ≤ 18) : Clears [a, b, c, d] 2 t := by
  rw [railV4] at h
  unfold Clears
  by_cases k3 : d < t + 2 * (((3 : Nat) : Int) - ((2 : Nat) : Int))
  all_goals by_cases k0 : t - 2 * (((2 : Nat) : Int) - ((0 : Nat) : Int)) < a
  all_goals by_cases k1 : t - 2 * (((2 : Nat) : Int) - ((1 : Nat) : Int)) < b
  all_goals
    simp only [clearW, hiD, loD, List.length_cons, List.length_nil, Nat.zero_add, Nat.reduceAdd, Nat.reduceSub, List.getD_cons_zero, List.getD_cons_succ, k3, k0, k1, List.nil_append, List.cons_append, List.append_nil, ite_true, ite_false, not_false_eq_true]
    apply Exists.intro
    refine ⟨?h1, ?h2, ?h3, ?h4⟩
    case h4 =>
      rw [drive_iff (by simp)]
      simp only [List.set_cons_succ, List.set_cons_zero, railV4]
      first | omega | (simp only [iff_true]; omega)
    case h1 =>
      unfold runR
      repeat (rw [run_cons (by simp) (by simp only [List.set_cons_succ, List.set_cons_zero, railV4]; omega)]; simp only [List.set_cons_succ, List.set_cons_zero])
      exact rfl
    case h2 => rfl
    case h3 => rfl
theorem clears4_3 (a b c d t : Int) (h : railV [a, b, c, d] = true) (h1 : 6 ≤ t) (h2 : t ≤ 20) : Clears [a, b, c, d] 3 t := by
  rw [railV4] at h
  unfold Clears
  by_cases k0 : t - 2 * (((3 : Nat) : Int) - ((0 : Nat) : Int)) < a
  all_goals by_cases k1 : t - 2 * (((3 : Nat) : Int) - ((1 : Nat) : Int)) < b
  all_goals by_cases k2 : t - 2 * (((3 : Nat) : Int) - ((2 : Nat) : Int)) < c
  all_goals
    simp only [clearW, hiD, loD, List.length_cons, List.length_nil, Nat.zero_add, Nat.reduceAdd, Nat.reduceSub, List.getD_cons_zero, List.getD_cons_succ, k0, k1, k2, List.nil_append, List.cons_append, List.append_nil, ite_true, ite_false, not_false_eq_true]
    apply Exists.intro
    refine ⟨?h1, ?h2, ?h3, ?h4⟩
    case h4 =>
      rw [drive_iff (by simp)]
      simp only [List.set_cons_succ, List.set_cons_zero, railV4]
      first | omega | (simp only [iff_true]; omega)
    case h1 =>
      unfold runR
      repeat (rw [run_cons (by simp) (by simp only [List.set_cons_succ, List.set_cons_zero, railV4]; omega)]; simp only [List.set_cons_succ, List.set_cons_zero])
      exact rfl
    case h2 => rfl
    case h3 => rfl

theorem clears {r : List Int} {c : Nat} {t : Int} (h : clearOk r c t = true) : Clears r c t := by
  unfold clearOk at h
  simp only [Bool.and_eq_true, decide_eq_true_eq] at h
  obtain ⟨⟨hv, hc0, hc⟩, ht1, ht2⟩ := h
  obtain ⟨_, l1, l4⟩ := railV_spec hv
  match r, l1, l4 with
  | [x0], _, _ =>
    simp at hc ht2
    rcases (by omega : c = 0) with rfl
    · exact clears1_0 x0 t hv (by omega) (by omega)
  | [x0, x1], _, _ =>
    simp at hc ht2
    rcases (by omega : c = 0 ∨ c = 1) with rfl | rfl
    · exact clears2_0 x0 x1 t hv (by omega) (by omega)
    · exact clears2_1 x0 x1 t hv (by omega) (by omega)
  | [x0, x1, x2], _, _ =>
    simp at hc ht2
    rcases (by omega : c = 0 ∨ c = 1 ∨ c = 2) with rfl | rfl | rfl
    · exact clears3_0 x0 x1 x2 t hv (by omega) (by omega)
    · exact clears3_1 x0 x1 x2 t hv (by omega) (by omega)
    · exact clears3_2 x0 x1 x2 t hv (by omega) (by omega)
  | [x0, x1, x2, x3], _, _ =>
    simp at hc ht2
    rcases (by omega : c = 0 ∨ c = 1 ∨ c = 2 ∨ c = 3) with rfl | rfl | rfl | rfl
    · exact clears4_0 x0 x1 x2 x3 t hv (by omega) (by omega)
    · exact clears4_1 x0 x1 x2 x3 t hv (by omega) (by omega)
    · exact clears4_2 x0 x1 x2 x3 t hv (by omega) (by omega)
    · exact clears4_3 x0 x1 x2 x3 t hv (by omega) (by omega)
  | _ :: _ :: _ :: _ :: _ :: _, _, h4 => simp at h4
end Go.Proofs.Ytiffcnhmlmblhaa
