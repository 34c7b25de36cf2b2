/- The fixed answer that each law asks for beside its own: the check digit's rest of one fixed text, and of the empty one. -/
import Derived.Test.YtphncbnnnickhaaCom
import Derived.Shelf.Small.Strs
namespace Go.Proofs.Ytphncbnnnickhaa
open Go.Shelf Go.RowKit
set_option linter.unusedVariables false
def laysIB_ren : Go.Shelf.Ren := ⟨fun | 137 => 83 | 217 => 106 | 266 => 112 | n => n, fun | 9 => 9 | 5 => 5 | 3 => 3 | n => n, fun | n => n⟩
theorem laysIB : Go.Proofs.Lays.n137 Try.prog laysIB_ren := {
  mixed := by kernel_rfl
  f137 := Try.func83.trans (congrArg some (by kernel_rfl))
  f217 := Try.func106.trans (congrArg some (by kernel_rfl))
  f266 := Try.func112.trans (congrArg some (by kernel_rfl))
  t3 := Try.underlying3
  a3 := Try.isAgg3
  z3 := Try.sizeOf3
  v3 := Try.zeroValue3
  t5 := Try.underlying5
  a5 := Try.isAgg5
  z5 := Try.sizeOf5
  v5 := Try.zeroValue5
  t9 := Try.underlying9
  a9 := Try.isAgg9
  z9 := Try.sizeOf9
  v9 := Try.zeroValue9 }
theorem ib_U (w : World) : Calls Try.prog 83 #[.string ⟨#[85, 74, 90]⟩, .int .u8 85] w fun e w' => e = .returned (.int .i64 0) ∧ w = w' :=
  (Any.strings_IndexByte laysIB ⟨#[85, 74, 90]⟩ 85 w).mono fun _ _ ⟨he, hw⟩ => ⟨he.trans (ret_int (by decide)), hw.symm⟩

def restAt : Nat → Int
  | 0 => 0 | 1 => 13 | 2 => 73 | 3 => 185 | 4 => 441 | 5 => 489 | 6 => 489 | 7 => 809 | 8 => 1321 | 9 => 2089 | _ => 6185

set_option maxHeartbeats 1000000 in
theorem rest_text (w : World) :
    Calls Try.prog 56 #[.string ⟨#[67, 83, 81, 85, 51, 48, 53, 52, 51, 56]⟩] w fun e w' => e = .returned (.int .i64 3) ∧ w = w' := by
  go_enter Try.func56, Try.ntmps56
  go_wp2_with (first | (go_at_call 83; refine (ib_U _).mono ?_; rintro e w' ⟨rfl, rfl⟩) | go_in)
  go_loop [3, 22] (fun s i => ∃ k : Nat, k ≤ 10 ∧ i = .int .i64 k ∧ s = .int .i64 (restAt k)) (fun _ i => 10 - (intOf i).toNat)
  case atStart => exact ⟨0, by omega, rfl, rfl⟩
  case round =>
    obtain ⟨k, hk, rfl, rfl⟩ := hrel
    by_cases hlt : k < 10
    · rcases (by omega : k = 0 ∨ k = 1 ∨ k = 2 ∨ k = 3 ∨ k = 4 ∨ k = 5 ∨ k = 6 ∨ k = 7 ∨ k = 8 ∨ k = 9) with rfl | rfl | rfl | rfl | rfl | rfl | rfl | rfl | rfl | rfl
      · go_wp2_with go_in
        exact ⟨⟨1, by omega, rfl, congrArg (Value.int .i64) (by kernel_rfl)⟩, by simp [intOf]⟩
      · go_wp2_with go_in
        exact ⟨⟨2, by omega, rfl, congrArg (Value.int .i64) (by kernel_rfl)⟩, by simp [intOf]⟩
      · go_wp2_with go_in
        exact ⟨⟨3, by omega, rfl, congrArg (Value.int .i64) (by kernel_rfl)⟩, by simp [intOf]⟩
      · go_wp2_with go_in
        exact ⟨⟨4, by omega, rfl, congrArg (Value.int .i64) (by kernel_rfl)⟩, by simp [intOf]⟩
      · go_wp2_with go_in
        exact ⟨⟨5, by omega, rfl, congrArg (Value.int .i64) (by kernel_rfl)⟩, by simp [intOf]⟩
      · go_wp2_with go_in
        exact ⟨⟨6, by omega, rfl, congrArg (Value.int .i64) (by kernel_rfl)⟩, by simp [intOf]⟩
      · go_wp2_with go_in
        exact ⟨⟨7, by omega, rfl, congrArg (Value.int .i64) (by kernel_rfl)⟩, by simp [intOf]⟩
      · go_wp2_with go_in
        exact ⟨⟨8, by omega, rfl, congrArg (Value.int .i64) (by kernel_rfl)⟩, by simp [intOf]⟩
      · go_wp2_with go_in
        exact ⟨⟨9, by omega, rfl, congrArg (Value.int .i64) (by kernel_rfl)⟩, by simp [intOf]⟩
      · go_wp2_with go_in
        exact ⟨⟨10, by omega, rfl, congrArg (Value.int .i64) (by kernel_rfl)⟩, by simp [intOf]⟩
    · obtain rfl : k = 10 := by omega
      go_wp2
      go_ret
      exact ⟨rfl, rfl⟩
theorem rest_empty (w : World) :
    Calls Try.prog 56 #[.string ⟨#[]⟩] w fun e w' => e = .returned (.int .i64 (-1)) ∧ w = w' := by
  go_enter Try.func56, Try.ntmps56
  go_wp2
  go_ret
  exact ⟨rfl, rfl⟩
set_option maxHeartbeats 400000 in
theorem alive_any (w : World) : Calls Try.prog 23 #[] w fun e w' => e = .returned (.bool true) ∧ w = w' := by
  go_enter Try.func23, Try.ntmps23
  go_wp2_with fail
  refine (rest_text _).mono ?_
  rintro e w' ⟨rfl, rfl⟩
  go_wp2_with fail
  refine (rest_empty _).mono ?_
  rintro e w' ⟨rfl, rfl⟩
  go_wp2_with fail
  go_ret
  exact ⟨rfl, rfl⟩
end Go.Proofs.Ytphncbnnnickhaa
