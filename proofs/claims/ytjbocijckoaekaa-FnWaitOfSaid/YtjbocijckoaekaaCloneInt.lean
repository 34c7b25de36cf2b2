/- slices.Clone at a list of numbers: new memory, the same numbers. -/
import Derived.Test.YtjbocijckoaekaaCom
namespace Go.Proofs.Ytjbocijckoaekaa
open Go.RowKit
set_option linter.unusedVariables false
set_option maxHeartbeats 400000 in
theorem clone_any (A : Option Addr) (l : List Int) (c : Nat) (w : World) (ha : Rd w A l) (hl : l.length ≤ 1048576) :
    Calls Try.prog 56 #[.slice A l.length c] w fun e w' => ∃ A' c', e = .returned (.slice A' l.length c') ∧ l.length ≤ c' ∧ Own 3 w' w.heap.size w'.heap.size A' l ∧ Below w.heap.size w w' := by
  obtain ⟨i0, hi, hz0, hz1, hz2⟩ := info_parts info_int
  cases A with
  | none =>
    have h0 : l = [] := by
      cases l with
      | nil => rfl
      | cons x l => obtain ⟨b, off, e, _⟩ := ha 0 x rfl; cases e
    subst h0
    have hnil : ∀ w : World, (binOp .eql 29 (.slice none 0 c) (.slice none 0 0)).run Try.prog w = .ok (.bool true) w := fun w => by kernel_rfl
    go_enter Try.func56, Try.ntmps56
    go_wp2
    go_ret
    exact ⟨none, 0, rfl, Nat.le_refl _, Own.nil_, Below.refl _ _⟩
  | some a =>
    have hnil := fun W => Lib.run_eql_slice_nil (P := Try.prog) W 29 3 (some a) l.length c 0 0 Try.underlying29
    go_enter Try.func56, Try.ntmps56
    go_wp2_with (at_builtin; refine wpList_append_own _ rfl _ _ 29 rfl w.heap.size 3 i0 (.int .i64 0) 1 8 Try.underlying29 hi hz0 hz1 hz2 rfl (by decide) _ 0 [] rfl (World.ownsRow_lit w #[] 0 (Nat.le_refl _) (by unfold maxLen; omega) rfl) a l.length c (l.map (Value.int .i64)) rfl (by simp) (ha.news (cell_alloc_old _)) (ints_oneCell .i64 l) ?c3 ?c4 ?c5 ?_)
    case c3 => unfold maxLen; omega
    case c4 => omega
    case c5 => simp
    intro v' w3 hown3 hgrow _
    have K3 : Hid (w3.ownsRow w.heap.size 3 1 v' l.length (l.map (Value.int .i64))) := by
      show w3.ownsRow _ _ _ _ _ _
      simpa using hown3
    have B3 : Hid (Below w.heap.size w w3) := ((Below.refl _ _).alloc (Nat.le_refl _) _).grown hgrow (by simp) (fun k e => by simp [Value.ownBlock] at e; omega)
    clear hown3 hgrow hnil
    go_wp2
    go_ret
    obtain ⟨A', c', e, hc'⟩ := own_slice K3.out
    exact ⟨A', c', by rw [← e]; rfl, hc', Own.of_row (by rw [← e]; exact K3.out) (Nat.le_refl _), B3.out⟩
end Go.Proofs.Ytjbocijckoaekaa
