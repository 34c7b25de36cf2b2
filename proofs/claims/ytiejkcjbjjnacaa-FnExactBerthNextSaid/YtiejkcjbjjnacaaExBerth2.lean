/- BerthNext called by its statement. -/
import Derived.Test.YtiejkcjbjjnacaaBerth5
import Derived.Test.YtiejkcjbjjnacaaTCall
import Derived.Test.YtiejkcjbjjnacaaExBerth
namespace Go.Proofs.Ytiejkcjbjjnacaa
open Go.RowKit
set_option linter.unusedVariables false
set_option linter.unusedSimpArgs false

theorem nextV_is {f : FuncId} {args : Array Value} {w : World} {M : Option CallV} {q : CallV} {r : Bool} (h : Calls Try.prog f args w (NextPost M w)) (hq : M.getD ⟨0, 0, 0, 0⟩ = q) (hr : M.isSome = r) :
    Calls Try.prog f args w fun e w' => e = .returned (.tuple #[.agg #[.int .i64 q.start, .int .i64 q.hours, .int .i64 q.at_, .int .i64 q.long], .bool r]) ∧ Below w.heap.size w w' := by
  refine h.mono fun e w' h => ⟨h.1.trans ?_, h.2⟩
  rw [← hq, ← hr]
  cases M <;> rfl
theorem eqCall_same (q : CallV) (w : World) : Calls Try.prog 25 #[.agg #[.int .i64 q.start, .int .i64 q.hours, .int .i64 q.at_, .int .i64 q.long], .agg #[.int .i64 q.start, .int .i64 q.hours, .int .i64 q.at_, .int .i64 q.long]] w fun e w' => e = .returned (.bool true) ∧ Below w.heap.size w w' :=
  (eqCall_any q q w).mono fun _ _ ⟨he, hb⟩ => ⟨he.trans (ret_bool (by simp)), hb⟩

set_option maxHeartbeats 4000000 in
theorem law_ExBerthNext {A0 : Option Addr} {l0 : List CallV} {c0 : Nat} {lo hh fr : Int} (w : World) (ha0 : RdCall w A0 l0) (hl0 : l0.length ≤ 9223372036854775807) (hlo1 : -9223372036854775808 ≤ lo) (hlo2 : lo ≤ 9223372036854775807) (hhh1 : -9223372036854775808 ≤ hh) (hhh2 : hh ≤ 9223372036854775807) (hfr1 : -9223372036854775808 ≤ fr) (hfr2 : fr ≤ 9223372036854775807) :
    Calls Try.prog 6 #[.slice A0 l0.length c0, .int .i64 lo, .int .i64 hh, .int .i64 fr] w fun e w' => e = .returned (.bool true) ∧ Below w.heap.size w w' := by
  by_cases hs0 : l0.length ≤ 1048576
  · obtain ⟨q, HQ⟩ : ∃ q, Hid ((nextC l0 lo hh fr).getD ⟨0, 0, 0, 0⟩ = q) := ⟨_, rfl⟩
    obtain ⟨r, HR⟩ : ∃ r, Hid ((nextC l0 lo hh fr).isSome = r) := ⟨_, rfl⟩
    go_enter Try.func6, Try.ntmps6
    have bw : Below w.heap.size w w := Below.refl _ _
    go_wp2_with fail
    refine (szCallS_yes A0 l0.length c0 _ hs0).mono ?_
    rintro e w' ⟨rfl, rfl⟩
    go_wp2_with fail
    refine (toCallS_any A0 l0 c0 _ (ha0.below bw) hs0).mono ?_
    rintro e w1 ⟨B1, rfl, o1, b1⟩
    have bw := bw.trans (b1.mono bw.size)
    go_wp2_with fail
    refine (nextV_is (bn_spec B1 l0 l0.length lo hh fr _ (RdCall.of_rd o1.rd) hs0) HQ.out HR.out).mono ?_
    rintro e w2 ⟨rfl, b2⟩
    have bw := bw.trans (b2.mono bw.size)
    have bwa := bw.alloc bw.size (.cells #[.int .i64 q.start, .int .i64 q.hours, .int .i64 q.at_, .int .i64 q.long] 25)
    have kq := Blk.new w2 25 #[.int .i64 q.start, .int .i64 q.hours, .int .i64 q.at_, .int .i64 q.long]
    clear o1 b1 b2
    go_wp2_with fail
    refine (toCallS_any A0 l0 c0 _ (ha0.below bwa) hs0).mono ?_
    rintro e w3 ⟨B3, rfl, o3, b3⟩
    have bw := bwa.trans (b3.mono bwa.size)
    have kq := kq.below b3 kq.lt
    clear b3 bwa
    go_wp2_with fail
    refine (nextV_is (bn_impl B3 l0 l0.length lo hh fr _ (RdCall.of_rd o3.rd) hs0 (Nat.le_refl _)) HQ.out HR.out).mono ?_
    rintro e w4 ⟨rfl, b4⟩
    have bw := bw.trans (b4.mono bw.size)
    have kq := (kq.below b4 kq.lt).alloc (.cells #[.int .i64 q.start, .int .i64 q.hours, .int .i64 q.at_, .int .i64 q.long] 25)
    have o3 := o3.below b4 (Nat.le_refl _)
    have kg := Blk.new w4 25 #[.int .i64 q.start, .int .i64 q.hours, .int .i64 q.at_, .int .i64 q.long]
    have HBW := Lib.hid (bw.alloc bw.size (.cells #[.int .i64 q.start, .int .i64 q.hours, .int .i64 q.at_, .int .i64 q.long] 25))
    have HO := Lib.hid (o3.below ((Below.refl _ _).alloc (Nat.le_refl _) (.cells #[.int .i64 q.start, .int .i64 q.hours, .int .i64 q.at_, .int .i64 q.long] 25)) b4.size)
    have x0 := kq.cell 0
    have x1 := kq.cell 1
    have x2 := kq.cell 2
    have x3 := kq.cell 3
    simp only [List.getElem?_toArray, List.getElem?_cons_zero, List.getElem?_cons_succ] at x0 x1 x2 x3
    have z34 := b4.size
    clear kq kg o3 b4 bw
    go_wp2_with fail
    refine (eqCall_same q _).mono ?_
    rintro e w5 ⟨rfl, b5⟩
    have bw := HBW.out.trans (b5.mono HBW.out.size)
    have HO5 := Lib.hid (HO.out.below b5 (by simp; omega))
    clear x0 x1 x2 x3
    go_wp2_with fail
    refine (toCallS_any A0 l0 c0 _ (ha0.below bw) hs0).mono ?_
    rintro e w6 ⟨B6, rfl, o6, b6⟩
    have bw := bw.trans (b6.mono bw.size)
    have o3 := HO5.out.below b6 (by have := b5.size; simp at this; omega)
    go_wp2_with fail
    refine (eqCallS_any B3 B6 l0 l0 _ _ _ (RdCall.of_rd o3.rd) (RdCall.of_rd o6.rd) hs0 hs0).mono ?_
    rintro e w7 ⟨rfl, b7⟩
    have HB := Lib.hid (bw.trans (b7.mono bw.size))
    go_wp2_with fail
    go_ret
    exact ⟨by simp, HB.out⟩
  · go_enter Try.func6, Try.ntmps6
    go_wp2_with fail
    refine (szCallS_no A0 l0.length c0 _ hl0 hs0).mono ?_
    rintro e w' ⟨rfl, rfl⟩
    go_wp2_with fail
    go_ret
    exact ⟨rfl, Below.refl _ _⟩
end Go.Proofs.Ytiejkcjbjjnacaa
