/- Ships at a quay: slices.ContainsFunc at a list of ships. -/
import Derived.Test.YtiejkcjbjjnacaaBerth
import Derived.Shelf.Abstract
namespace Go.Proofs.Ytiejkcjbjjnacaa
open Go.RowKit
set_option linter.unusedVariables false
set_option linter.unusedSimpArgs false

/-- A function value that answers p at each ship of a list, in whatever later world. -/
def PredB (g : Nat) (lb : Array Value) (p : CallV → Bool) (w : World) (l : List CallV) : Prop :=
  ∀ (W : World) (x : CallV), x ∈ l → Below w.heap.size w W → Calls Try.prog g (#[.agg #[.int .i64 x.start, .int .i64 x.hours, .int .i64 x.at_, .int .i64 x.long]] ++ lb) W fun e w' => e = .returned (.bool (p x)) ∧ Below W.heap.size W w'
theorem any_next {p : CallV → Bool} {l : List CallV} {k : Nat} {x : CallV} (h : l[k]? = some x) : (l.take (k + 1)).any p = ((l.take k).any p || p x) := by
  rw [take_next h]; simp
theorem any_hit {p : CallV → Bool} {l : List CallV} {k n : Nat} {x : CallV} (h : l[k]? = some x) (hk : k < n) (hp : p x = true) : (l.take n).any p = true :=
  List.any_eq_true.2 ⟨x, List.mem_of_getElem? (by rw [List.getElem?_take, if_pos hk]; exact h), hp⟩

set_option maxHeartbeats 800000 in
theorem idxF_any (g : Nat) (lb : Array Value) (eg : ∀ args w, (callFunc g args).run Try.prog w = .ok (.enter g args) w) (p : CallV → Bool) (A : Option Addr) (l : List CallV) (n c : Nat) (w : World) (ha : RdCall w A l) (hn : n ≤ l.length) (hl : l.length ≤ 1048576) (hp : PredB g lb p w (l.take n)) :
    Calls Try.prog 53 #[.slice A n c, .func (.func g) #[] lb] w fun e w' => (∃ k : Int, e = .returned (.int .i64 k) ∧ -1 ≤ k ∧ k ≤ 1048576 ∧ ((l.take n).any p = decide (0 ≤ k))) ∧ Below w.heap.size w w' := by
  have HP := Lib.hid hp
  clear hp
  go_enter Try.func53, Try.ntmps53
  go_wp2_with fail
  go_loopw [8] (fun i wr => ∃ k : Nat, k ≤ n ∧ i = .int .i64 k ∧ Hid ((l.take k).any p = false) ∧ Below w.heap.size w wr) (fun i _ => n - (intOf i).toNat)
  case atStart => exact ⟨0, by omega, rfl, (by simp : _ = _), Below.refl _ _⟩
  case round =>
    obtain ⟨k, hk, rfl, Hk, hbw⟩ := hrel
    by_cases hlt : k < n
    · obtain ⟨b, off, x, rfl, hbx, Hx, hx0, hx1, hx2, hx3⟩ := (ha.below hbw).at_ (k := k) (by omega)
      have q0 : (0 : Int) ≤ (k : Int) := by omega
      have q1 : (k : Int) < (n : Int) := by omega
      have hcall := HP.out wr x (List.mem_of_getElem? (by rw [List.getElem?_take, if_pos hlt]; exact Hx.out)) hbw
      cases hq : p x with
      | true =>
        rw [hq] at hcall
        have HQ := Lib.hid hq
        have HC := Lib.hid hcall
        clear hq hcall
        go_wp2_with fail
        refine HC.out.mono ?_
        rintro e w' ⟨rfl, hb'⟩
        go_wp2_with fail
        go_ret
        exact ⟨⟨k, rfl, by omega, by omega, by rw [any_hit Hx.out hlt HQ.out]; simp⟩, hbw.trans (hb'.mono hbw.size)⟩
      | false =>
        rw [hq] at hcall
        have HQ := Lib.hid hq
        have HC := Lib.hid hcall
        clear hq hcall
        go_wp2_with fail
        refine HC.out.mono ?_
        rintro e w' ⟨rfl, hb'⟩
        go_wp2_with fail
        exact ⟨⟨k + 1, by omega, by go_num, by show _ = _; rw [any_next Hx.out, Hk.out, HQ.out]; rfl, hbw.trans (hb'.mono hbw.size)⟩, by simp [intOf]; omega⟩
    · obtain rfl : k = n := by omega
      go_wp2_with fail
      go_ret
      exact ⟨⟨-1, rfl, by omega, by omega, by rw [Hk.out]; simp⟩, hbw⟩
theorem conF_any (g : Nat) (lb : Array Value) (eg : ∀ args w, (callFunc g args).run Try.prog w = .ok (.enter g args) w) (p : CallV → Bool) (A : Option Addr) (l : List CallV) (n c : Nat) (w : World) (ha : RdCall w A l) (hn : n ≤ l.length) (hl : l.length ≤ 1048576) (hp : PredB g lb p w (l.take n)) :
    Calls Try.prog 43 #[.slice A n c, .func (.func g) #[] lb] w fun e w' => e = .returned (.bool ((l.take n).any p)) ∧ Below w.heap.size w w' := by
  go_enter Try.func43, Try.ntmps43
  go_wp2_with fail
  refine (idxF_any g lb eg p A l n c w ha hn hl hp).mono ?_
  rintro e w1 ⟨⟨k, rfl, h1, h2, h3⟩, b1⟩
  have H3 := Lib.hid h3
  clear h3
  go_wp2_with fail
  go_ret
  exact ⟨ret_bool H3.out.symm, b1⟩

theorem enters44 : ∀ args w, (callFunc 44 args).run Try.prog w = .ok (.enter 44 args) w := enters_of Try.func44 (by kernel_rfl) rfl
theorem enters46 : ∀ args w, (callFunc 46 args).run Try.prog w = .ok (.enter 46 args) w := enters_of Try.func46 (by kernel_rfl) rfl
set_option maxHeartbeats 800000 in
theorem clo_CallsValid (x y : CallV) (B : Nat) (w : World) (hx : callV x = true) (hy : callV y = true) (hk : Blk w B 25 #[.int .i64 x.start, .int .i64 x.hours, .int .i64 x.at_, .int .i64 x.long]) :
    Calls Try.prog 44 #[.agg #[.int .i64 y.start, .int .i64 y.hours, .int .i64 y.at_, .int .i64 y.long], .pointer (some ⟨B, 0, none⟩)] w fun e w' => e = .returned (.bool (clB x y)) ∧ Below w.heap.size w w' := by
  have HC := Lib.hid (fun W => clash_any x y W hx hy)
  have hlt := hk.lt
  have x0 := hk.cell 0
  have x1 := hk.cell 1
  have x2 := hk.cell 2
  have x3 := hk.cell 3
  simp at x0 x1 x2 x3
  have HB := Lib.hid ((Below.refl w.heap.size w).alloc (Nat.le_refl _) (.cells #[.int .i64 y.start, .int .i64 y.hours, .int .i64 y.at_, .int .i64 y.long] 25))
  clear hx hy hk
  go_enter Try.func44, Try.ntmps44
  go_wp2_with fail
  refine (HC.out _).mono ?_
  rintro e w1 ⟨rfl, b1⟩
  go_wp2_with fail
  go_ret
  exact ⟨rfl, HB.out.trans (b1.mono HB.out.size)⟩
theorem pred_CallsValid (x : CallV) (B : Nat) (w : World) (l : List CallV) (hx : callV x = true) (hl : ∀ y ∈ l, callV y = true) (hk : Blk w B 25 #[.int .i64 x.start, .int .i64 x.hours, .int .i64 x.at_, .int .i64 x.long]) :
    PredB 44 #[.pointer (some ⟨B, 0, none⟩)] (fun y => clB x y) w l := fun W y hy hb => clo_CallsValid x y B W hx (hl y hy) (hk.below hb hk.lt)
set_option maxHeartbeats 800000 in
theorem clo_BerthNext (x y : CallV) (B : Nat) (w : World) (hx : callV x = true) (hy : callV y = true) (hk : Blk w B 25 #[.int .i64 x.start, .int .i64 x.hours, .int .i64 x.at_, .int .i64 x.long]) :
    Calls Try.prog 46 #[.agg #[.int .i64 y.start, .int .i64 y.hours, .int .i64 y.at_, .int .i64 y.long], .pointer (some ⟨B, 0, none⟩)] w fun e w' => e = .returned (.bool (clB x y)) ∧ Below w.heap.size w w' := by
  have HC := Lib.hid (fun W => clash_any x y W hx hy)
  have hlt := hk.lt
  have x0 := hk.cell 0
  have x1 := hk.cell 1
  have x2 := hk.cell 2
  have x3 := hk.cell 3
  simp at x0 x1 x2 x3
  have HB := Lib.hid ((Below.refl w.heap.size w).alloc (Nat.le_refl _) (.cells #[.int .i64 y.start, .int .i64 y.hours, .int .i64 y.at_, .int .i64 y.long] 25))
  clear hx hy hk
  go_enter Try.func46, Try.ntmps46
  go_wp2_with fail
  refine (HC.out _).mono ?_
  rintro e w1 ⟨rfl, b1⟩
  go_wp2_with fail
  go_ret
  exact ⟨rfl, HB.out.trans (b1.mono HB.out.size)⟩
theorem pred_BerthNext (x : CallV) (B : Nat) (w : World) (l : List CallV) (hx : callV x = true) (hl : ∀ y ∈ l, callV y = true) (hk : Blk w B 25 #[.int .i64 x.start, .int .i64 x.hours, .int .i64 x.at_, .int .i64 x.long]) :
    PredB 46 #[.pointer (some ⟨B, 0, none⟩)] (fun y => clB x y) w l := fun W y hy hb => clo_BerthNext x y B W hx (hl y hy) (hk.below hb hk.lt)
end Go.Proofs.Ytiejkcjbjjnacaa
