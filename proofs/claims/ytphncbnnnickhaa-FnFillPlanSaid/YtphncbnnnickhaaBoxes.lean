/- Boxes: which are valid, where one with an id lies. -/
import Derived.Test.YtphncbnnnickhaaSBox
import Derived.Test.YtphncbnnnickhaaCom
import Derived.Shelf.Abstract
namespace Go.Proofs.Ytphncbnnnickhaa
open Go.RowKit Go.Shelf
set_option linter.unusedVariables false
set_option linter.unusedSimpArgs false

/-- The first of k boxes with an id, or -1. -/
def atTo (l : List BoxV) (id : Int) : Nat → Int
  | 0 => -1
  | k + 1 => if 0 ≤ atTo l id k then atTo l id k else match l[k]? with
    | some x => if x.id = id then (k : Int) else -1
    | none => -1
theorem at_bd (l : List BoxV) (id : Int) : ∀ k : Nat, -1 ≤ atTo l id k ∧ atTo l id k < k := by
  intro k
  induction k with
  | zero => simp [atTo]
  | succ k ih =>
    unfold atTo
    split
    · omega
    · split
      · split <;> omega
      · omega
theorem at_hit {l : List BoxV} {id : Int} {k : Nat} {x : BoxV} (h : atTo l id k = -1) (hx : l[k]? = some x) (he : x.id = id) : ∀ n, k < n → atTo l id n = k := by
  intro n hn
  induction n with
  | zero => omega
  | succ n ih =>
    unfold atTo
    by_cases e : n = k
    · subst e
      rw [h, hx]
      simp [he]
    · rw [ih (by omega)]
      simp
theorem at_pass {l : List BoxV} {id : Int} {k : Nat} {x : BoxV} (h : atTo l id k = -1) (hx : l[k]? = some x) (he : x.id ≠ id) : atTo l id (k + 1) = -1 := by
  unfold atTo
  rw [h, hx]
  simp [he]
def boxCells (x : BoxV) : Value := .agg #[.int .i64 x.id, .int .i64 x.weight, .int .i64 x.class_, .int .i64 x.port, .bool x.cold]
set_option maxHeartbeats 400000 in
theorem at_clo (x : BoxV) (id : Int) (B : Nat) (W : World) (hB : Blk W B 3 #[.int .i64 id]) :
    Calls Try.prog 87 #[.agg #[.int .i64 x.id, .int .i64 x.weight, .int .i64 x.class_, .int .i64 x.port, .bool x.cold], .pointer (some ⟨B, 0, none⟩)] W fun e w' => e = .returned (.bool (decide (x.id = id))) ∧ Below W.heap.size W w' := by
  have c0 := (hB.alloc (.cells #[.int .i64 x.id, .int .i64 x.weight, .int .i64 x.class_, .int .i64 x.port, .bool x.cold] 45)).cell 0
  simp only [List.getElem?_toArray, List.getElem?_cons_zero] at c0
  go_enter Try.func87, Try.ntmps87
  go_wp2_with fail
  go_ret
  exact ⟨ret_bool (by first | rfl | simp), (Below.refl _ _).alloc (Nat.le_refl _) _⟩
theorem enters_at : ∀ args w, (callFunc 87 args).run Try.prog w = .ok (.enter 87 args) w := enters_of Try.func87 (by kernel_rfl) rfl
set_option maxHeartbeats 800000 in
theorem idxBox_any (A : Option Addr) (l : List BoxV) (n c : Nat) (id : Int) (B : Nat) (w : World) (ha : RdBox w A l) (hn : n ≤ l.length) (hl : l.length ≤ 1048576) (hB : Blk w B 3 #[.int .i64 id]) :
    Calls Try.prog 86 #[.slice A n c, .func (.func 87) #[] #[.pointer (some ⟨B, 0, none⟩)]] w fun e w' => e = .returned (.int .i64 (atTo l id n)) ∧ Below w.heap.size w w' := by
  have HP : Hid (∀ (W : World) (x : BoxV), Below w.heap.size w W → Calls Try.prog 87 #[.agg #[.int .i64 x.id, .int .i64 x.weight, .int .i64 x.class_, .int .i64 x.port, .bool x.cold], .pointer (some ⟨B, 0, none⟩)] W fun e w' => e = .returned (.bool (decide (x.id = id))) ∧ Below W.heap.size W w') :=
    fun W x hb => at_clo x id B W (hB.below hb hB.lt)
  obtain ⟨r, HR⟩ : ∃ r, Hid (atTo l id n = r) := ⟨_, rfl⟩
  rw [HR.out]
  clear hB
  go_enter Try.func86, Try.ntmps86
  go_wp2_with fail
  go_loopw [8] (fun i wr => ∃ k : Nat, k ≤ n ∧ i = .int .i64 k ∧ Hid (atTo l id k = -1) ∧ Below w.heap.size w wr) (fun i _ => n - (intOf i).toNat)
  case atStart => exact ⟨0, by omega, rfl, rfl, Below.refl _ _⟩
  case round =>
    obtain ⟨k, hk, rfl, Hk, hbw⟩ := hrel
    by_cases hlt : k < n
    · obtain ⟨b, off, x, rfl, hbx, Hx, hx0, hx1, hx2, hx3, hx4⟩ := (ha.below hbw).at_ (k := k) (by omega)
      have q0 : (0 : Int) ≤ (k : Int) := by omega
      have q1 : (k : Int) < (n : Int) := by omega
      have hcall := HP.out wr x hbw
      by_cases hq : x.id = id
      · rw [decide_eq_true hq] at hcall
        have HQ := Lib.hid hq
        have HC := Lib.hid hcall
        clear hq hcall
        go_wp2_with fail
        refine HC.out.mono ?_
        rintro e w' ⟨rfl, hb'⟩
        go_wp2_with fail
        go_ret
        exact ⟨ret_int (by rw [← HR.out]; exact (at_hit Hk.out Hx.out HQ.out n hlt).symm), hbw.trans (hb'.mono hbw.size)⟩
      · rw [decide_eq_false hq] at hcall
        have HQ := Lib.hid hq
        have HC := Lib.hid hcall
        clear hq hcall
        go_wp2_with fail
        refine HC.out.mono ?_
        rintro e w' ⟨rfl, hb'⟩
        go_wp2_with fail
        exact ⟨⟨k + 1, by omega, by go_num, at_pass Hk.out Hx.out HQ.out, hbw.trans (hb'.mono hbw.size)⟩, by simp [intOf]; omega⟩
    · obtain rfl : k = n := by omega
      go_wp2_with fail
      go_ret
      exact ⟨ret_int (by rw [← HR.out]; exact Hk.out.symm), hbw⟩
set_option maxHeartbeats 400000 in
theorem boxAt_any (A : Option Addr) (l : List BoxV) (n c : Nat) (id : Int) (w : World) (ha : RdBox w A l) (hn : n ≤ l.length) (hl : l.length ≤ 1048576) :
    Calls Try.prog 57 #[.slice A n c, .int .i64 id] w fun e w' => e = .returned (.int .i64 (atTo l id n)) ∧ Below w.heap.size w w' := by
  have HQ := Lib.hid (idxBox_any A l n c id w.heap.size _ (ha.alloc (.cells #[.int .i64 id] 3)) hn hl (Blk.new w 3 #[.int .i64 id]))
  have HB := Lib.hid ((Below.refl w.heap.size w).alloc (Nat.le_refl _) (.cells #[.int .i64 id] 3))
  obtain ⟨r, HR⟩ : ∃ r, Hid (atTo l id n = r) := ⟨_, rfl⟩
  rw [HR.out] at HQ ⊢
  go_enter Try.func57, Try.ntmps57
  go_wp2_with fail
  refine HQ.out.mono ?_
  rintro e w1 ⟨rfl, b1⟩
  go_wp2_with fail
  go_ret
  exact ⟨rfl, HB.out.trans (b1.mono HB.out.size)⟩
set_option maxHeartbeats 800000 in
theorem l2Find_any (A : Option Addr) (l : List BoxV) (c : Nat) (id : Int) (w : World) (ha : RdBox w A l) (hl : l.length ≤ 1048576) :
    Calls Try.prog 55 #[.slice A l.length c, .int .i64 id] w fun e w' => e = .returned (.int .i64 (atTo l id l.length)) ∧ w = w' := by
  obtain ⟨r, HR⟩ : ∃ r, Hid (atTo l id l.length = r) := ⟨_, rfl⟩
  rw [HR.out]
  go_enter Try.func55, Try.ntmps55
  go_wp2_with fail
  go_loop [5] (fun i => ∃ k : Nat, k ≤ l.length ∧ i = .int .i64 k ∧ Hid (atTo l id k = -1)) (fun i => l.length - (intOf i).toNat)
  case atStart => exact ⟨0, by omega, rfl, rfl⟩
  case round =>
    obtain ⟨k, hk, rfl, Hk⟩ := hrel
    by_cases hlt : k < l.length
    · obtain ⟨b, off, x, rfl, hbx, Hx, hx0, hx1, hx2, hx3, hx4⟩ := ha.at_ (k := k) hlt
      have q0 : (0 : Int) ≤ (k : Int) := by omega
      have q1 : (k : Int) < (l.length : Int) := by omega
      by_cases hq : x.id = id
      · have HQ := Lib.hid hq
        have t0 : (x.id == id) = true := beq_iff_eq.2 hq
        clear hq
        go_wp2_with fail
        go_ret
        exact ⟨ret_int (by rw [← HR.out]; exact (at_hit Hk.out Hx.out HQ.out _ hlt).symm), rfl⟩
      · have HQ := Lib.hid hq
        have t0 : (x.id == id) = false := beq_eq_false_iff_ne.2 hq
        clear hq
        go_wp2_with fail
        exact ⟨⟨k + 1, by omega, by go_num, at_pass Hk.out Hx.out HQ.out⟩, by simp [intOf]; omega⟩
    · obtain rfl : k = l.length := by omega
      go_wp2_with fail
      go_ret
      exact ⟨ret_int (by rw [← HR.out]; exact Hk.out.symm), rfl⟩
end Go.Proofs.Ytphncbnnnickhaa
