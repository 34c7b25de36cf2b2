/- Lists of Call: how they lie in memory, and what the statements' helpers do with them. -/
import Derived.Test.YtiejkcjbjjnacaaMarkInt
import Derived.Deep.RegionHeld3
import Derived.Deep.RegionLaw
namespace Go.Proofs.Ytiejkcjbjjnacaa
open Go.RowKit
set_option linter.unusedVariables false

structure CallV where
  start : Int
  hours : Int
  at_ : Int
  long : Int

theorem CallV.ext_ {a b : CallV} (h : a.start = b.start ∧ a.hours = b.hours ∧ a.at_ = b.at_ ∧ a.long = b.long) : a = b := by cases a; cases b; simp_all
instance : DecidableEq CallV := fun a b => if h : a.start = b.start ∧ a.hours = b.hours ∧ a.at_ = b.at_ ∧ a.long = b.long then isTrue (CallV.ext_ h) else isFalse (fun e => h (by subst e; simp))
def CallV.val (x : CallV) : Value := .agg #[.int .i64 x.start, .int .i64 x.hours, .int .i64 x.at_, .int .i64 x.long]
def flatCall : List CallV → List Int
  | [] => []
  | x :: l => x.start :: x.hours :: x.at_ :: x.long :: flatCall l
theorem flatCall_length (l : List CallV) : (flatCall l).length = l.length * 4 := by
  induction l with
  | nil => rfl
  | cons x l ih => simp [flatCall, ih]; omega
theorem flatCall_at {l : List CallV} {k : Nat} {x : CallV} (h : l[k]? = some x) : (flatCall l)[k * 4]? = some x.start ∧ (flatCall l)[k * 4 + 1]? = some x.hours ∧ (flatCall l)[k * 4 + 2]? = some x.at_ ∧ (flatCall l)[k * 4 + 3]? = some x.long := by
  induction l generalizing k with
  | nil => simp at h
  | cons y l ih =>
    cases k with
    | zero =>
      have : y = x := by simpa using h
      subst this
      exact ⟨rfl, rfl, rfl, rfl⟩
    | succ k =>
      have h2 : l[k]? = some x := by simpa using h
      obtain ⟨e0, e1, e2, e3⟩ := ih h2
      refine ⟨?_, ?_, ?_, ?_⟩
      · rw [show (k + 1) * 4 = k * 4 + 4 from by omega]; exact e0
      · rw [show (k + 1) * 4 + 1 = k * 4 + 1 + 4 from by omega]; exact e1
      · rw [show (k + 1) * 4 + 2 = k * 4 + 2 + 4 from by omega]; exact e2
      · rw [show (k + 1) * 4 + 3 = k * 4 + 3 + 4 from by omega]; exact e3
theorem flatCall_inv {l : List CallV} {i : Nat} {y : Int} (h : (flatCall l)[i]? = some y) : ∃ (j : Nat) (x : CallV), l[j]? = some x ∧ ((i = j * 4 ∧ y = x.start) ∨ (i = j * 4 + 1 ∧ y = x.hours) ∨ (i = j * 4 + 2 ∧ y = x.at_) ∨ (i = j * 4 + 3 ∧ y = x.long)) := by
  have hi : i < l.length * 4 := by rw [← flatCall_length]; exact (List.getElem?_eq_some_iff.1 h).1
  have hj : i / 4 < l.length := by omega
  refine ⟨i / 4, l[i / 4], List.getElem?_eq_getElem hj, ?_⟩
  have e := flatCall_at (List.getElem?_eq_getElem hj)
  rcases (by omega : i = i / 4 * 4 ∨ i = i / 4 * 4 + 1 ∨ i = i / 4 * 4 + 2 ∨ i = i / 4 * 4 + 3) with h1 | h1 | h1 | h1
  · have e1 := e.1
    rw [← h1, h] at e1
    have := Option.some.inj e1
    exact .inl ⟨h1, this⟩
  · have e1 := e.2.1
    rw [← h1, h] at e1
    have := Option.some.inj e1
    exact .inr (.inl ⟨h1, this⟩)
  · have e1 := e.2.2.1
    rw [← h1, h] at e1
    have := Option.some.inj e1
    exact .inr (.inr (.inl ⟨h1, this⟩))
  · have e1 := e.2.2.2
    rw [← h1, h] at e1
    have := Option.some.inj e1
    exact .inr (.inr (.inr (⟨h1, this⟩)))

/-- A slice at A reads as the list l. -/
def RdCall (w : World) (A : Option Addr) (l : List CallV) : Prop :=
  ∀ (k : Nat) (x : CallV), l[k]? = some x → ∃ b off, A = some ⟨b, off, none⟩ ∧ b < w.heap.size ∧ w.cell? ⟨b, off + k * 4, none⟩ = some (.int .i64 x.start) ∧ w.cell? ⟨b, off + k * 4 + 1, none⟩ = some (.int .i64 x.hours) ∧ w.cell? ⟨b, off + k * 4 + 2, none⟩ = some (.int .i64 x.at_) ∧ w.cell? ⟨b, off + k * 4 + 3, none⟩ = some (.int .i64 x.long)
section
variable {w w' : World} {A : Option Addr} {l : List CallV}
theorem RdCall.nil_ : RdCall w A [] := fun k x h => by simp at h
theorem RdCall.at_ {k : Nat} (h : RdCall w A l) (hk : k < l.length) : ∃ b off x, A = some ⟨b, off, none⟩ ∧ b < w.heap.size ∧ Hid (l[k]? = some x) ∧ w.cell? ⟨b, off + k * 4, none⟩ = some (.int .i64 x.start) ∧ w.cell? ⟨b, off + k * 4 + 1, none⟩ = some (.int .i64 x.hours) ∧ w.cell? ⟨b, off + k * 4 + 2, none⟩ = some (.int .i64 x.at_) ∧ w.cell? ⟨b, off + k * 4 + 3, none⟩ = some (.int .i64 x.long) := by
  obtain ⟨b, off, e, hb, hc⟩ := h k l[k] (List.getElem?_eq_getElem hk)
  exact ⟨b, off, l[k], e, hb, List.getElem?_eq_getElem hk, hc⟩
theorem RdCall.below (h : RdCall w A l) (hb : Below w.heap.size w w') : RdCall w' A l := fun k x hx => by
  obtain ⟨b, off, e, hlt, hc⟩ := h k x hx
  have hk : ∀ i, w'.cell? ⟨b, i, none⟩ = w.cell? ⟨b, i, none⟩ := fun i => hb.cell (p := ⟨b, i, none⟩) hlt
  refine ⟨b, off, e, Nat.lt_of_lt_of_le hlt hb.size, ?_⟩
  simp only [hk]
  exact hc
theorem RdCall.alloc (h : RdCall w A l) (o : Obj) : RdCall (w.alloc o) A l := h.below ((Below.refl _ _).alloc (Nat.le_refl _) o)
theorem RdCall.drewN (h : RdCall w A l) (n : Nat) : RdCall (w.drewN n) A l := h
theorem RdCall.of_rd (h : Rd w A (flatCall l)) : RdCall w A l := fun k x hx => by
  have e := flatCall_at hx
  obtain ⟨b0, off0, e0, hb0, hc0⟩ := h _ _ e.1
  obtain ⟨b1, off1, e1, hb1, hc1⟩ := h _ _ e.2.1
  obtain ⟨b2, off2, e2, hb2, hc2⟩ := h _ _ e.2.2.1
  obtain ⟨b3, off3, e3, hb3, hc3⟩ := h _ _ e.2.2.2
  rw [e0] at e1
  injection e1 with e1
  injection e1 with e1a e1b e1c
  subst e1a e1b
  rw [e0] at e2
  injection e2 with e2
  injection e2 with e2a e2b e2c
  subst e2a e2b
  rw [e0] at e3
  injection e3 with e3
  injection e3 with e3a e3b e3c
  subst e3a e3b
  exact ⟨b0, off0, e0, hb0, hc0, by rw [Nat.add_assoc]; exact hc1, by rw [Nat.add_assoc]; exact hc2, by rw [Nat.add_assoc]; exact hc3⟩
theorem RdCall.cut (h : RdCall w A l) (n : Nat) : RdCall w A (l.take n) := fun k x hx => h k x (by
  rw [List.getElem?_take] at hx
  split at hx
  · exact hx
  · cases hx)
end

set_option maxHeartbeats 400000 in
theorem eqCall_any (x y : CallV) (w : World) :
    Calls Try.prog 25 #[.agg #[.int .i64 x.start, .int .i64 x.hours, .int .i64 x.at_, .int .i64 x.long], .agg #[.int .i64 y.start, .int .i64 y.hours, .int .i64 y.at_, .int .i64 y.long]] w fun e w' => e = .returned (.bool (decide (x = y))) ∧ Below w.heap.size w w' := by
  obtain ⟨a0, a1, a2, a3⟩ := x
  obtain ⟨b0, b1, b2, b3⟩ := y
  by_cases h0 : a0 = b0
  · have t0 : (a0 != b0) = false := by simp [h0]
    by_cases h1 : a1 = b1
    · have t1 : (a1 != b1) = false := by simp [h1]
      by_cases h2 : a2 = b2
      · have t2 : (a2 != b2) = false := by simp [h2]
        by_cases h3 : a3 = b3
        · have t3 : (a3 != b3) = false := by simp [h3]
          have HX := Lib.hid (And.intro h0 (And.intro h1 (And.intro h2 h3)))
          clear h0 h1 h2 h3
          go_enter Try.func25, Try.ntmps25
          go_wp2
          go_ret
          exact ⟨ret_bool (by have := HX.out; simp [this]), ((Below.refl _ _).alloc (Nat.le_refl _) _).alloc (by simp) _⟩
        · have t3 : (a3 != b3) = true := by simp [h3]
          clear h0 h1 h2
          have HX := Lib.hid h3
          clear h3
          go_enter Try.func25, Try.ntmps25
          go_wp2
          go_ret
          exact ⟨ret_bool (by have := HX.out; simp [this]), ((Below.refl _ _).alloc (Nat.le_refl _) _).alloc (by simp) _⟩
      · have t2 : (a2 != b2) = true := by simp [h2]
        clear h0 h1
        have HX := Lib.hid h2
        clear h2
        go_enter Try.func25, Try.ntmps25
        go_wp2
        go_ret
        exact ⟨ret_bool (by have := HX.out; simp [this]), ((Below.refl _ _).alloc (Nat.le_refl _) _).alloc (by simp) _⟩
    · have t1 : (a1 != b1) = true := by simp [h1]
      clear h0
      have HX := Lib.hid h1
      clear h1
      go_enter Try.func25, Try.ntmps25
      go_wp2
      go_ret
      exact ⟨ret_bool (by have := HX.out; simp [this]), ((Below.refl _ _).alloc (Nat.le_refl _) _).alloc (by simp) _⟩
  · have t0 : (a0 != b0) = true := by simp [h0]
    have HX := Lib.hid h0
    clear h0
    go_enter Try.func25, Try.ntmps25
    go_wp2
    go_ret
    exact ⟨ret_bool (by have := HX.out; simp [this]), ((Below.refl _ _).alloc (Nat.le_refl _) _).alloc (by simp) _⟩
set_option maxHeartbeats 800000 in
theorem eqCallS_any (A B : Option Addr) (l m : List CallV) (c d : Nat) (w : World) (ha : RdCall w A l) (hb : RdCall w B m) (hl : l.length ≤ 1048576) (hm : m.length ≤ 1048576) :
    Calls Try.prog 22 #[.slice A l.length c, .slice B m.length d] w fun e w' => e = .returned (.bool (decide (l = m))) ∧ Below w.heap.size w w' := by
  by_cases h : l.length = m.length
  · go_enter Try.func22, Try.ntmps22
    have H := Lib.hid h
    have h1 : ((l.length : Int) != (m.length : Int)) = false := by simp [h]
    clear h
    go_wp2
    go_loopw [5] (fun i wr => ∃ k : Nat, k ≤ l.length ∧ i = .int .i64 k ∧ Below w.heap.size w wr ∧ Hid (l.take k = m.take k)) (fun i _ => l.length - (intOf i).toNat)
    case atStart => exact ⟨0, by omega, rfl, Below.refl _ _, rfl⟩
    case round =>
      obtain ⟨k, hk, rfl, hbw, Hk⟩ := hrel
      by_cases hlt : k < l.length
      · obtain ⟨b, off, x, rfl, hbx, Hx, hx0, hx1, hx2, hx3⟩ := (ha.below hbw).at_ hlt
        obtain ⟨b', off', y, rfl, hby, Hy, hy0, hy1, hy2, hy3⟩ := (hb.below hbw).at_ (k := k) (by have := H.out; omega)
        have hkm : k < m.length := by have := H.out; omega
        have q0 : (0 : Int) ≤ (k : Int) := by omega
        have q1 : (k : Int) < (l.length : Int) := by omega
        have q2 : (k : Int) < (m.length : Int) := by omega
        by_cases hxy : x = y
        · have HE : Hid (x = y) := hxy
          have HC : Hid (∀ w, Calls Try.prog 25 #[.agg #[.int .i64 x.start, .int .i64 x.hours, .int .i64 x.at_, .int .i64 x.long], .agg #[.int .i64 y.start, .int .i64 y.hours, .int .i64 y.at_, .int .i64 y.long]] w fun e w' => e = .returned (.bool true) ∧ Below w.heap.size w w') := fun w => (eqCall_any x y w).mono fun _ _ ⟨he, hw⟩ => ⟨he.trans (ret_bool (by simp [hxy])), hw⟩
          clear hxy
          go_wp2_with fail
          go_region_held3 (fun w' => w'.cell? ⟨b, off + k * 4, none⟩ = some (.int .i64 x.start) ∧ w'.cell? ⟨b, off + k * 4 + 1, none⟩ = some (.int .i64 x.hours) ∧ w'.cell? ⟨b, off + k * 4 + 2, none⟩ = some (.int .i64 x.at_) ∧ w'.cell? ⟨b, off + k * 4 + 3, none⟩ = some (.int .i64 x.long) ∧ w'.cell? ⟨b', off' + k * 4, none⟩ = some (.int .i64 y.start) ∧ w'.cell? ⟨b', off' + k * 4 + 1, none⟩ = some (.int .i64 y.hours) ∧ w'.cell? ⟨b', off' + k * 4 + 2, none⟩ = some (.int .i64 y.at_) ∧ w'.cell? ⟨b', off' + k * 4 + 3, none⟩ = some (.int .i64 y.long)) (first | go_keep | exact ⟨(hb1.cell (p := ⟨b, off + k * 4, none⟩) hbx).trans hx0, (hb1.cell (p := ⟨b, off + k * 4 + 1, none⟩) hbx).trans hx1, (hb1.cell (p := ⟨b, off + k * 4 + 2, none⟩) hbx).trans hx2, (hb1.cell (p := ⟨b, off + k * 4 + 3, none⟩) hbx).trans hx3, (hb1.cell (p := ⟨b', off' + k * 4, none⟩) hby).trans hy0, (hb1.cell (p := ⟨b', off' + k * 4 + 1, none⟩) hby).trans hy1, (hb1.cell (p := ⟨b', off' + k * 4 + 2, none⟩) hby).trans hy2, (hb1.cell (p := ⟨b', off' + k * 4 + 3, none⟩) hby).trans hy3⟩) (first | (go_at_call 25; refine (HC.out _).mono ?_; rintro e w1 ⟨rfl, hb1⟩))
          go_wp2
          exact ⟨⟨k + 1, by omega, by go_num, hbw.drew.trans (hb1.mono hbw.size), take_eq_next Hx.out (by rw [HE.out]; exact Hy.out) Hk.out⟩, by simp [intOf]; omega⟩
        · have HE : Hid (¬ x = y) := hxy
          have HC : Hid (∀ w, Calls Try.prog 25 #[.agg #[.int .i64 x.start, .int .i64 x.hours, .int .i64 x.at_, .int .i64 x.long], .agg #[.int .i64 y.start, .int .i64 y.hours, .int .i64 y.at_, .int .i64 y.long]] w fun e w' => e = .returned (.bool false) ∧ Below w.heap.size w w') := fun w => (eqCall_any x y w).mono fun _ _ ⟨he, hw⟩ => ⟨he.trans (ret_bool (by simp [hxy])), hw⟩
          clear hxy
          go_wp2_with fail
          go_region_held3 (fun w' => w'.cell? ⟨b, off + k * 4, none⟩ = some (.int .i64 x.start) ∧ w'.cell? ⟨b, off + k * 4 + 1, none⟩ = some (.int .i64 x.hours) ∧ w'.cell? ⟨b, off + k * 4 + 2, none⟩ = some (.int .i64 x.at_) ∧ w'.cell? ⟨b, off + k * 4 + 3, none⟩ = some (.int .i64 x.long) ∧ w'.cell? ⟨b', off' + k * 4, none⟩ = some (.int .i64 y.start) ∧ w'.cell? ⟨b', off' + k * 4 + 1, none⟩ = some (.int .i64 y.hours) ∧ w'.cell? ⟨b', off' + k * 4 + 2, none⟩ = some (.int .i64 y.at_) ∧ w'.cell? ⟨b', off' + k * 4 + 3, none⟩ = some (.int .i64 y.long)) (first | go_keep | exact ⟨(hb1.cell (p := ⟨b, off + k * 4, none⟩) hbx).trans hx0, (hb1.cell (p := ⟨b, off + k * 4 + 1, none⟩) hbx).trans hx1, (hb1.cell (p := ⟨b, off + k * 4 + 2, none⟩) hbx).trans hx2, (hb1.cell (p := ⟨b, off + k * 4 + 3, none⟩) hbx).trans hx3, (hb1.cell (p := ⟨b', off' + k * 4, none⟩) hby).trans hy0, (hb1.cell (p := ⟨b', off' + k * 4 + 1, none⟩) hby).trans hy1, (hb1.cell (p := ⟨b', off' + k * 4 + 2, none⟩) hby).trans hy2, (hb1.cell (p := ⟨b', off' + k * 4 + 3, none⟩) hby).trans hy3⟩) (first | (go_at_call 25; refine (HC.out _).mono ?_; rintro e w1 ⟨rfl, hb1⟩))
          go_wp2
          go_ret
          exact ⟨ret_bool (by simp; exact ne_of_at Hx.out Hy.out HE.out), hbw.drew.trans (hb1.mono hbw.size)⟩
      · go_wp2
        go_ret
        exact ⟨ret_bool (by simp; exact eq_of_takes (by omega) (by have := H.out; omega) Hk.out), hbw⟩
  · have h1 : ((l.length : Int) != (m.length : Int)) = true := by simp; omega
    go_enter Try.func22, Try.ntmps22
    go_wp2
    go_ret
    exact ⟨ret_bool (by simp; intro e; exact h (by rw [e])), Below.refl _ _⟩
set_option maxHeartbeats 400000 in
theorem szCallS_yes (A : Option Addr) (n c : Nat) (w : World) (h : n ≤ 1048576) :
    Calls Try.prog 18 #[.slice A n c, .int .i64 1048576] w fun e w' => e = .returned (.int .i64 (1048576 - (n : Int))) ∧ w = w' := by
  go_enter Try.func18, Try.ntmps18
  go_wp2
  go_ret
  exact ⟨rfl, rfl⟩
set_option maxHeartbeats 400000 in
theorem szCallS_no (A : Option Addr) (n c : Nat) (w : World) (hn : n ≤ 9223372036854775807) (h : ¬ n ≤ 1048576) :
    Calls Try.prog 18 #[.slice A n c, .int .i64 1048576] w fun e w' => e = .returned (.int .i64 (-1)) ∧ w = w' := by
  go_enter Try.func18, Try.ntmps18
  go_wp2
  go_ret
  exact ⟨rfl, rfl⟩
end Go.Proofs.Ytiejkcjbjjnacaa
