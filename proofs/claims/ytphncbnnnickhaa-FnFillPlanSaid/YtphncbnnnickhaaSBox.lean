/- Lists of Box: how they lie in memory, and what the statements' helpers do with them. -/
import Derived.Test.YtphncbnnnickhaaMarkInt
import Derived.Test.YtphncbnnnickhaaOwnV
import Derived.Deep.RegionHeld3
import Derived.Deep.RegionLaw
namespace Go.Proofs.Ytphncbnnnickhaa
open Go.RowKit
set_option linter.unusedVariables false
set_option linter.unusedSimpArgs false

structure BoxV where
  id : Int
  weight : Int
  class_ : Int
  port : Int
  cold : Bool

theorem BoxV.ext_ {a b : BoxV} (h : a.id = b.id ∧ a.weight = b.weight ∧ a.class_ = b.class_ ∧ a.port = b.port ∧ a.cold = b.cold) : a = b := by cases a; cases b; simp_all
instance : DecidableEq BoxV := fun a b => if h : a.id = b.id ∧ a.weight = b.weight ∧ a.class_ = b.class_ ∧ a.port = b.port ∧ a.cold = b.cold then isTrue (BoxV.ext_ h) else isFalse (fun e => h (by subst e; simp))
def BoxV.val (x : BoxV) : Value := .agg #[.int .i64 x.id, .int .i64 x.weight, .int .i64 x.class_, .int .i64 x.port, .bool x.cold]
def flatBox : List BoxV → List Value
  | [] => []
  | x :: l => .int .i64 x.id :: .int .i64 x.weight :: .int .i64 x.class_ :: .int .i64 x.port :: .bool x.cold :: flatBox l
theorem flatBox_length (l : List BoxV) : (flatBox l).length = l.length * 5 := by
  induction l with
  | nil => rfl
  | cons x l ih => simp [flatBox, ih]; omega
theorem flatBox_at {l : List BoxV} {k : Nat} {x : BoxV} (h : l[k]? = some x) : (flatBox l)[k * 5]? = some (.int .i64 x.id) ∧ (flatBox l)[k * 5 + 1]? = some (.int .i64 x.weight) ∧ (flatBox l)[k * 5 + 2]? = some (.int .i64 x.class_) ∧ (flatBox l)[k * 5 + 3]? = some (.int .i64 x.port) ∧ (flatBox l)[k * 5 + 4]? = some (.bool x.cold) := by
  induction l generalizing k with
  | nil => simp at h
  | cons y l ih =>
    cases k with
    | zero =>
      have : y = x := by simpa using h
      subst this
      exact ⟨rfl, rfl, rfl, rfl, rfl⟩
    | succ k =>
      have h2 : l[k]? = some x := by simpa using h
      obtain ⟨e0, e1, e2, e3, e4⟩ := ih h2
      refine ⟨?_, ?_, ?_, ?_, ?_⟩
      · rw [show (k + 1) * 5 = k * 5 + 5 from by omega]; exact e0
      · rw [show (k + 1) * 5 + 1 = k * 5 + 1 + 5 from by omega]; exact e1
      · rw [show (k + 1) * 5 + 2 = k * 5 + 2 + 5 from by omega]; exact e2
      · rw [show (k + 1) * 5 + 3 = k * 5 + 3 + 5 from by omega]; exact e3
      · rw [show (k + 1) * 5 + 4 = k * 5 + 4 + 5 from by omega]; exact e4
theorem flatBox_inv {l : List BoxV} {i : Nat} {y : Value} (h : (flatBox l)[i]? = some y) : ∃ (j : Nat) (x : BoxV), l[j]? = some x ∧ ((i = j * 5 ∧ y = .int .i64 x.id) ∨ (i = j * 5 + 1 ∧ y = .int .i64 x.weight) ∨ (i = j * 5 + 2 ∧ y = .int .i64 x.class_) ∨ (i = j * 5 + 3 ∧ y = .int .i64 x.port) ∨ (i = j * 5 + 4 ∧ y = .bool x.cold)) := by
  have hi : i < l.length * 5 := by rw [← flatBox_length]; exact (List.getElem?_eq_some_iff.1 h).1
  have hj : i / 5 < l.length := by omega
  refine ⟨i / 5, l[i / 5], List.getElem?_eq_getElem hj, ?_⟩
  have e := flatBox_at (List.getElem?_eq_getElem hj)
  rcases (by omega : i = i / 5 * 5 ∨ i = i / 5 * 5 + 1 ∨ i = i / 5 * 5 + 2 ∨ i = i / 5 * 5 + 3 ∨ i = i / 5 * 5 + 4) with h1 | h1 | h1 | h1 | h1
  · have e1 := e.1
    rw [← h1, h] at e1
    have := Option.some.inj e1
    exact .inl ⟨h1, this⟩
  · have e1 := e.2.1
    rw [← h1, h] at e1
    have := Option.some.inj e1
    exact .inr (.inl ⟨h1, this⟩)
  · have e1 := e.2.2.1
    rw [← h1, h] at e1
    have := Option.some.inj e1
    exact .inr (.inr (.inl ⟨h1, this⟩))
  · have e1 := e.2.2.2.1
    rw [← h1, h] at e1
    have := Option.some.inj e1
    exact .inr (.inr (.inr (.inl ⟨h1, this⟩)))
  · have e1 := e.2.2.2.2
    rw [← h1, h] at e1
    have := Option.some.inj e1
    exact .inr (.inr (.inr (.inr (⟨h1, this⟩))))

/-- A slice at A reads as the list l. -/
def RdBox (w : World) (A : Option Addr) (l : List BoxV) : Prop :=
  ∀ (k : Nat) (x : BoxV), l[k]? = some x → ∃ b off, A = some ⟨b, off, none⟩ ∧ b < w.heap.size ∧ w.cell? ⟨b, off + k * 5, none⟩ = some (.int .i64 x.id) ∧ w.cell? ⟨b, off + k * 5 + 1, none⟩ = some (.int .i64 x.weight) ∧ w.cell? ⟨b, off + k * 5 + 2, none⟩ = some (.int .i64 x.class_) ∧ w.cell? ⟨b, off + k * 5 + 3, none⟩ = some (.int .i64 x.port) ∧ w.cell? ⟨b, off + k * 5 + 4, none⟩ = some (.bool x.cold)
section
variable {w w' : World} {A : Option Addr} {l : List BoxV}
theorem RdBox.nil_ : RdBox w A [] := fun k x h => by simp at h
theorem RdBox.at_ {k : Nat} (h : RdBox w A l) (hk : k < l.length) : ∃ b off x, A = some ⟨b, off, none⟩ ∧ b < w.heap.size ∧ Hid (l[k]? = some x) ∧ w.cell? ⟨b, off + k * 5, none⟩ = some (.int .i64 x.id) ∧ w.cell? ⟨b, off + k * 5 + 1, none⟩ = some (.int .i64 x.weight) ∧ w.cell? ⟨b, off + k * 5 + 2, none⟩ = some (.int .i64 x.class_) ∧ w.cell? ⟨b, off + k * 5 + 3, none⟩ = some (.int .i64 x.port) ∧ w.cell? ⟨b, off + k * 5 + 4, none⟩ = some (.bool x.cold) := by
  obtain ⟨b, off, e, hb, hc⟩ := h k l[k] (List.getElem?_eq_getElem hk)
  exact ⟨b, off, l[k], e, hb, List.getElem?_eq_getElem hk, hc⟩
theorem RdBox.below (h : RdBox w A l) (hb : Below w.heap.size w w') : RdBox w' A l := fun k x hx => by
  obtain ⟨b, off, e, hlt, hc⟩ := h k x hx
  have hk : ∀ i, w'.cell? ⟨b, i, none⟩ = w.cell? ⟨b, i, none⟩ := fun i => hb.cell (p := ⟨b, i, none⟩) hlt
  refine ⟨b, off, e, Nat.lt_of_lt_of_le hlt hb.size, ?_⟩
  simp only [hk]
  exact hc
theorem RdBox.alloc (h : RdBox w A l) (o : Obj) : RdBox (w.alloc o) A l := h.below ((Below.refl _ _).alloc (Nat.le_refl _) o)
theorem RdBox.drewN (h : RdBox w A l) (n : Nat) : RdBox (w.drewN n) A l := h
theorem RdBox.of_rd (h : RdV w A (flatBox l)) : RdBox w A l := fun k x hx => by
  have e := flatBox_at hx
  obtain ⟨b0, off0, e0, hb0, hc0⟩ := h _ _ e.1
  obtain ⟨b1, off1, e1, hb1, hc1⟩ := h _ _ e.2.1
  obtain ⟨b2, off2, e2, hb2, hc2⟩ := h _ _ e.2.2.1
  obtain ⟨b3, off3, e3, hb3, hc3⟩ := h _ _ e.2.2.2.1
  obtain ⟨b4, off4, e4, hb4, hc4⟩ := h _ _ e.2.2.2.2
  rw [e0] at e1
  injection e1 with e1
  injection e1 with e1a e1b e1c
  subst e1a e1b
  rw [e0] at e2
  injection e2 with e2
  injection e2 with e2a e2b e2c
  subst e2a e2b
  rw [e0] at e3
  injection e3 with e3
  injection e3 with e3a e3b e3c
  subst e3a e3b
  rw [e0] at e4
  injection e4 with e4
  injection e4 with e4a e4b e4c
  subst e4a e4b
  exact ⟨b0, off0, e0, hb0, hc0, by rw [Nat.add_assoc]; exact hc1, by rw [Nat.add_assoc]; exact hc2, by rw [Nat.add_assoc]; exact hc3, by rw [Nat.add_assoc]; exact hc4⟩
theorem RdBox.cut (h : RdBox w A l) (n : Nat) : RdBox w A (l.take n) := fun k x hx => h k x (by
  rw [List.getElem?_take] at hx
  split at hx
  · exact hx
  · cases hx)
end

set_option maxHeartbeats 400000 in
theorem eqBox_any (x y : BoxV) (w : World) :
    Calls Try.prog 45 #[.agg #[.int .i64 x.id, .int .i64 x.weight, .int .i64 x.class_, .int .i64 x.port, .bool x.cold], .agg #[.int .i64 y.id, .int .i64 y.weight, .int .i64 y.class_, .int .i64 y.port, .bool y.cold]] w fun e w' => e = .returned (.bool (decide (x = y))) ∧ Below w.heap.size w w' := by
  obtain ⟨a0, a1, a2, a3, a4⟩ := x
  obtain ⟨b0, b1, b2, b3, b4⟩ := y
  by_cases h0 : a0 = b0
  · have t0 : (a0 != b0) = false := by simp [h0]
    by_cases h1 : a1 = b1
    · have t1 : (a1 != b1) = false := by simp [h1]
      by_cases h2 : a2 = b2
      · have t2 : (a2 != b2) = false := by simp [h2]
        by_cases h3 : a3 = b3
        · have t3 : (a3 != b3) = false := by simp [h3]
          by_cases h4 : a4 = b4
          · have t4 : (!(a4 == b4)) = false := by simp [h4]
            have HX := Lib.hid (And.intro h0 (And.intro h1 (And.intro h2 (And.intro h3 h4))))
            clear h0 h1 h2 h3 h4
            go_enter Try.func45, Try.ntmps45
            go_wp2
            go_ret
            exact ⟨ret_bool (by have := HX.out; simp [this]), ((Below.refl _ _).alloc (Nat.le_refl _) _).alloc (by simp) _⟩
          · have t4 : (!(a4 == b4)) = true := by simp [h4]
            clear h0 h1 h2 h3
            have HX := Lib.hid h4
            clear h4
            go_enter Try.func45, Try.ntmps45
            go_wp2
            go_ret
            exact ⟨ret_bool (by have := HX.out; simp [this]), ((Below.refl _ _).alloc (Nat.le_refl _) _).alloc (by simp) _⟩
        · have t3 : (a3 != b3) = true := by simp [h3]
          clear h0 h1 h2
          have HX := Lib.hid h3
          clear h3
          go_enter Try.func45, Try.ntmps45
          go_wp2
          go_ret
          exact ⟨ret_bool (by have := HX.out; simp [this]), ((Below.refl _ _).alloc (Nat.le_refl _) _).alloc (by simp) _⟩
      · have t2 : (a2 != b2) = true := by simp [h2]
        clear h0 h1
        have HX := Lib.hid h2
        clear h2
        go_enter Try.func45, Try.ntmps45
        go_wp2
        go_ret
        exact ⟨ret_bool (by have := HX.out; simp [this]), ((Below.refl _ _).alloc (Nat.le_refl _) _).alloc (by simp) _⟩
    · have t1 : (a1 != b1) = true := by simp [h1]
      clear h0
      have HX := Lib.hid h1
      clear h1
      go_enter Try.func45, Try.ntmps45
      go_wp2
      go_ret
      exact ⟨ret_bool (by have := HX.out; simp [this]), ((Below.refl _ _).alloc (Nat.le_refl _) _).alloc (by simp) _⟩
  · have t0 : (a0 != b0) = true := by simp [h0]
    have HX := Lib.hid h0
    clear h0
    go_enter Try.func45, Try.ntmps45
    go_wp2
    go_ret
    exact ⟨ret_bool (by have := HX.out; simp [this]), ((Below.refl _ _).alloc (Nat.le_refl _) _).alloc (by simp) _⟩
set_option maxHeartbeats 800000 in
theorem eqBoxS_any (A B : Option Addr) (l m : List BoxV) (c d : Nat) (w : World) (ha : RdBox w A l) (hb : RdBox w B m) (hl : l.length ≤ 1048576) (hm : m.length ≤ 1048576) :
    Calls Try.prog 13 #[.slice A l.length c, .slice B m.length d] w fun e w' => e = .returned (.bool (decide (l = m))) ∧ Below w.heap.size w w' := by
  by_cases h : l.length = m.length
  · go_enter Try.func13, Try.ntmps13
    have H := Lib.hid h
    have h1 : ((l.length : Int) != (m.length : Int)) = false := by simp [h]
    clear h
    go_wp2
    go_loopw [5] (fun i wr => ∃ k : Nat, k ≤ l.length ∧ i = .int .i64 k ∧ Below w.heap.size w wr ∧ Hid (l.take k = m.take k)) (fun i _ => l.length - (intOf i).toNat)
    case atStart => exact ⟨0, by omega, rfl, Below.refl _ _, rfl⟩
    case round =>
      obtain ⟨k, hk, rfl, hbw, Hk⟩ := hrel
      by_cases hlt : k < l.length
      · obtain ⟨b, off, x, rfl, hbx, Hx, hx0, hx1, hx2, hx3, hx4⟩ := (ha.below hbw).at_ hlt
        obtain ⟨b', off', y, rfl, hby, Hy, hy0, hy1, hy2, hy3, hy4⟩ := (hb.below hbw).at_ (k := k) (by have := H.out; omega)
        have hkm : k < m.length := by have := H.out; omega
        have q0 : (0 : Int) ≤ (k : Int) := by omega
        have q1 : (k : Int) < (l.length : Int) := by omega
        have q2 : (k : Int) < (m.length : Int) := by omega
        by_cases hxy : x = y
        · have HE : Hid (x = y) := hxy
          have HC : Hid (∀ w, Calls Try.prog 45 #[.agg #[.int .i64 x.id, .int .i64 x.weight, .int .i64 x.class_, .int .i64 x.port, .bool x.cold], .agg #[.int .i64 y.id, .int .i64 y.weight, .int .i64 y.class_, .int .i64 y.port, .bool y.cold]] w fun e w' => e = .returned (.bool true) ∧ Below w.heap.size w w') := fun w => (eqBox_any x y w).mono fun _ _ ⟨he, hw⟩ => ⟨he.trans (ret_bool (by simp [hxy])), hw⟩
          clear hxy
          go_wp2_with fail
          go_region_held3 (fun w' => w'.cell? ⟨b, off + k * 5, none⟩ = some (.int .i64 x.id) ∧ w'.cell? ⟨b, off + k * 5 + 1, none⟩ = some (.int .i64 x.weight) ∧ w'.cell? ⟨b, off + k * 5 + 2, none⟩ = some (.int .i64 x.class_) ∧ w'.cell? ⟨b, off + k * 5 + 3, none⟩ = some (.int .i64 x.port) ∧ w'.cell? ⟨b, off + k * 5 + 4, none⟩ = some (.bool x.cold) ∧ w'.cell? ⟨b', off' + k * 5, none⟩ = some (.int .i64 y.id) ∧ w'.cell? ⟨b', off' + k * 5 + 1, none⟩ = some (.int .i64 y.weight) ∧ w'.cell? ⟨b', off' + k * 5 + 2, none⟩ = some (.int .i64 y.class_) ∧ w'.cell? ⟨b', off' + k * 5 + 3, none⟩ = some (.int .i64 y.port) ∧ w'.cell? ⟨b', off' + k * 5 + 4, none⟩ = some (.bool y.cold)) (first | go_keep | exact ⟨(hb1.cell (p := ⟨b, off + k * 5, none⟩) hbx).trans hx0, (hb1.cell (p := ⟨b, off + k * 5 + 1, none⟩) hbx).trans hx1, (hb1.cell (p := ⟨b, off + k * 5 + 2, none⟩) hbx).trans hx2, (hb1.cell (p := ⟨b, off + k * 5 + 3, none⟩) hbx).trans hx3, (hb1.cell (p := ⟨b, off + k * 5 + 4, none⟩) hbx).trans hx4, (hb1.cell (p := ⟨b', off' + k * 5, none⟩) hby).trans hy0, (hb1.cell (p := ⟨b', off' + k * 5 + 1, none⟩) hby).trans hy1, (hb1.cell (p := ⟨b', off' + k * 5 + 2, none⟩) hby).trans hy2, (hb1.cell (p := ⟨b', off' + k * 5 + 3, none⟩) hby).trans hy3, (hb1.cell (p := ⟨b', off' + k * 5 + 4, none⟩) hby).trans hy4⟩) (first | (go_at_call 45; refine (HC.out _).mono ?_; rintro e w1 ⟨rfl, hb1⟩))
          go_wp2
          exact ⟨⟨k + 1, by omega, by go_num, hbw.drew.trans (hb1.mono hbw.size), take_eq_next Hx.out (by rw [HE.out]; exact Hy.out) Hk.out⟩, by simp [intOf]; omega⟩
        · have HE : Hid (¬ x = y) := hxy
          have HC : Hid (∀ w, Calls Try.prog 45 #[.agg #[.int .i64 x.id, .int .i64 x.weight, .int .i64 x.class_, .int .i64 x.port, .bool x.cold], .agg #[.int .i64 y.id, .int .i64 y.weight, .int .i64 y.class_, .int .i64 y.port, .bool y.cold]] w fun e w' => e = .returned (.bool false) ∧ Below w.heap.size w w') := fun w => (eqBox_any x y w).mono fun _ _ ⟨he, hw⟩ => ⟨he.trans (ret_bool (by simp [hxy])), hw⟩
          clear hxy
          go_wp2_with fail
          go_region_held3 (fun w' => w'.cell? ⟨b, off + k * 5, none⟩ = some (.int .i64 x.id) ∧ w'.cell? ⟨b, off + k * 5 + 1, none⟩ = some (.int .i64 x.weight) ∧ w'.cell? ⟨b, off + k * 5 + 2, none⟩ = some (.int .i64 x.class_) ∧ w'.cell? ⟨b, off + k * 5 + 3, none⟩ = some (.int .i64 x.port) ∧ w'.cell? ⟨b, off + k * 5 + 4, none⟩ = some (.bool x.cold) ∧ w'.cell? ⟨b', off' + k * 5, none⟩ = some (.int .i64 y.id) ∧ w'.cell? ⟨b', off' + k * 5 + 1, none⟩ = some (.int .i64 y.weight) ∧ w'.cell? ⟨b', off' + k * 5 + 2, none⟩ = some (.int .i64 y.class_) ∧ w'.cell? ⟨b', off' + k * 5 + 3, none⟩ = some (.int .i64 y.port) ∧ w'.cell? ⟨b', off' + k * 5 + 4, none⟩ = some (.bool y.cold)) (first | go_keep | exact ⟨(hb1.cell (p := ⟨b, off + k * 5, none⟩) hbx).trans hx0, (hb1.cell (p := ⟨b, off + k * 5 + 1, none⟩) hbx).trans hx1, (hb1.cell (p := ⟨b, off + k * 5 + 2, none⟩) hbx).trans hx2, (hb1.cell (p := ⟨b, off + k * 5 + 3, none⟩) hbx).trans hx3, (hb1.cell (p := ⟨b, off + k * 5 + 4, none⟩) hbx).trans hx4, (hb1.cell (p := ⟨b', off' + k * 5, none⟩) hby).trans hy0, (hb1.cell (p := ⟨b', off' + k * 5 + 1, none⟩) hby).trans hy1, (hb1.cell (p := ⟨b', off' + k * 5 + 2, none⟩) hby).trans hy2, (hb1.cell (p := ⟨b', off' + k * 5 + 3, none⟩) hby).trans hy3, (hb1.cell (p := ⟨b', off' + k * 5 + 4, none⟩) hby).trans hy4⟩) (first | (go_at_call 45; refine (HC.out _).mono ?_; rintro e w1 ⟨rfl, hb1⟩))
          go_wp2
          go_ret
          exact ⟨ret_bool (by simp; exact ne_of_at Hx.out Hy.out HE.out), hbw.drew.trans (hb1.mono hbw.size)⟩
      · go_wp2
        go_ret
        exact ⟨ret_bool (by simp; exact eq_of_takes (by omega) (by have := H.out; omega) Hk.out), hbw⟩
  · have h1 : ((l.length : Int) != (m.length : Int)) = true := by simp; omega
    go_enter Try.func13, Try.ntmps13
    go_wp2
    go_ret
    exact ⟨ret_bool (by simp; intro e; exact h (by rw [e])), Below.refl _ _⟩
set_option maxHeartbeats 400000 in
theorem szBoxS_yes (A : Option Addr) (n c : Nat) (w : World) (h : n ≤ 1048576) :
    Calls Try.prog 8 #[.slice A n c, .int .i64 1048576] w fun e w' => e = .returned (.int .i64 (1048576 - (n : Int))) ∧ w = w' := by
  go_enter Try.func8, Try.ntmps8
  go_wp2
  go_ret
  exact ⟨rfl, rfl⟩
set_option maxHeartbeats 400000 in
theorem szBoxS_no (A : Option Addr) (n c : Nat) (w : World) (hn : n ≤ 9223372036854775807) (h : ¬ n ≤ 1048576) :
    Calls Try.prog 8 #[.slice A n c, .int .i64 1048576] w fun e w' => e = .returned (.int .i64 (-1)) ∧ w = w' := by
  go_enter Try.func8, Try.ntmps8
  go_wp2
  go_ret
  exact ⟨rfl, rfl⟩
end Go.Proofs.Ytphncbnnnickhaa
