/- Lists of Ship: how they lie in memory, and what the statements' helpers do with them. -/
import Derived.Test.YtjbocijckoaekaaMarkInt
import Derived.Deep.RegionHeld3
import Derived.Deep.RegionLaw
namespace Go.Proofs.Ytjbocijckoaekaa
open Go.RowKit
set_option linter.unusedVariables false

structure ShipV where
  arrive : Int
  hours : Int

theorem ShipV.ext_ {a b : ShipV} (h : a.arrive = b.arrive ∧ a.hours = b.hours) : a = b := by cases a; cases b; simp_all
instance : DecidableEq ShipV := fun a b => if h : a.arrive = b.arrive ∧ a.hours = b.hours then isTrue (ShipV.ext_ h) else isFalse (fun e => h (by subst e; simp))
def ShipV.val (x : ShipV) : Value := .agg #[.int .i64 x.arrive, .int .i64 x.hours]
def flatShip : List ShipV → List Int
  | [] => []
  | x :: l => x.arrive :: x.hours :: flatShip l
theorem flatShip_length (l : List ShipV) : (flatShip l).length = l.length * 2 := by
  induction l with
  | nil => rfl
  | cons x l ih => simp [flatShip, ih]; omega
theorem flatShip_at {l : List ShipV} {k : Nat} {x : ShipV} (h : l[k]? = some x) : (flatShip l)[k * 2]? = some x.arrive ∧ (flatShip l)[k * 2 + 1]? = some x.hours := by
  induction l generalizing k with
  | nil => simp at h
  | cons y l ih =>
    cases k with
    | zero =>
      have : y = x := by simpa using h
      subst this
      exact ⟨rfl, rfl⟩
    | succ k =>
      have h2 : l[k]? = some x := by simpa using h
      obtain ⟨e0, e1⟩ := ih h2
      refine ⟨?_, ?_⟩
      · rw [show (k + 1) * 2 = k * 2 + 2 from by omega]; exact e0
      · rw [show (k + 1) * 2 + 1 = k * 2 + 1 + 2 from by omega]; exact e1
theorem flatShip_inv {l : List ShipV} {i : Nat} {y : Int} (h : (flatShip l)[i]? = some y) : ∃ (j : Nat) (x : ShipV), l[j]? = some x ∧ ((i = j * 2 ∧ y = x.arrive) ∨ (i = j * 2 + 1 ∧ y = x.hours)) := by
  have hi : i < l.length * 2 := by rw [← flatShip_length]; exact (List.getElem?_eq_some_iff.1 h).1
  have hj : i / 2 < l.length := by omega
  refine ⟨i / 2, l[i / 2], List.getElem?_eq_getElem hj, ?_⟩
  have e := flatShip_at (List.getElem?_eq_getElem hj)
  rcases (by omega : i = i / 2 * 2 ∨ i = i / 2 * 2 + 1) with h1 | h1
  · have e1 := e.1
    rw [← h1, h] at e1
    have := Option.some.inj e1
    exact .inl ⟨h1, this⟩
  · have e1 := e.2
    rw [← h1, h] at e1
    have := Option.some.inj e1
    exact .inr (⟨h1, this⟩)

/-- A slice at A reads as the list l. -/
def RdShip (w : World) (A : Option Addr) (l : List ShipV) : Prop :=
  ∀ (k : Nat) (x : ShipV), l[k]? = some x → ∃ b off, A = some ⟨b, off, none⟩ ∧ b < w.heap.size ∧ w.cell? ⟨b, off + k * 2, none⟩ = some (.int .i64 x.arrive) ∧ w.cell? ⟨b, off + k * 2 + 1, none⟩ = some (.int .i64 x.hours)
section
variable {w w' : World} {A : Option Addr} {l : List ShipV}
theorem RdShip.nil_ : RdShip w A [] := fun k x h => by simp at h
theorem RdShip.at_ {k : Nat} (h : RdShip w A l) (hk : k < l.length) : ∃ b off x, A = some ⟨b, off, none⟩ ∧ b < w.heap.size ∧ Hid (l[k]? = some x) ∧ w.cell? ⟨b, off + k * 2, none⟩ = some (.int .i64 x.arrive) ∧ w.cell? ⟨b, off + k * 2 + 1, none⟩ = some (.int .i64 x.hours) := by
  obtain ⟨b, off, e, hb, hc⟩ := h k l[k] (List.getElem?_eq_getElem hk)
  exact ⟨b, off, l[k], e, hb, List.getElem?_eq_getElem hk, hc⟩
theorem RdShip.below (h : RdShip w A l) (hb : Below w.heap.size w w') : RdShip w' A l := fun k x hx => by
  obtain ⟨b, off, e, hlt, hc⟩ := h k x hx
  have hk : ∀ i, w'.cell? ⟨b, i, none⟩ = w.cell? ⟨b, i, none⟩ := fun i => hb.cell (p := ⟨b, i, none⟩) hlt
  refine ⟨b, off, e, Nat.lt_of_lt_of_le hlt hb.size, ?_⟩
  simp only [hk]
  exact hc
theorem RdShip.alloc (h : RdShip w A l) (o : Obj) : RdShip (w.alloc o) A l := h.below ((Below.refl _ _).alloc (Nat.le_refl _) o)
theorem RdShip.drewN (h : RdShip w A l) (n : Nat) : RdShip (w.drewN n) A l := h
theorem RdShip.of_rd (h : Rd w A (flatShip l)) : RdShip w A l := fun k x hx => by
  have e := flatShip_at hx
  obtain ⟨b0, off0, e0, hb0, hc0⟩ := h _ _ e.1
  obtain ⟨b1, off1, e1, hb1, hc1⟩ := h _ _ e.2
  rw [e0] at e1
  injection e1 with e1
  injection e1 with e1a e1b e1c
  subst e1a e1b
  exact ⟨b0, off0, e0, hb0, hc0, by rw [Nat.add_assoc]; exact hc1⟩
theorem RdShip.cut (h : RdShip w A l) (n : Nat) : RdShip w A (l.take n) := fun k x hx => h k x (by
  rw [List.getElem?_take] at hx
  split at hx
  · exact hx
  · cases hx)
end

set_option maxHeartbeats 400000 in
theorem eqShip_any (x y : ShipV) (w : World) :
    Calls Try.prog 41 #[.agg #[.int .i64 x.arrive, .int .i64 x.hours], .agg #[.int .i64 y.arrive, .int .i64 y.hours]] w fun e w' => e = .returned (.bool (decide (x = y))) ∧ Below w.heap.size w w' := by
  obtain ⟨a0, a1⟩ := x
  obtain ⟨b0, b1⟩ := y
  by_cases h0 : a0 = b0
  · have t0 : (a0 != b0) = false := by simp [h0]
    by_cases h1 : a1 = b1
    · have t1 : (a1 != b1) = false := by simp [h1]
      have HX := Lib.hid (And.intro h0 h1)
      clear h0 h1
      go_enter Try.func41, Try.ntmps41
      go_wp2
      go_ret
      exact ⟨ret_bool (by have := HX.out; simp [this]), ((Below.refl _ _).alloc (Nat.le_refl _) _).alloc (by simp) _⟩
    · have t1 : (a1 != b1) = true := by simp [h1]
      clear h0
      have HX := Lib.hid h1
      clear h1
      go_enter Try.func41, Try.ntmps41
      go_wp2
      go_ret
      exact ⟨ret_bool (by have := HX.out; simp [this]), ((Below.refl _ _).alloc (Nat.le_refl _) _).alloc (by simp) _⟩
  · have t0 : (a0 != b0) = true := by simp [h0]
    have HX := Lib.hid h0
    clear h0
    go_enter Try.func41, Try.ntmps41
    go_wp2
    go_ret
    exact ⟨ret_bool (by have := HX.out; simp [this]), ((Below.refl _ _).alloc (Nat.le_refl _) _).alloc (by simp) _⟩
set_option maxHeartbeats 800000 in
theorem eqShipS_any (A B : Option Addr) (l m : List ShipV) (c d : Nat) (w : World) (ha : RdShip w A l) (hb : RdShip w B m) (hl : l.length ≤ 1048576) (hm : m.length ≤ 1048576) :
    Calls Try.prog 17 #[.slice A l.length c, .slice B m.length d] w fun e w' => e = .returned (.bool (decide (l = m))) ∧ Below w.heap.size w w' := by
  by_cases h : l.length = m.length
  · go_enter Try.func17, Try.ntmps17
    have H := Lib.hid h
    have h1 : ((l.length : Int) != (m.length : Int)) = false := by simp [h]
    clear h
    go_wp2
    go_loopw [5] (fun i wr => ∃ k : Nat, k ≤ l.length ∧ i = .int .i64 k ∧ Below w.heap.size w wr ∧ Hid (l.take k = m.take k)) (fun i _ => l.length - (intOf i).toNat)
    case atStart => exact ⟨0, by omega, rfl, Below.refl _ _, rfl⟩
    case round =>
      obtain ⟨k, hk, rfl, hbw, Hk⟩ := hrel
      by_cases hlt : k < l.length
      · obtain ⟨b, off, x, rfl, hbx, Hx, hx0, hx1⟩ := (ha.below hbw).at_ hlt
        obtain ⟨b', off', y, rfl, hby, Hy, hy0, hy1⟩ := (hb.below hbw).at_ (k := k) (by have := H.out; omega)
        have hkm : k < m.length := by have := H.out; omega
        have q0 : (0 : Int) ≤ (k : Int) := by omega
        have q1 : (k : Int) < (l.length : Int) := by omega
        have q2 : (k : Int) < (m.length : Int) := by omega
        by_cases hxy : x = y
        · have HE : Hid (x = y) := hxy
          have HC : Hid (∀ w, Calls Try.prog 41 #[.agg #[.int .i64 x.arrive, .int .i64 x.hours], .agg #[.int .i64 y.arrive, .int .i64 y.hours]] w fun e w' => e = .returned (.bool true) ∧ Below w.heap.size w w') := fun w => (eqShip_any x y w).mono fun _ _ ⟨he, hw⟩ => ⟨he.trans (ret_bool (by simp [hxy])), hw⟩
          clear hxy
          go_wp2_with fail
          go_region_held3 (fun w' => w'.cell? ⟨b, off + k * 2, none⟩ = some (.int .i64 x.arrive) ∧ w'.cell? ⟨b, off + k * 2 + 1, none⟩ = some (.int .i64 x.hours) ∧ w'.cell? ⟨b', off' + k * 2, none⟩ = some (.int .i64 y.arrive) ∧ w'.cell? ⟨b', off' + k * 2 + 1, none⟩ = some (.int .i64 y.hours)) (first | go_keep | exact ⟨(hb1.cell (p := ⟨b, off + k * 2, none⟩) hbx).trans hx0, (hb1.cell (p := ⟨b, off + k * 2 + 1, none⟩) hbx).trans hx1, (hb1.cell (p := ⟨b', off' + k * 2, none⟩) hby).trans hy0, (hb1.cell (p := ⟨b', off' + k * 2 + 1, none⟩) hby).trans hy1⟩) (first | (go_at_call 41; refine (HC.out _).mono ?_; rintro e w1 ⟨rfl, hb1⟩))
          go_wp2
          exact ⟨⟨k + 1, by omega, by go_num, hbw.drew.trans (hb1.mono hbw.size), take_eq_next Hx.out (by rw [HE.out]; exact Hy.out) Hk.out⟩, by simp [intOf]; omega⟩
        · have HE : Hid (¬ x = y) := hxy
          have HC : Hid (∀ w, Calls Try.prog 41 #[.agg #[.int .i64 x.arrive, .int .i64 x.hours], .agg #[.int .i64 y.arrive, .int .i64 y.hours]] w fun e w' => e = .returned (.bool false) ∧ Below w.heap.size w w') := fun w => (eqShip_any x y w).mono fun _ _ ⟨he, hw⟩ => ⟨he.trans (ret_bool (by simp [hxy])), hw⟩
          clear hxy
          go_wp2_with fail
          go_region_held3 (fun w' => w'.cell? ⟨b, off + k * 2, none⟩ = some (.int .i64 x.arrive) ∧ w'.cell? ⟨b, off + k * 2 + 1, none⟩ = some (.int .i64 x.hours) ∧ w'.cell? ⟨b', off' + k * 2, none⟩ = some (.int .i64 y.arrive) ∧ w'.cell? ⟨b', off' + k * 2 + 1, none⟩ = some (.int .i64 y.hours)) (first | go_keep | exact ⟨(hb1.cell (p := ⟨b, off + k * 2, none⟩) hbx).trans hx0, (hb1.cell (p := ⟨b, off + k * 2 + 1, none⟩) hbx).trans hx1, (hb1.cell (p := ⟨b', off' + k * 2, none⟩) hby).trans hy0, (hb1.cell (p := ⟨b', off' + k * 2 + 1, none⟩) hby).trans hy1⟩) (first | (go_at_call 41; refine (HC.out _).mono ?_; rintro e w1 ⟨rfl, hb1⟩))
          go_wp2
          go_ret
          exact ⟨ret_bool (by simp; exact ne_of_at Hx.out Hy.out HE.out), hbw.drew.trans (hb1.mono hbw.size)⟩
      · go_wp2
        go_ret
        exact ⟨ret_bool (by simp; exact eq_of_takes (by omega) (by have := H.out; omega) Hk.out), hbw⟩
  · have h1 : ((l.length : Int) != (m.length : Int)) = true := by simp; omega
    go_enter Try.func17, Try.ntmps17
    go_wp2
    go_ret
    exact ⟨ret_bool (by simp; intro e; exact h (by rw [e])), Below.refl _ _⟩
set_option maxHeartbeats 400000 in
theorem szShipS_yes (A : Option Addr) (n c : Nat) (w : World) (h : n ≤ 1048576) :
    Calls Try.prog 13 #[.slice A n c, .int .i64 1048576] w fun e w' => e = .returned (.int .i64 (1048576 - (n : Int))) ∧ w = w' := by
  go_enter Try.func13, Try.ntmps13
  go_wp2
  go_ret
  exact ⟨rfl, rfl⟩
set_option maxHeartbeats 400000 in
theorem szShipS_no (A : Option Addr) (n c : Nat) (w : World) (hn : n ≤ 9223372036854775807) (h : ¬ n ≤ 1048576) :
    Calls Try.prog 13 #[.slice A n c, .int .i64 1048576] w fun e w' => e = .returned (.int .i64 (-1)) ∧ w = w' := by
  go_enter Try.func13, Try.ntmps13
  go_wp2
  go_ret
  exact ⟨rfl, rfl⟩
end Go.Proofs.Ytjbocijckoaekaa
