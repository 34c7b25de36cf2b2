/- Lists of Drive: how they lie in memory, and what the statements' helpers do with them. -/
import Derived.Test.YtiffcnhmlmblhaaMarkInt
import Derived.Deep.RegionHeld3
import Derived.Deep.RegionLaw
namespace Go.Proofs.Ytiffcnhmlmblhaa
open Go.RowKit
set_option linter.unusedVariables false
set_option linter.unusedSimpArgs false

structure DriveV where
  crane : Int
  to : Int

theorem DriveV.ext_ {a b : DriveV} (h : a.crane = b.crane ∧ a.to = b.to) : a = b := by cases a; cases b; simp_all
instance : DecidableEq DriveV := fun a b => if h : a.crane = b.crane ∧ a.to = b.to then isTrue (DriveV.ext_ h) else isFalse (fun e => h (by subst e; simp))
def DriveV.val (x : DriveV) : Value := .agg #[.int .i64 x.crane, .int .i64 x.to]
def flatDrive : List DriveV → List Int
  | [] => []
  | x :: l => x.crane :: x.to :: flatDrive l
theorem flatDrive_length (l : List DriveV) : (flatDrive l).length = l.length * 2 := by
  induction l with
  | nil => rfl
  | cons x l ih => simp [flatDrive, ih]; omega
theorem flatDrive_at {l : List DriveV} {k : Nat} {x : DriveV} (h : l[k]? = some x) : (flatDrive l)[k * 2]? = some x.crane ∧ (flatDrive l)[k * 2 + 1]? = some x.to := by
  induction l generalizing k with
  | nil => simp at h
  | cons y l ih =>
    cases k with
    | zero =>
      have : y = x := by simpa using h
      subst this
      exact ⟨rfl, rfl⟩
    | succ k =>
      have h2 : l[k]? = some x := by simpa using h
      obtain ⟨e0, e1⟩ := ih h2
      refine ⟨?_, ?_⟩
      · rw [show (k + 1) * 2 = k * 2 + 2 from by omega]; exact e0
      · rw [show (k + 1) * 2 + 1 = k * 2 + 1 + 2 from by omega]; exact e1
theorem flatDrive_inv {l : List DriveV} {i : Nat} {y : Int} (h : (flatDrive l)[i]? = some y) : ∃ (j : Nat) (x : DriveV), l[j]? = some x ∧ ((i = j * 2 ∧ y = x.crane) ∨ (i = j * 2 + 1 ∧ y = x.to)) := by
  have hi : i < l.length * 2 := by rw [← flatDrive_length]; exact (List.getElem?_eq_some_iff.1 h).1
  have hj : i / 2 < l.length := by omega
  refine ⟨i / 2, l[i / 2], List.getElem?_eq_getElem hj, ?_⟩
  have e := flatDrive_at (List.getElem?_eq_getElem hj)
  rcases (by omega : i = i / 2 * 2 ∨ i = i / 2 * 2 + 1) with h1 | h1
  · have e1 := e.1
    rw [← h1, h] at e1
    have := Option.some.inj e1
    exact .inl ⟨h1, this⟩
  · have e1 := e.2
    rw [← h1, h] at e1
    have := Option.some.inj e1
    exact .inr (⟨h1, this⟩)

/-- A slice at A reads as the list l. -/
def RdDrive (w : World) (A : Option Addr) (l : List DriveV) : Prop :=
  ∀ (k : Nat) (x : DriveV), l[k]? = some x → ∃ b off, A = some ⟨b, off, none⟩ ∧ b < w.heap.size ∧ w.cell? ⟨b, off + k * 2, none⟩ = some (.int .i64 x.crane) ∧ w.cell? ⟨b, off + k * 2 + 1, none⟩ = some (.int .i64 x.to)
section
variable {w w' : World} {A : Option Addr} {l : List DriveV}
theorem RdDrive.nil_ : RdDrive w A [] := fun k x h => by simp at h
theorem RdDrive.at_ {k : Nat} (h : RdDrive w A l) (hk : k < l.length) : ∃ b off x, A = some ⟨b, off, none⟩ ∧ b < w.heap.size ∧ Hid (l[k]? = some x) ∧ w.cell? ⟨b, off + k * 2, none⟩ = some (.int .i64 x.crane) ∧ w.cell? ⟨b, off + k * 2 + 1, none⟩ = some (.int .i64 x.to) := by
  obtain ⟨b, off, e, hb, hc⟩ := h k l[k] (List.getElem?_eq_getElem hk)
  exact ⟨b, off, l[k], e, hb, List.getElem?_eq_getElem hk, hc⟩
theorem RdDrive.below (h : RdDrive w A l) (hb : Below w.heap.size w w') : RdDrive w' A l := fun k x hx => by
  obtain ⟨b, off, e, hlt, hc⟩ := h k x hx
  have hk : ∀ i, w'.cell? ⟨b, i, none⟩ = w.cell? ⟨b, i, none⟩ := fun i => hb.cell (p := ⟨b, i, none⟩) hlt
  refine ⟨b, off, e, Nat.lt_of_lt_of_le hlt hb.size, ?_⟩
  simp only [hk]
  exact hc
theorem RdDrive.alloc (h : RdDrive w A l) (o : Obj) : RdDrive (w.alloc o) A l := h.below ((Below.refl _ _).alloc (Nat.le_refl _) o)
theorem RdDrive.drewN (h : RdDrive w A l) (n : Nat) : RdDrive (w.drewN n) A l := h
theorem RdDrive.of_rd (h : Rd w A (flatDrive l)) : RdDrive w A l := fun k x hx => by
  have e := flatDrive_at hx
  obtain ⟨b0, off0, e0, hb0, hc0⟩ := h _ _ e.1
  obtain ⟨b1, off1, e1, hb1, hc1⟩ := h _ _ e.2
  rw [e0] at e1
  injection e1 with e1
  injection e1 with e1a e1b e1c
  subst e1a e1b
  exact ⟨b0, off0, e0, hb0, hc0, by rw [Nat.add_assoc]; exact hc1⟩
theorem RdDrive.cut (h : RdDrive w A l) (n : Nat) : RdDrive w A (l.take n) := fun k x hx => h k x (by
  rw [List.getElem?_take] at hx
  split at hx
  · exact hx
  · cases hx)
end

set_option maxHeartbeats 400000 in
theorem eqDrive_any (x y : DriveV) (w : World) :
    Calls Try.prog 40 #[.agg #[.int .i64 x.crane, .int .i64 x.to], .agg #[.int .i64 y.crane, .int .i64 y.to]] w fun e w' => e = .returned (.bool (decide (x = y))) ∧ Below w.heap.size w w' := by
  obtain ⟨a0, a1⟩ := x
  obtain ⟨b0, b1⟩ := y
  by_cases h0 : a0 = b0
  · have t0 : (a0 != b0) = false := by simp [h0]
    by_cases h1 : a1 = b1
    · have t1 : (a1 != b1) = false := by simp [h1]
      have HX := Lib.hid (And.intro h0 h1)
      clear h0 h1
      go_enter Try.func40, Try.ntmps40
      go_wp2
      go_ret
      exact ⟨ret_bool (by have := HX.out; simp [this]), ((Below.refl _ _).alloc (Nat.le_refl _) _).alloc (by simp) _⟩
    · have t1 : (a1 != b1) = true := by simp [h1]
      clear h0
      have HX := Lib.hid h1
      clear h1
      go_enter Try.func40, Try.ntmps40
      go_wp2
      go_ret
      exact ⟨ret_bool (by have := HX.out; simp [this]), ((Below.refl _ _).alloc (Nat.le_refl _) _).alloc (by simp) _⟩
  · have t0 : (a0 != b0) = true := by simp [h0]
    have HX := Lib.hid h0
    clear h0
    go_enter Try.func40, Try.ntmps40
    go_wp2
    go_ret
    exact ⟨ret_bool (by have := HX.out; simp [this]), ((Below.refl _ _).alloc (Nat.le_refl _) _).alloc (by simp) _⟩
set_option maxHeartbeats 800000 in
theorem eqDriveS_any (A B : Option Addr) (l m : List DriveV) (c d : Nat) (w : World) (ha : RdDrive w A l) (hb : RdDrive w B m) (hl : l.length ≤ 1048576) (hm : m.length ≤ 1048576) :
    Calls Try.prog 24 #[.slice A l.length c, .slice B m.length d] w fun e w' => e = .returned (.bool (decide (l = m))) ∧ Below w.heap.size w w' := by
  by_cases h : l.length = m.length
  · go_enter Try.func24, Try.ntmps24
    have H := Lib.hid h
    have h1 : ((l.length : Int) != (m.length : Int)) = false := by simp [h]
    clear h
    go_wp2
    go_loopw [5] (fun i wr => ∃ k : Nat, k ≤ l.length ∧ i = .int .i64 k ∧ Below w.heap.size w wr ∧ Hid (l.take k = m.take k)) (fun i _ => l.length - (intOf i).toNat)
    case atStart => exact ⟨0, by omega, rfl, Below.refl _ _, rfl⟩
    case round =>
      obtain ⟨k, hk, rfl, hbw, Hk⟩ := hrel
      by_cases hlt : k < l.length
      · obtain ⟨b, off, x, rfl, hbx, Hx, hx0, hx1⟩ := (ha.below hbw).at_ hlt
        obtain ⟨b', off', y, rfl, hby, Hy, hy0, hy1⟩ := (hb.below hbw).at_ (k := k) (by have := H.out; omega)
        have hkm : k < m.length := by have := H.out; omega
        have q0 : (0 : Int) ≤ (k : Int) := by omega
        have q1 : (k : Int) < (l.length : Int) := by omega
        have q2 : (k : Int) < (m.length : Int) := by omega
        by_cases hxy : x = y
        · have HE : Hid (x = y) := hxy
          have HC : Hid (∀ w, Calls Try.prog 40 #[.agg #[.int .i64 x.crane, .int .i64 x.to], .agg #[.int .i64 y.crane, .int .i64 y.to]] w fun e w' => e = .returned (.bool true) ∧ Below w.heap.size w w') := fun w => (eqDrive_any x y w).mono fun _ _ ⟨he, hw⟩ => ⟨he.trans (ret_bool (by simp [hxy])), hw⟩
          clear hxy
          go_wp2_with fail
          go_region_held3 (fun w' => w'.cell? ⟨b, off + k * 2, none⟩ = some (.int .i64 x.crane) ∧ w'.cell? ⟨b, off + k * 2 + 1, none⟩ = some (.int .i64 x.to) ∧ w'.cell? ⟨b', off' + k * 2, none⟩ = some (.int .i64 y.crane) ∧ w'.cell? ⟨b', off' + k * 2 + 1, none⟩ = some (.int .i64 y.to)) (first | go_keep | exact ⟨(hb1.cell (p := ⟨b, off + k * 2, none⟩) hbx).trans hx0, (hb1.cell (p := ⟨b, off + k * 2 + 1, none⟩) hbx).trans hx1, (hb1.cell (p := ⟨b', off' + k * 2, none⟩) hby).trans hy0, (hb1.cell (p := ⟨b', off' + k * 2 + 1, none⟩) hby).trans hy1⟩) (first | (go_at_call 40; refine (HC.out _).mono ?_; rintro e w1 ⟨rfl, hb1⟩))
          go_wp2
          exact ⟨⟨k + 1, by omega, by go_num, hbw.drew.trans (hb1.mono hbw.size), take_eq_next Hx.out (by rw [HE.out]; exact Hy.out) Hk.out⟩, by simp [intOf]; omega⟩
        · have HE : Hid (¬ x = y) := hxy
          have HC : Hid (∀ w, Calls Try.prog 40 #[.agg #[.int .i64 x.crane, .int .i64 x.to], .agg #[.int .i64 y.crane, .int .i64 y.to]] w fun e w' => e = .returned (.bool false) ∧ Below w.heap.size w w') := fun w => (eqDrive_any x y w).mono fun _ _ ⟨he, hw⟩ => ⟨he.trans (ret_bool (by simp [hxy])), hw⟩
          clear hxy
          go_wp2_with fail
          go_region_held3 (fun w' => w'.cell? ⟨b, off + k * 2, none⟩ = some (.int .i64 x.crane) ∧ w'.cell? ⟨b, off + k * 2 + 1, none⟩ = some (.int .i64 x.to) ∧ w'.cell? ⟨b', off' + k * 2, none⟩ = some (.int .i64 y.crane) ∧ w'.cell? ⟨b', off' + k * 2 + 1, none⟩ = some (.int .i64 y.to)) (first | go_keep | exact ⟨(hb1.cell (p := ⟨b, off + k * 2, none⟩) hbx).trans hx0, (hb1.cell (p := ⟨b, off + k * 2 + 1, none⟩) hbx).trans hx1, (hb1.cell (p := ⟨b', off' + k * 2, none⟩) hby).trans hy0, (hb1.cell (p := ⟨b', off' + k * 2 + 1, none⟩) hby).trans hy1⟩) (first | (go_at_call 40; refine (HC.out _).mono ?_; rintro e w1 ⟨rfl, hb1⟩))
          go_wp2
          go_ret
          exact ⟨ret_bool (by simp; exact ne_of_at Hx.out Hy.out HE.out), hbw.drew.trans (hb1.mono hbw.size)⟩
      · go_wp2
        go_ret
        exact ⟨ret_bool (by simp; exact eq_of_takes (by omega) (by have := H.out; omega) Hk.out), hbw⟩
  · have h1 : ((l.length : Int) != (m.length : Int)) = true := by simp; omega
    go_enter Try.func24, Try.ntmps24
    go_wp2
    go_ret
    exact ⟨ret_bool (by simp; intro e; exact h (by rw [e])), Below.refl _ _⟩
set_option maxHeartbeats 400000 in
theorem szDriveS_yes (A : Option Addr) (n c : Nat) (w : World) (h : n ≤ 1048576) :
    Calls Try.prog 20 #[.slice A n c, .int .i64 1048576] w fun e w' => e = .returned (.int .i64 (1048576 - (n : Int))) ∧ w = w' := by
  go_enter Try.func20, Try.ntmps20
  go_wp2
  go_ret
  exact ⟨rfl, rfl⟩
set_option maxHeartbeats 400000 in
theorem szDriveS_no (A : Option Addr) (n c : Nat) (w : World) (hn : n ≤ 9223372036854775807) (h : ¬ n ≤ 1048576) :
    Calls Try.prog 20 #[.slice A n c, .int .i64 1048576] w fun e w' => e = .returned (.int .i64 (-1)) ∧ w = w' := by
  go_enter Try.func20, Try.ntmps20
  go_wp2
  go_ret
  exact ⟨rfl, rfl⟩
set_option maxHeartbeats 400000 in
theorem toDrive_any (a0 a1 : Int) (w : World) :
    Calls Try.prog 16 #[.agg #[.int .i64 a0, .int .i64 a1]] w fun e w' => e = .returned (.agg #[.int .i64 a0, .int .i64 a1]) ∧ Below w.heap.size w w' := by
  go_enter Try.func16, Try.ntmps16
  go_wp2
  exact bodyPost_ret (v := .agg #[.int .i64 a0, .int .i64 a1]) (by simp [results, Try.results16, go_sem]) rfl ⟨rfl, (((Below.refl _ _).alloc (Nat.le_refl _) _).alloc (by simp) _).alloc (by simp; omega) _⟩
theorem info_Drive : (Try.prog.info? 30).map (fun i => (i.zero, i.size, i.bytes)) = some (some (.agg #[.int .i64 0, .int .i64 0]), 2, 16) := by kernel_rfl
theorem cellsDrive_own {cs : Array Value} {l : List DriveV} (h : ∀ (j : Nat) (x : DriveV), j < l.length → l[j]? = some x → cs[j * 2]? = some (Value.int .i64 x.crane) ∧ cs[j * 2 + 1]? = some (Value.int .i64 x.to)) : ∀ (k : Nat) (y : Int), (flatDrive l)[k]? = some y → cs[k]? = some (Value.int .i64 y) := by
  intro k y hy
  obtain ⟨j, x, hx, hd⟩ := flatDrive_inv hy
  have hj := (List.getElem?_eq_some_iff.1 hx).1
  have hc := h j x hj hx
  rcases hd with ⟨rfl, rfl⟩ | ⟨rfl, rfl⟩
  · exact hc.1
  · exact hc.2
theorem cellsDrive_next {cs : Array Value} {l : List DriveV} {k : Nat} {x : DriveV} (hk : k < l.length) (hs : cs.size = l.length * 2) (hx : l[k]? = some x) (h : ∀ (j : Nat) (x : DriveV), j < k → l[j]? = some x → cs[j * 2]? = some (Value.int .i64 x.crane) ∧ cs[j * 2 + 1]? = some (Value.int .i64 x.to)) :
    ∀ (j : Nat) (y : DriveV), j < k + 1 → l[j]? = some y → ((cs.setIfInBounds (k * 2) (Value.int .i64 x.crane)).setIfInBounds (k * 2 + 1) (Value.int .i64 x.to))[j * 2]? = some (Value.int .i64 y.crane) ∧ ((cs.setIfInBounds (k * 2) (Value.int .i64 x.crane)).setIfInBounds (k * 2 + 1) (Value.int .i64 x.to))[j * 2 + 1]? = some (Value.int .i64 y.to) := by
  intro j y hj hy
  by_cases e : j = k
  · subst e
    rw [hx] at hy
    injection hy with hy
    subst hy
    refine ⟨?_, ?_⟩ <;> simp [Array.getElem?_setIfInBounds] <;> omega
  · have := h j y (by omega) hy
    have hne : ∀ a b : Nat, a < 2 → b < 2 → k * 2 + a ≠ j * 2 + b := by intro a b; omega
    refine ⟨?_, ?_⟩ <;> simp only [Array.getElem?_setIfInBounds] <;> (repeat rw [if_neg (by omega)]) <;> simp [this]
set_option maxHeartbeats 800000 in
theorem toDriveS_any (A : Option Addr) (l : List DriveV) (c : Nat) (w : World) (ha : RdDrive w A l) (hl : l.length ≤ 1048576) :
    Calls Try.prog 22 #[.slice A l.length c] w fun e w' => ∃ A', e = .returned (.slice A' l.length l.length) ∧ Own 30 w' w.heap.size w'.heap.size A' (flatDrive l) ∧ Below w.heap.size w w' := by
  obtain ⟨i0, hi, hz0, hz1, hz2⟩ := info_parts info_Drive
  go_enter Try.func22, Try.ntmps22
  go_wp2_with (at_make; refine wpList_make_full _ rfl _ _ 38 rfl w.heap.size 30 i0 (.agg #[.int .i64 0, .int .i64 0]) 2 Try.underlying38 hi hz0 hz1 .i64 .i64 _ _ l.length rfl rfl rfl rfl ?c1 ?c2 (Nat.le_refl _) ?_)
  case c1 => rw [hz2]; omega
  case c2 => unfold maxLen; omega
  intro w1 hrow hg1
  obtain ⟨cs0, hb0, hcs0⟩ := blk_of_full hrow rfl
  have H0 : Hid (cs0.size = l.length * 2) := by
    have h := congrArg List.length hcs0
    simp [size_madeCells] at h
    exact h
  have hb1 := below_grown hg1
  clear hrow hg1 hcs0 hz0 hz1 hz2 hi
  go_wp2
  go_loopw [4] (fun i wr => ∃ (k : Nat) (cs : Array Value), k ≤ l.length ∧ i = .int .i64 k ∧ Blk wr w.heap.size 30 cs ∧ Hid (cs.size = l.length * 2) ∧ Hid (∀ (j : Nat) (x : DriveV), j < k → l[j]? = some x → cs[j * 2]? = some (Value.int .i64 x.crane) ∧ cs[j * 2 + 1]? = some (Value.int .i64 x.to)) ∧ Below w.heap.size w wr) (fun i _ => l.length - (intOf i).toNat)
  case atStart => exact ⟨0, cs0, by omega, rfl, hb0, H0, (fun j x hj => absurd hj (by omega)), hb1⟩
  case round =>
    obtain ⟨k, cs, hk, rfl, hblk, Hs, Hc, hbw⟩ := hrel
    by_cases hlt : k < l.length
    · obtain ⟨b, off, x, rfl, hbx, Hx, hx0, hx1⟩ := (ha.below hbw).at_ hlt
      have q0 : (0 : Int) ≤ (k : Int) := by omega
      have q1 : (k : Int) < (l.length : Int) := by omega
      have hwl := hblk.lt
      go_wp2_with fail
      refine (toDrive_any x.crane x.to _).mono ?_
      rintro e w2 ⟨rfl, hb2⟩
      have hblk2 := hblk.below hb2 hwl
      have hss := Hs.out
      obtain ⟨u0, hu0⟩ : ∃ u, cs[k * 2]? = some u := ⟨_, Array.getElem?_eq_getElem (by omega)⟩
      have hc20 : _ := (hblk2.cell (k * 2)).trans hu0
      have hf20 := hblk2.frozen (k * 2)
      clear hu0
      obtain ⟨u1, hu1⟩ : ∃ u, cs[k * 2 + 1]? = some u := ⟨_, Array.getElem?_eq_getElem (by omega)⟩
      have hc21 : _ := (hblk2.cell (k * 2 + 1)).trans hu1
      have hf21 := hblk2.frozen (k * 2 + 1)
      clear hu1
      clear hss
      go_wp2_with fail
      exact ⟨⟨k + 1, _, by omega, by go_num, ((hblk2.set_ (k * 2) _).set_ (k * 2 + 1) _), by have h := Hs.out; show _ = _; simpa using h, cellsDrive_next hlt Hs.out Hx.out Hc.out, (((hbw.trans (hb2.mono hbw.size)).setCell (Nat.le_refl _) _).setCell (Nat.le_refl _) _)⟩, by simp [intOf]; omega⟩
    · go_wp2
      go_ret
      exact ⟨_, rfl, Own.of_blk hblk (Nat.le_refl _) hblk.lt (cellsDrive_own (fun j x hj hx => Hc.out j x (by omega) hx)), hbw⟩
set_option maxHeartbeats 800000 in
theorem heldDriveS_any (A : Option Addr) (n : Nat) (c : Nat) (k0 : Int) (w : World) (ha : Rd w A (marks (n * 2) k0)) (hl : n ≤ 1048576) (h1 : 0 ≤ k0) (h2 : k0 ≤ 1073741824) :
    Calls Try.prog 28 #[.slice A n c, .int .i64 k0] w fun e w' => e = .returned (.int .i64 (k0 + (n : Int) * 2)) ∧ w = w' := by
  go_enter Try.func28, Try.ntmps28
  go_wp2
  go_loop [1, 5] (fun q i => ∃ k : Nat, k ≤ n ∧ i = .int .i64 k ∧ q = .int .i64 (k0 + (k : Int) * 2)) (fun _ i => n - (intOf i).toNat)
  case atStart => exact ⟨0, by omega, rfl, by simp⟩
  case round =>
    obtain ⟨k, hk, rfl, rfl⟩ := hrel
    by_cases hlt : k < n
    · obtain ⟨b, off, x0, rfl, hb0, Hx0, hc0⟩ := ha.at_ (k := k * 2) (by rw [marks_length]; omega)
      obtain ⟨_, rfl⟩ := marks_at_inv Hx0.out
      obtain ⟨b1, off1, x1, e1, hb1, Hx1, hc1⟩ := ha.at_ (k := k * 2 + 1) (by rw [marks_length]; omega)
      obtain ⟨_, rfl⟩ := marks_at_inv Hx1.out
      injection e1 with e1
      injection e1 with e1a e1b e1c
      subst e1a e1b
      rw [← Nat.add_assoc] at hc1
      rw [show (k0 + ((k * 2 : Nat) : Int)) = k0 + (k : Int) * 2 from by omega] at hc0
      rw [show (k0 + ((k * 2 + 1 : Nat) : Int)) = k0 + (k : Int) * 2 + 1 from by omega] at hc1
      go_wp2
      exact ⟨⟨k + 1, by omega, by go_num, by go_num⟩, by simp [intOf]; omega⟩
    · go_wp2
      go_ret
      exact ⟨ret_int (by omega), rfl⟩
set_option maxHeartbeats 1600000 in
theorem markDriveS_any (lo hi : Nat) (A : Option Addr) (m : Nat) (l : List Int) (c : Nat) (k0 : Int) (w : World) (ha : Own 30 w lo hi A l) (hlen : l.length = m * 2) (hl : m ≤ 1048576) (h1 : 0 ≤ k0) (h2 : k0 ≤ 1073741824) :
    Calls Try.prog 25 #[.slice A m c, .int .i64 k0] w fun e w' => e = .returned (.int .i64 (k0 + (m : Int) * 2)) ∧ Own 30 w' lo hi A (marks (m * 2) k0) ∧ Chg lo hi w w' := by
  rcases ha with rfl | ⟨g, cs0, rfl, g1, g2, hb0, hc0⟩
  · obtain rfl : m = 0 := by simp at hlen; omega
    go_enter Try.func25, Try.ntmps25
    go_wp2
    go_loop [1, 5] (fun q i => i = .int .i64 0 ∧ q = .int .i64 k0) (fun _ i => 0)
    case atStart => exact ⟨rfl, rfl⟩
    case round =>
      obtain ⟨rfl, rfl⟩ := hrel
      go_wp2
      go_ret
      exact ⟨ret_int (by simp), Own.nil_, Chg.refl _ _ _⟩
  · have hsz : m * 2 ≤ cs0.size := by
      by_cases h0 : l.length = 0
      · omega
      · have := hc0 (l.length - 1) _ (List.getElem?_eq_getElem (by omega))
        have := (Array.getElem?_eq_some_iff.1 this).1
        omega
    clear hc0 hlen
    go_enter Try.func25, Try.ntmps25
    go_wp2
    go_loopw [1, 5] (fun q i wr => ∃ (k : Nat) (cs : Array Value), k ≤ m ∧ i = .int .i64 k ∧ q = .int .i64 (k0 + (k : Int) * 2) ∧ Blk wr g 30 cs ∧ Hid (cs.size = cs0.size) ∧ Hid (∀ (j : Nat) (x : Int), j < k * 2 → (marks (m * 2) k0)[j]? = some x → cs[j]? = some (Value.int .i64 x)) ∧ Chg lo hi w wr) (fun _ i _ => m - (intOf i).toNat)
    case atStart => exact ⟨0, cs0, by omega, rfl, by simp, hb0, rfl, (fun j x hj => absurd hj (by omega)), Chg.refl _ _ _⟩
    case round =>
      obtain ⟨k, cs, hk, rfl, rfl, hblk, Hs, Hc, hbw⟩ := hrel
      by_cases hlt : k < m
      · have hss := Hs.out
        obtain ⟨u0, hu0⟩ : ∃ u, cs[k * 2]? = some u := ⟨_, Array.getElem?_eq_getElem (by omega)⟩
        have hc20 : _ := (hblk.cell (k * 2)).trans hu0
        have hf20 := hblk.frozen (k * 2)
        clear hu0
        obtain ⟨u1, hu1⟩ : ∃ u, cs[k * 2 + 1]? = some u := ⟨_, Array.getElem?_eq_getElem (by omega)⟩
        have hc21 : _ := (hblk.cell (k * 2 + 1)).trans hu1
        have hf21 := hblk.frozen (k * 2 + 1)
        clear hu1
        clear hss
        go_wp2
        have hsz2 := Hs.out
        have M0 := marks_next (k := k * 2) (k0 := k0) (n := m * 2) (cs := cs) (by omega) Hc.out
        have M1 := marks_next (k := k * 2 + 1) (k0 := k0) (n := m * 2) (cs := (cs.setIfInBounds (k * 2) (Value.int .i64 (k0 + ((k * 2 : Nat) : Int))))) (by simp; omega) M0
        rw [show (k0 + ((k * 2 : Nat) : Int)) = k0 + (k : Int) * 2 from by omega] at M1
        rw [show (k0 + ((k * 2 + 1 : Nat) : Int)) = k0 + (k : Int) * 2 + 1 from by omega] at M1
        exact ⟨⟨k + 1, _, by omega, by go_num, by go_num, ((hblk.set_ (k * 2) _).set_ (k * 2 + 1) _), by have h := Hs.out; show _ = _; simpa using h, (by rw [show (k + 1) * 2 = k * 2 + 2 from by omega]; exact M1), ((hbw.setCell g1 g2 _).setCell g1 g2 _)⟩, by simp [intOf]; omega⟩
      · go_wp2
        go_ret
        exact ⟨ret_int (by omega), Own.of_blk hblk g1 g2 (fun j x hj => Hc.out j x (by have := (marks_at_inv hj).1; omega) hj), hbw⟩
set_option maxHeartbeats 800000 in
theorem sameDrives_any (A B : Option Addr) (l m : List DriveV) (c d : Nat) (w : World) (ha : RdDrive w A l) (hb : RdDrive w B m) (hl : l.length ≤ 1048576) (hm : m.length ≤ 1048576) :
    Calls Try.prog 35 #[.slice A l.length c, .slice B m.length d] w fun e w' => e = .returned (.bool (decide (l = m))) ∧ ∃ n, w' = w.drewN n := by
  by_cases h : l.length = m.length
  · go_enter Try.func35, Try.ntmps35
    have H := Lib.hid h
    have h1 : ((l.length : Int) != (m.length : Int)) = false := by simp [h]
    clear h
    go_wp2
    go_loopw [5] (fun i wr => ∃ k n : Nat, k ≤ l.length ∧ i = .int .i64 k ∧ wr = w.drewN n ∧ Hid (l.take k = m.take k)) (fun i _ => l.length - (intOf i).toNat)
    case atStart => exact ⟨0, 0, by omega, rfl, rfl, rfl⟩
    case round =>
      obtain ⟨k, n, hk, rfl, rfl, Hk⟩ := hrel
      by_cases hlt : k < l.length
      · obtain ⟨b, off, x, rfl, hbx, Hx, hx0, hx1⟩ := ha.at_ hlt
        obtain ⟨b', off', y, rfl, hby, Hy, hy0, hy1⟩ := hb.at_ (k := k) (by have := H.out; omega)
        have hkm : k < m.length := by have := H.out; omega
        have q0 : (0 : Int) ≤ (k : Int) := by omega
        have q1 : (k : Int) < (l.length : Int) := by omega
        have q2 : (k : Int) < (m.length : Int) := by omega
        by_cases h0 : x.crane = y.crane
        · have t0 : (x.crane == y.crane) = true := by simp [h0]
          by_cases h1 : x.to = y.to
          · have t1 : (x.to == y.to) = true := by simp [h1]
            have HE : Hid (x = y) := DriveV.ext_ ⟨h0, h1⟩
            rw [← h0] at hy0
            rw [← h1] at hy1
            clear h0 t0 h1 t1
            go_wp2_with fail
            go_quiet (fail)
            go_wp2
            exact ⟨⟨k + 1, _, by omega, by go_num, rfl, take_eq_next Hx.out (by rw [HE.out]; exact Hy.out) Hk.out⟩, by simp [intOf]; omega⟩
          · have t1 : (x.to == y.to) = false := by simp [h1]
            rw [← h0] at hy0
            clear h0 t0
            have HE : Hid (¬ x = y) := fun e => h1 (by rw [e])
            clear h1
            go_wp2_with fail
            go_quiet (fail)
            go_wp2
            go_ret
            exact ⟨ret_bool (by simp; exact ne_of_at Hx.out Hy.out HE.out), _, by first | rfl | exact World.drewN_drewN _ _ _⟩
        · have t0 : (x.crane == y.crane) = false := by simp [h0]
          have HE : Hid (¬ x = y) := fun e => h0 (by rw [e])
          clear h0
          go_wp2_with fail
          go_quiet (fail)
          go_wp2
          go_ret
          exact ⟨ret_bool (by simp; exact ne_of_at Hx.out Hy.out HE.out), _, by first | rfl | exact World.drewN_drewN _ _ _⟩
      · go_wp2
        go_ret
        exact ⟨ret_bool (by simp; exact eq_of_takes (by omega) (by have := H.out; omega) Hk.out), _, rfl⟩
  · have h1 : ((l.length : Int) != (m.length : Int)) = true := by simp; omega
    go_enter Try.func35, Try.ntmps35
    go_wp2
    go_ret
    exact ⟨ret_bool (by simp; intro e; exact h (by rw [e])), 0, rfl⟩
end Go.Proofs.Ytiffcnhmlmblhaa
