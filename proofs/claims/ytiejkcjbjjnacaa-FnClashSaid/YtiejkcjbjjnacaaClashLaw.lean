/- What is drawn for the law on two ships; that law. -/
import Derived.Test.YtiejkcjbjjnacaaBerthLaws
import Derived.Deep.RegionHeld3
import Derived.BigRegion
import Derived.IntWalk
namespace Go.Proofs.Ytiejkcjbjjnacaa
open Go.RowKit
set_option linter.unusedVariables false
set_option linter.unusedSimpArgs false

/-- A ship whose numbers lie near the valid ones. -/
def nearW (c : CallV) : Prop := -10 ≤ c.start ∧ c.start ≤ 1010 ∧ 0 ≤ c.hours ∧ c.hours ≤ 100 ∧ 0 ≤ c.at_ ∧ c.at_ ≤ 20 ∧ 1 ≤ c.long ∧ c.long ≤ 9
section
variable {A : Option Addr} {l : List Int} {c : Nat}
def GotTwo (w : World) (e : Ending) (w' : World) : Prop :=
  ∃ x y : CallV, nearW x ∧ nearW y ∧ e = .returned (.tuple #[.agg #[.int .i64 x.start, .int .i64 x.hours, .int .i64 x.at_, .int .i64 x.long], .agg #[.int .i64 y.start, .int .i64 y.hours, .int .i64 y.at_, .int .i64 y.long]]) ∧ Below w.heap.size w w'
theorem blk_ne {W : World} {a b : Nat} {t : TypeId} {cs : Array Value} (h : Blk W b t cs) {p : Addr} (hp : p.block = a) (hne : b ≠ a) (v : Value) : Blk (W.setCell p v) b t cs := h.far (by rw [hp]; exact hne) v
set_option maxHeartbeats 3200000 in
theorem drawCl (w : World) (ha : RdU w A l) (hc : l.length ≤ c) (hl : l.length ≤ 1048576) : Calls Try.prog 35 #[.slice A l.length c] w (GotTwo w) := by
  have kR0 := (Blk.new w 25 #[.int .i64 0, .int .i64 0, .int .i64 0, .int .i64 0]).alloc (.cells #[.int .i64 0, .int .i64 0, .int .i64 0, .int .i64 0] 25)
  have kS0 : Blk ((w.alloc (.cells #[.int .i64 0, .int .i64 0, .int .i64 0, .int .i64 0] 25)).alloc (.cells #[.int .i64 0, .int .i64 0, .int .i64 0, .int .i64 0] 25)) (w.heap.size + 1) 25 #[.int .i64 0, .int .i64 0, .int .i64 0, .int .i64 0] := by
    have h := Blk.new (w.alloc (.cells #[.int .i64 0, .int .i64 0, .int .i64 0, .int .i64 0] 25)) 25 #[.int .i64 0, .int .i64 0, .int .i64 0, .int .i64 0]
    simpa using h
  have bw0 : Below w.heap.size w ((w.alloc (.cells #[.int .i64 0, .int .i64 0, .int .i64 0, .int .i64 0] 25)).alloc (.cells #[.int .i64 0, .int .i64 0, .int .i64 0, .int .i64 0] 25)) := ((Below.refl _ _).alloc (Nat.le_refl _) _).alloc (by simp) _
  have HSET : Hid (∀ (W : World) (a b c d a' b' c' d' : Value), Below w.heap.size w W → Below w.heap.size w ((((((((W.setCell ⟨w.heap.size, 0, none⟩ a).setCell ⟨w.heap.size, 1, none⟩ b).setCell ⟨w.heap.size, 2, none⟩ c).setCell ⟨w.heap.size, 3, none⟩ d).setCell ⟨w.heap.size + 1, 0, none⟩ a').setCell ⟨w.heap.size + 1, 1, none⟩ b').setCell ⟨w.heap.size + 1, 2, none⟩ c').setCell ⟨w.heap.size + 1, 3, none⟩ d')) := fun W a b c d a' b' c' d' h =>
    (((((((h.setCell (Nat.le_refl _) _).setCell (Nat.le_refl _) _).setCell (Nat.le_refl _) _).setCell (Nat.le_refl _) _).setCell (p := ⟨w.heap.size + 1, 0, none⟩) (by simp) _).setCell (p := ⟨w.heap.size + 1, 1, none⟩) (by simp) _).setCell (p := ⟨w.heap.size + 1, 2, none⟩) (by simp) _).setCell (p := ⟨w.heap.size + 1, 3, none⟩) (by simp) _
  have hz0 : ((w.alloc (.cells #[.int .i64 0, .int .i64 0, .int .i64 0, .int .i64 0] 25)).alloc (.cells #[.int .i64 0, .int .i64 0, .int .i64 0, .int .i64 0] 25)).heap.size = w.heap.size + 2 := by simp
  have HZ := Lib.hid hz0
  clear hz0
  go_enter Try.func35, Try.ntmps35
  go_wp2_with fail
  refine (open_any _ ((ha.alloc _).alloc _) hc hl).mono ?_
  rintro e w1 ⟨g, rfl, r1, b1⟩
  have hgl := r1.lo
  have hgs : w.heap.size + 2 ≤ g := by have := HZ.out; omega
  have kR1 := kR0.below b1 kR0.lt
  have kS1 := kS0.below b1 kS0.lt
  have bw1 := bw0.trans (b1.mono bw0.size)
  have hw1 := r1.lt
  clear hgl
  go_wp2_with fail
  refine (call_any _ g 0 12 w1 r1 (by omega) (by omega) (by omega)).mono ?_
  rintro e w2 ⟨x, hx, rfl, d2⟩
  have kR2 := kR1.chg d2.chg (.inl (by omega))
  have kS2 := kS1.chg d2.chg (.inl (by omega))
  have d2s := d2.chg.size
  have HX : Hid (nearW x) := by show nearW x; unfold nearW; omega
  have HXB := Lib.hid hx
  have kA := Blk.new w2 25 #[.int .i64 x.start, .int .i64 x.hours, .int .i64 x.at_, .int .i64 x.long]
  clear hx kR0 kS0 kR1 kS1
  go_wp2_with fail
  refine (call_any _ g _ 12 _ (d2.alloc (.cells #[.int .i64 x.start, .int .i64 x.hours, .int .i64 x.at_, .int .i64 x.long] 25)).rdr (by omega) (by omega) (by omega)).mono ?_
  rintro e w3 ⟨y, hy, rfl, d3⟩
  have dd3 := (d2.alloc (.cells #[.int .i64 x.start, .int .i64 x.hours, .int .i64 x.at_, .int .i64 x.long] 25)).trans d3
  have kR3 := (kR2.alloc (.cells #[.int .i64 x.start, .int .i64 x.hours, .int .i64 x.at_, .int .i64 x.long] 25)).chg d3.chg (.inl (by omega))
  have kS3 := (kS2.alloc (.cells #[.int .i64 x.start, .int .i64 x.hours, .int .i64 x.at_, .int .i64 x.long] 25)).chg d3.chg (.inl (by omega))
  have kA3 := kA.chg d3.chg (.inr (by omega))
  have d3s : w2.heap.size < w3.heap.size := kA3.lt
  have HYB := Lib.hid hy
  have HB := Lib.hid (p := Blk (w3.alloc (.cells #[.int .i64 y.start, .int .i64 y.hours, .int .i64 y.at_, .int .i64 y.long] 25)) w3.heap.size 25 #[.int .i64 y.start, .int .i64 y.hours, .int .i64 y.at_, .int .i64 y.long]) (Blk.new _ _ _)
  clear hy kA kR2 kS2 d2 d3
  go_wp2_with fail
  refine (pick_any _ g _ 2 _ (dd3.alloc (.cells #[.int .i64 y.start, .int .i64 y.hours, .int .i64 y.at_, .int .i64 y.long] 25)).rdr (by omega) (by omega) (by omega)).mono ?_
  rintro e w4 ⟨z, z0, z9, rfl, d4, _⟩
  have dd4 := (dd3.alloc (.cells #[.int .i64 y.start, .int .i64 y.hours, .int .i64 y.at_, .int .i64 y.long] 25)).trans d4
  have kA4 := (kA3.alloc (.cells #[.int .i64 y.start, .int .i64 y.hours, .int .i64 y.at_, .int .i64 y.long] 25)).chg d4.chg (.inr (by omega))
  have kB4 := HB.out.chg d4.chg (.inr (by omega))
  have kR4 := (kR3.alloc (.cells #[.int .i64 y.start, .int .i64 y.hours, .int .i64 y.at_, .int .i64 y.long] 25)).chg d4.chg (.inl (by omega))
  have kS4 := (kS3.alloc (.cells #[.int .i64 y.start, .int .i64 y.hours, .int .i64 y.at_, .int .i64 y.long] 25)).chg d4.chg (.inl (by omega))
  have hAw : w.heap.size + 2 ≤ w2.heap.size := by omega
  have hAg : g < w2.heap.size := by omega
  obtain ⟨A, HA⟩ : ∃ A, Hid (w2.heap.size = A) := ⟨_, rfl⟩
  obtain ⟨B, HBB⟩ : ∃ B, Hid (w3.heap.size = B) := ⟨_, rfl⟩
  rw [HA.out] at hAw hAg d3s kA4
  rw [HBB.out] at kB4 d3s
  have hAB : A ≠ B := by omega
  have hgw : g < w1.heap.size := hw1
  clear HB kA3 kR3 kS3 dd3 d4
  have HNAB : Hid (w.heap.size ≠ A ∧ w.heap.size ≠ B ∧ w.heap.size + 1 ≠ A ∧ w.heap.size + 1 ≠ B ∧ w1.heap.size ≤ A ∧ w1.heap.size ≤ B) := by
    have e1 := HA.out
    have e2 := HBB.out
    exact ⟨by omega, by omega, by omega, by omega, by omega, by omega⟩
  obtain ⟨m1, m2, m3, m4, m5, m6⟩ := HNAB.out
  rcases (by omega : z = 0 ∨ z = 1) with rfl | rfl
  · have a0 := kA4.cell 0
    simp only [List.getElem?_toArray, List.getElem?_cons_zero] at a0
    have HCK : Hid (∀ W, Chg g (g + 1) w4 W → W.cell? ⟨A, 0, none⟩ = some (.int .i64 x.start) ∧ W.cell? ⟨B, 0, none⟩ = some (.int .i64 y.start) ∧ W.frozen? ⟨B, 0, none⟩ = false) := fun W hW => by
      have k1 := (kA4.chg hW (.inr (by omega))).cell 0
      have k2 := kB4.chg hW (.inr (by omega))
      have k3 := k2.cell 0
      simp only [List.getElem?_toArray, List.getElem?_cons_zero] at k1 k3
      exact ⟨k1, k3, k2.frozen 0⟩
    have xb := HXB.out
    have nAB : ¬ A = B := hAB
    have nBA : ¬ B = A := fun e => hAB e.symm
    go_wp2_with fail
    rw [HA.out, HBB.out]
    go_region_held3 (fun w' => w'.cell? ⟨A, 0, none⟩ = some (.int .i64 x.start)) (first | exact a0 | exact c5 | go_keep) (first | (go_at_call 50; refine (pick_any _ g _ 9 _ (dd4.rdr.drewN _) (by omega) (by omega) (by omega)).mono ?_; rintro e w5 ⟨q, q0, q9, rfl, d5, Hs5⟩; obtain ⟨c5, c6, c7⟩ := HCK.out _ (((Chg.refl _ _ _).drewN 1).trans d5.chg)))
    have hv : IntKind.i64.wrap (IntKind.i64.wrap (x.start + q) - 4) = x.start + q - 4 := by
      have e1 : IntKind.i64.wrap (x.start + q) = x.start + q := IntWalk.i64_in _ (by omega)
      rw [e1, IntWalk.i64_in _ (by omega)]
    rw [hv]
    have cg := ((Chg.refl g (g + 1) w4).drewN 1).trans d5.chg
    have kA5 := (kA4.chg cg (.inr (by omega))).far (p := ⟨B, 0, none⟩) hAB (.int .i64 (x.start + q - 4))
    have kR5 := (kR4.chg cg (.inl (by omega))).far (p := ⟨B, 0, none⟩) m2 (.int .i64 (x.start + q - 4))
    have kS5 := (kS4.chg cg (.inl (by omega))).far (p := ⟨B, 0, none⟩) m4 (.int .i64 (x.start + q - 4))
    have kB5 : Blk (w5.setCell ⟨B, 0, none⟩ (.int .i64 (x.start + q - 4))) B 25 #[.int .i64 (x.start + q - 4), .int .i64 y.hours, .int .i64 y.at_, .int .i64 y.long] := by simpa using (kB4.chg cg (.inr (by omega))).set_ 0 (.int .i64 (x.start + q - 4))
    have dd5 := ((dd4.drew).trans d5).setNew (a := ⟨B, 0, none⟩) m6 hgw (.int .i64 (x.start + q - 4))
    obtain ⟨W5, HW5⟩ : ∃ W5, Hid (w5.setCell ⟨B, 0, none⟩ (.int .i64 (x.start + q - 4)) = W5) := ⟨_, rfl⟩
    rw [HW5.out] at kA5 kR5 kS5 kB5 dd5 ⊢
    clear hv c5 c6 c7 a0
    obtain ⟨ys, HYS⟩ : ∃ ys, Hid (x.start + q - 4 = ys) := ⟨_, rfl⟩
    have HY : Hid (nearW ⟨ys, y.hours, y.at_, y.long⟩) := by
      have := HYB.out
      have := HXB.out
      have := HYS.out
      show nearW _
      unfold nearW; simp only; omega
    rw [HYS.out] at kB5

    have HD := Lib.hid (bw1.trans ((dd5.below b1.size).mono bw0.size))
    have a0 := kA5.cell 0
    have a1 := kA5.cell 1
    have a2 := kA5.cell 2
    have a3 := kA5.cell 3
    have b0 := kB5.cell 0
    have b1 := kB5.cell 1
    have b2 := kB5.cell 2
    have b3 := kB5.cell 3
    have c0 := kR5.cell 0
    have c1 := kR5.cell 1
    have c2 := kR5.cell 2
    have c3 := kR5.cell 3
    have s0 := kS5.cell 0
    have s1 := kS5.cell 1
    have s2 := kS5.cell 2
    have s3 := kS5.cell 3
    have f0 := kR5.frozen 0
    have f1 := kR5.frozen 1
    have f2 := kR5.frozen 2
    have f3 := kR5.frozen 3
    have t0 := kS5.frozen 0
    have t1 := kS5.frozen 1
    have t2 := kS5.frozen 2
    have t3 := kS5.frozen 3
    simp only [List.getElem?_toArray, List.getElem?_cons_zero, List.getElem?_cons_succ] at a0 a1 a2 a3 b0 b1 b2 b3 c0 c1 c2 c3 s0 s1 s2 s3
    have n1 : ¬ w.heap.size = A := by omega
    have n2 : ¬ w.heap.size = B := by omega
    have n3 : ¬ w.heap.size + 1 = A := by omega
    have n4 : ¬ w.heap.size + 1 = B := by omega
    have n5 : ¬ A = w.heap.size := by omega
    have n6 : ¬ B = w.heap.size := by omega
    have n7 : ¬ A = w.heap.size + 1 := by omega
    have n8 : ¬ B = w.heap.size + 1 := by omega
    clear kA5 kB5 kR5 kS5
    go_wp2_with fail
    go_region
    go_wp2_with fail
    refine bodyPost_ret (v := .tuple #[.agg #[.int .i64 x.start, .int .i64 x.hours, .int .i64 x.at_, .int .i64 x.long], .agg #[.int .i64 (ys), .int .i64 y.hours, .int .i64 y.at_, .int .i64 y.long]]) (by simp [results, Try.results35, go_sem, c0, c1, c2, c3, s0, s1, s2, s3]) rfl ?_
    exact ⟨x, ⟨ys, y.hours, y.at_, y.long⟩, HX.out, HY.out, rfl, below_drewN (HSET.out W5 _ _ _ _ _ _ _ _ HD.out) 1⟩
  · have kA5 := kA4
    have kB5 := kB4
    have kR5 := kR4
    have kS5 := kS4
    have HY : Hid (nearW y) := by
      have := HYB.out
      show nearW _
      unfold nearW; omega
    clear kA4 kB4 kR4 kS4
    go_wp2_with fail
    rw [HA.out, HBB.out]
    have HD := Lib.hid (bw1.trans ((dd4.below b1.size).mono bw0.size))
    have a0 := kA5.cell 0
    have a1 := kA5.cell 1
    have a2 := kA5.cell 2
    have a3 := kA5.cell 3
    have b0 := kB5.cell 0
    have b1 := kB5.cell 1
    have b2 := kB5.cell 2
    have b3 := kB5.cell 3
    have c0 := kR5.cell 0
    have c1 := kR5.cell 1
    have c2 := kR5.cell 2
    have c3 := kR5.cell 3
    have s0 := kS5.cell 0
    have s1 := kS5.cell 1
    have s2 := kS5.cell 2
    have s3 := kS5.cell 3
    have f0 := kR5.frozen 0
    have f1 := kR5.frozen 1
    have f2 := kR5.frozen 2
    have f3 := kR5.frozen 3
    have t0 := kS5.frozen 0
    have t1 := kS5.frozen 1
    have t2 := kS5.frozen 2
    have t3 := kS5.frozen 3
    simp only [List.getElem?_toArray, List.getElem?_cons_zero, List.getElem?_cons_succ] at a0 a1 a2 a3 b0 b1 b2 b3 c0 c1 c2 c3 s0 s1 s2 s3
    have n1 : ¬ w.heap.size = A := by omega
    have n2 : ¬ w.heap.size = B := by omega
    have n3 : ¬ w.heap.size + 1 = A := by omega
    have n4 : ¬ w.heap.size + 1 = B := by omega
    have n5 : ¬ A = w.heap.size := by omega
    have n6 : ¬ B = w.heap.size := by omega
    have n7 : ¬ A = w.heap.size + 1 := by omega
    have n8 : ¬ B = w.heap.size + 1 := by omega
    clear kA5 kB5 kR5 kS5
    go_wp2_with fail
    go_region
    go_wp2_with fail
    refine bodyPost_ret (v := .tuple #[.agg #[.int .i64 x.start, .int .i64 x.hours, .int .i64 x.at_, .int .i64 x.long], .agg #[.int .i64 (y.start), .int .i64 y.hours, .int .i64 y.at_, .int .i64 y.long]]) (by simp [results, Try.results35, go_sem, c0, c1, c2, c3, s0, s1, s2, s3]) rfl ?_
    exact ⟨x, y, HX.out, HY.out, rfl, below_drewN (HSET.out w4 _ _ _ _ _ _ _ _ HD.out) 1⟩
theorem clash_self (x : CallV) : clashV x x = callV x := by
  cases h : callV x with
  | false => exact clashV_f1 h
  | true =>
    rw [clashV_t h h]
    have := callV_spec h
    simp only [clB, decide_eq_true_eq]
    omega
theorem clash_left (x : CallV) : clashV x ⟨x.start + x.hours, x.hours, x.at_, x.long⟩ = false := by
  unfold clashV
  have : clB x ⟨x.start + x.hours, x.hours, x.at_, x.long⟩ = false := by
    rw [Bool.eq_false_iff]
    intro h
    simp only [clB, decide_eq_true_eq] at h
    omega
  rw [this]; simp
theorem clash_hi (B : Nat) (w0 : World) (x y : CallV) (r : Bool) (hB : B ≤ w0.heap.size) (h : clashV x y = r) (W : World) (hW : Below B w0 W) :
    Calls Try.prog 17 #[.agg #[.int .i64 x.start, .int .i64 x.hours, .int .i64 x.at_, .int .i64 x.long], .agg #[.int .i64 y.start, .int .i64 y.hours, .int .i64 y.at_, .int .i64 y.long]] W fun e w' => e = .returned (.bool r) ∧ Below B w0 w' :=
  (clash_is (clash_impl x y W) h).mono fun _ _ ⟨he, hw⟩ => ⟨he, hW.trans (hw.mono (by have := hW.size; omega))⟩
set_option maxHeartbeats 3200000 in
theorem law_Clash (w : World) (ha : RdU w A l) (hl : l.length ≤ 9223372036854775807) (hc : l.length ≤ c) :
    Calls Try.prog 9 #[.slice A l.length c] w fun e w' => e = .returned (.bool true) ∧ Below w.heap.size w w' := by
  by_cases hs : l.length ≤ 1048576
  · go_enter Try.func9, Try.ntmps9
    go_wp2_with fail
    refine (drawCl w ha hc hs).mono ?_
    rintro e w1 ⟨⟨xs, xh, xa, xl⟩, ⟨ys, yh, ya, yl⟩, hx, hy, rfl, b1⟩
    unfold nearW at hx hy
    simp only at hx hy
    obtain ⟨x1, x2, x3, x4, _⟩ := hx
    have kA := (Blk.new w1 25 #[.int .i64 xs, .int .i64 xh, .int .i64 xa, .int .i64 xl]).alloc (.cells #[.int .i64 ys, .int .i64 yh, .int .i64 ya, .int .i64 yl] 25)
    have kB : Blk ((w1.alloc (.cells #[.int .i64 xs, .int .i64 xh, .int .i64 xa, .int .i64 xl] 25)).alloc (.cells #[.int .i64 ys, .int .i64 yh, .int .i64 ya, .int .i64 yl] 25)) (w1.heap.size + 1) 25 #[.int .i64 ys, .int .i64 yh, .int .i64 ya, .int .i64 yl] := by
      have h := Blk.new (w1.alloc (.cells #[.int .i64 xs, .int .i64 xh, .int .i64 xa, .int .i64 xl] 25)) 25 #[.int .i64 ys, .int .i64 yh, .int .i64 ya, .int .i64 yl]
      simpa using h
    have bw := (b1.alloc b1.size (.cells #[.int .i64 xs, .int .i64 xh, .int .i64 xa, .int .i64 xl] 25)).alloc (b1.alloc b1.size _).size (.cells #[.int .i64 ys, .int .i64 yh, .int .i64 ya, .int .i64 yl] 25)
    obtain ⟨W2, HW2⟩ : ∃ W2, Hid ((w1.alloc (.cells #[.int .i64 xs, .int .i64 xh, .int .i64 xa, .int .i64 xl] 25)).alloc (.cells #[.int .i64 ys, .int .i64 yh, .int .i64 ya, .int .i64 yl] 25) = W2) := ⟨_, rfl⟩
    rw [HW2.out] at kA kB bw
    obtain ⟨r, HV⟩ : ∃ r, Hid (clashV ⟨xs, xh, xa, xl⟩ ⟨ys, yh, ya, yl⟩ = r) := ⟨_, rfl⟩
    obtain ⟨q, HQ⟩ : ∃ q, Hid (callV ⟨xs, xh, xa, xl⟩ = q) := ⟨_, rfl⟩
    have HV2 : Hid (clashV ⟨ys, yh, ya, yl⟩ ⟨xs, xh, xa, xl⟩ = r) := by show _ = _; rw [clashV_symm]; exact HV.out
    have t0 : (r != r) = false := by simp
    have t1 : (q == q) = true := by simp
    clear hy b1
    go_wp2_with fail
    rw [HW2.out]
    refine (clash_is (clash_impl ⟨xs, xh, xa, xl⟩ ⟨ys, yh, ya, yl⟩ W2) HV.out).mono ?_
    rintro e w2 ⟨rfl, b2⟩
    have kA := kA.below b2 kA.lt
    have kB := kB.below b2 kB.lt
    have bw := bw.trans (b2.mono bw.size)
    have a0 := kA.cell 0
    have a1 := kA.cell 1
    have a2 := kA.cell 2
    have a3 := kA.cell 3
    have c0 := kB.cell 0
    have c1 := kB.cell 1
    have c2 := kB.cell 2
    have c3 := kB.cell 3
    simp only [List.getElem?_toArray, List.getElem?_cons_zero, List.getElem?_cons_succ] at a0 a1 a2 a3 c0 c1 c2 c3
    go_wp2_with fail
    refine (clash_is (clash_spec ⟨xs, xh, xa, xl⟩ ⟨ys, yh, ya, yl⟩ w2) HV.out).mono ?_
    rintro e w3 ⟨rfl, b3⟩
    have kA := kA.below b3 kA.lt
    have kB := kB.below b3 kB.lt
    have bw := bw.trans (b3.mono bw.size)
    clear a0 a1 a2 a3 c0 c1 c2 c3 b2
    have a0 := kA.cell 0
    have a1 := kA.cell 1
    have a2 := kA.cell 2
    have a3 := kA.cell 3
    have c0 := kB.cell 0
    have c1 := kB.cell 1
    have c2 := kB.cell 2
    have c3 := kB.cell 3
    simp only [List.getElem?_toArray, List.getElem?_cons_zero, List.getElem?_cons_succ] at a0 a1 a2 a3 c0 c1 c2 c3
    go_wp2_with fail
    refine (clash_is (clash_impl ⟨ys, yh, ya, yl⟩ ⟨xs, xh, xa, xl⟩ w3) HV2.out).mono ?_
    rintro e w4 ⟨rfl, b4⟩
    have kA := kA.below b4 kA.lt
    have bw := bw.trans (b4.mono bw.size)
    clear a0 a1 a2 a3 c0 c1 c2 c3 b3 kB
    have a0 := kA.cell 0
    have a1 := kA.cell 1
    have a2 := kA.cell 2
    have a3 := kA.cell 3
    simp only [List.getElem?_toArray, List.getElem?_cons_zero, List.getElem?_cons_succ] at a0 a1 a2 a3
    have hAl := kA.lt
    have kX := Blk.new w4 25 #[.int .i64 (xs + xh), .int .i64 xh, .int .i64 xa, .int .i64 xl]
    have kA5 := kA.alloc (.cells #[.int .i64 (xs + xh), .int .i64 xh, .int .i64 xa, .int .i64 xl] 25)
    have bw5 := bw.alloc bw.size (.cells #[.int .i64 (xs + xh), .int .i64 xh, .int .i64 xa, .int .i64 xl] 25)
    obtain ⟨X, HXX⟩ : ∃ X, Hid (w4.heap.size = X) := ⟨_, rfl⟩
    obtain ⟨W6, HW6⟩ : ∃ W6, Hid (w4.alloc (.cells #[.int .i64 (xs + xh), .int .i64 xh, .int .i64 xa, .int .i64 xl] 25) = W6) := ⟨_, rfl⟩
    rw [HW6.out] at kX kA5 bw5
    have hAX : w1.heap.size < X := by rw [← HXX.out]; exact hAl
    go_wp2_with fail
    rw [HW6.out]
    rw [HXX.out] at kX ⊢
    have hXl := kX.lt
    have hwX : w.heap.size ≤ X := by have h1 := bw.size; have h2 := HXX.out; omega
    have HCK : Hid (∀ W, Below (X + 1) W6 W → W.cell? ⟨w1.heap.size, 0, none⟩ = some (.int .i64 xs) ∧ W.cell? ⟨w1.heap.size, 1, none⟩ = some (.int .i64 xh) ∧ W.cell? ⟨w1.heap.size, 2, none⟩ = some (.int .i64 xa) ∧ W.cell? ⟨w1.heap.size, 3, none⟩ = some (.int .i64 xl) ∧
        W.cell? ⟨X, 0, none⟩ = some (.int .i64 (xs + xh)) ∧ W.cell? ⟨X, 1, none⟩ = some (.int .i64 xh) ∧ W.cell? ⟨X, 2, none⟩ = some (.int .i64 xa) ∧ W.cell? ⟨X, 3, none⟩ = some (.int .i64 xl) ∧ Below (X + 1) W6 W) := fun W hW => by
      have k1 := kA5.below hW (by omega)
      have k2 := kX.below hW (by omega)
      have e0 := k1.cell 0
      have e1 := k1.cell 1
      have e2 := k1.cell 2
      have e3 := k1.cell 3
      have g0 := k2.cell 0
      have g1 := k2.cell 1
      have g2 := k2.cell 2
      have g3 := k2.cell 3
      simp only [List.getElem?_toArray, List.getElem?_cons_zero, List.getElem?_cons_succ] at e0 e1 e2 e3 g0 g1 g2 g3
      exact ⟨e0, e1, e2, e3, g0, g1, g2, g3, hW⟩
    have HAA : Hid (∀ W, Below (X + 1) W6 W → Calls Try.prog 17 #[.agg #[.int .i64 xs, .int .i64 xh, .int .i64 xa, .int .i64 xl], .agg #[.int .i64 xs, .int .i64 xh, .int .i64 xa, .int .i64 xl]] W fun e w' => e = .returned (.bool q) ∧ Below (X + 1) W6 w') := fun W hW => clash_hi (X + 1) W6 ⟨xs, xh, xa, xl⟩ ⟨xs, xh, xa, xl⟩ q (by omega) (by rw [clash_self]; exact HQ.out) W hW
    have HAX : Hid (∀ W, Below (X + 1) W6 W → Calls Try.prog 17 #[.agg #[.int .i64 xs, .int .i64 xh, .int .i64 xa, .int .i64 xl], .agg #[.int .i64 (xs + xh), .int .i64 xh, .int .i64 xa, .int .i64 xl]] W fun e w' => e = .returned (.bool false) ∧ Below (X + 1) W6 w') := fun W hW => clash_hi (X + 1) W6 ⟨xs, xh, xa, xl⟩ ⟨xs + xh, xh, xa, xl⟩ false (by omega) (clash_left ⟨xs, xh, xa, xl⟩) W hW
    have HCV : Hid (∀ W, Below (X + 1) W6 W → Calls Try.prog 15 #[.agg #[.int .i64 xs, .int .i64 xh, .int .i64 xa, .int .i64 xl]] W fun e w' => e = .returned (.bool q) ∧ Below (X + 1) W6 w') := fun W hW =>
      (cv_is (cv_impl ⟨xs, xh, xa, xl⟩ W) HQ.out).mono fun _ _ ⟨he, hw⟩ => ⟨he, hW.trans (hw.mono (by have := hW.size; omega))⟩
    have HAL : Hid (∀ W, Below (X + 1) W6 W → Calls Try.prog 34 #[] W fun e w' => e = .returned (.bool true) ∧ Below (X + 1) W6 w') := fun W hW =>
      (alive_any W).mono fun _ _ ⟨he, hw⟩ => ⟨he, hw ▸ hW⟩
    have B0 := Below.refl (X + 1) W6
    have BW5 := Lib.hid bw5
    obtain ⟨a0, a1, a2, a3, c0, c1, c2, c3, _⟩ := HCK.out W6 B0
    clear kX kA5 bw5 bw kA b4
    go_region_held3 (fun W => W.cell? ⟨w1.heap.size, 0, none⟩ = some (.int .i64 xs) ∧ W.cell? ⟨w1.heap.size, 1, none⟩ = some (.int .i64 xh) ∧ W.cell? ⟨w1.heap.size, 2, none⟩ = some (.int .i64 xa) ∧ W.cell? ⟨w1.heap.size, 3, none⟩ = some (.int .i64 xl) ∧
        W.cell? ⟨X, 0, none⟩ = some (.int .i64 (xs + xh)) ∧ W.cell? ⟨X, 1, none⟩ = some (.int .i64 xh) ∧ W.cell? ⟨X, 2, none⟩ = some (.int .i64 xa) ∧ W.cell? ⟨X, 3, none⟩ = some (.int .i64 xl) ∧ Below (X + 1) W6 W) (first | exact HCK.out _ (by assumption) | exact HCK.out _ (below_drewN (by assumption) 1) | go_keep)
      (first | (go_at_call 17; ((with_reducible refine (HAA.out _ ?_).mono ?_); (first | assumption | exact below_drewN (by assumption) 1); rintro e w2 ⟨rfl, b2⟩)) | (go_at_call 17; ((with_reducible refine (HAX.out _ ?_).mono ?_); (first | assumption | exact below_drewN (by assumption) 1); rintro e w2 ⟨rfl, b2⟩)) | (go_at_call 15; refine (HCV.out _ ?_).mono ?_; (first | assumption | exact below_drewN (by assumption) 1); rintro e w2 ⟨rfl, b2⟩) | (go_at_call 34; refine (HAL.out _ ?_).mono ?_; (first | assumption | exact below_drewN (by assumption) 1); rintro e w2 ⟨rfl, b2⟩))
    have HF := Lib.hid (BW5.out.trans (Below.mono (by assumption : Below (X + 1) W6 _) (by omega)))
    go_wp2_with fail
    go_ret
    exact ⟨rfl, HF.out⟩
  · go_enter Try.func9, Try.ntmps9
    go_wp2_with fail
    go_ret
    exact ⟨rfl, Below.refl _ _⟩
end
end Go.Proofs.Ytiejkcjbjjnacaa
