/- What is drawn for the laws on single ships at a quay; the law on a valid ship. -/
import Derived.Test.YtiejkcjbjjnacaaDraw
import Derived.Test.YtiejkcjbjjnacaaBerth2
import Derived.Test.YtiejkcjbjjnacaaAlive
namespace Go.Proofs.Ytiejkcjbjjnacaa
open Go.RowKit
set_option linter.unusedVariables false
set_option linter.unusedSimpArgs false

theorem odd_0 (g : Nat) (w : World) : Calls Try.prog 52 #[.pointer (some ⟨g, 0, none⟩), .int .i64 0] w fun e w' => e = .returned (.bool false) ∧ w = w' := by
  go_enter Try.func52, Try.ntmps52
  go_wp2_with fail
  go_ret
  exact ⟨rfl, rfl⟩
theorem drawn_set4 {lo g q p R : Nat} {w W : World} {a b c d : Value} (h : Drawn lo g q w W) (hR : w.heap.size ≤ R) (hg : g < w.heap.size) (hq : q ≤ p) : Drawn lo g p w ((((W.setCell ⟨R, 0, none⟩ a).setCell ⟨R, 1, none⟩ b).setCell ⟨R, 2, none⟩ c).setCell ⟨R, 3, none⟩ d) :=
  ((((h.setNew (a := ⟨R, 0, none⟩) hR hg a).setNew (a := ⟨R, 1, none⟩) hR hg b).setNew (a := ⟨R, 2, none⟩) hR hg c).setNew (a := ⟨R, 3, none⟩) hR hg d).more hq
/-- A ship whose numbers lie near the valid ones. -/
def nearV (c : CallV) : Prop := -1 ≤ c.start ∧ c.start ≤ 1000 ∧ 0 ≤ c.hours ∧ c.hours ≤ 100 ∧ 0 ≤ c.at_ ∧ c.at_ ≤ 20 ∧ 1 ≤ c.long ∧ c.long ≤ 9
def DrewCall (lo g p : Nat) (w : World) (e : Ending) (w' : World) : Prop :=
  ∃ c : CallV, (-1 ≤ c.start ∧ c.start ≤ 1000 ∧ 0 ≤ c.hours ∧ c.hours ≤ 100 ∧ 0 ≤ c.at_ ∧ c.at_ ≤ 20 ∧ 1 ≤ c.long ∧ c.long ≤ 9) ∧ e = .returned (.agg #[.int .i64 c.start, .int .i64 c.hours, .int .i64 c.at_, .int .i64 c.long]) ∧ Drawn lo g (p + 8) w w'

set_option maxHeartbeats 3200000 in
theorem call_any (lo g p : Nat) (n : Int) (w : World) (h : Rdr w lo g p) (hp : p ≤ 1000000) (hn : 0 ≤ n) (hn2 : n ≤ 1000) :
    Calls Try.prog 47 #[.pointer (some ⟨g, 0, none⟩), .int .i64 n] w (DrewCall lo g p w) := by
  have hg := h.lt
  have kR0 := Blk.new w 25 #[.int .i64 0, .int .i64 0, .int .i64 0, .int .i64 0]
  have D0 := (Drawn.refl h).alloc (.cells #[.int .i64 0, .int .i64 0, .int .i64 0, .int .i64 0] 25)
  go_enter Try.func47, Try.ntmps47
  go_wp2_with fail
  refine (pick_any lo g p 40 _ D0.rdr (by omega) (by omega) (by omega)).mono ?_
  rintro e w1 ⟨s, s0, s9, rfl, hd1, hs1⟩
  go_wp2_with fail
  refine (pick_any lo g _ 12 _ hd1.rdr (by omega) (by omega) (by omega)).mono ?_
  rintro e w2 ⟨y, y0, y9, rfl, hd2, hs2⟩
  go_wp2_with fail
  refine (pick_any lo g _ 9 _ hd2.rdr (by omega) (by omega) (by omega)).mono ?_
  rintro e w3 ⟨z, z0, z9, rfl, hd3, hs3⟩
  have DD := (hd1.trans hd2).trans hd3
  have kR3 := kR0.chg DD.chg (.inr (by omega))
  have D3 := D0.trans DD
  have zz2 : w.heap.size < w3.heap.size := kR3.lt
  have kC3 := Blk.new w3 25 #[.int .i64 s, .int .i64 (1 + y), .int .i64 0, .int .i64 (1 + z)]
  have kR4 := kR3.alloc (.cells #[.int .i64 s, .int .i64 (1 + y), .int .i64 0, .int .i64 (1 + z)] 25)
  have D4 := D3.alloc (.cells #[.int .i64 s, .int .i64 (1 + y), .int .i64 0, .int .i64 (1 + z)] 25)
  clear kR0 kR3 D0 D3 DD hd1 hd2 hd3
  go_wp2_with fail
  refine (pick_any lo g _ (20 - (1 + z) + 1) _ D4.rdr (by omega) (by omega) (by omega)).mono ?_
  rintro e w4 ⟨a, a0, a9, rfl, hd4, hs4⟩
  have kC4 := kC3.chg hd4.chg (.inr (by omega))
  have kR5 := kR4.chg hd4.chg (.inr (by omega))
  have D5 := (D4.trans hd4).setNew (a := ⟨w3.heap.size, 2, none⟩) (by show w.heap.size ≤ w3.heap.size; omega) hg (.int .i64 a)
  have y2 := kC4.cell 2
  have z2 := kC4.frozen 2
  simp only [List.getElem?_toArray, List.getElem?_cons_zero, List.getElem?_cons_succ] at y2
  have kC5 : Blk (w4.setCell ⟨w3.heap.size, 2, none⟩ (.int .i64 a)) w3.heap.size 25 #[.int .i64 s, .int .i64 (1 + y), .int .i64 a, .int .i64 (1 + z)] := by simpa using kC4.set_ 2 (.int .i64 a)
  have kR6 := kR5.far (p := ⟨w3.heap.size, 2, none⟩) (by show w.heap.size ≠ w3.heap.size; omega) (.int .i64 a)
  clear kC3 kR4 D4 kC4 kR5 hd4
  go_wp2_with fail
  clear y2 z2
  by_cases hn0 : n = 0
  · subst hn0
    refine (odd_0 g _).mono ?_
    rintro e w' ⟨rfl, rfl⟩
    have x0 := kC5.cell 0
    have x1 := kC5.cell 1
    have x2 := kC5.cell 2
    have x3 := kC5.cell 3
    have c0 := kR6.cell 0
    have c1 := kR6.cell 1
    have c2 := kR6.cell 2
    have c3 := kR6.cell 3
    have f0 := kR6.frozen 0
    have f1 := kR6.frozen 1
    have f2 := kR6.frozen 2
    have f3 := kR6.frozen 3
    simp only [List.getElem?_toArray, List.getElem?_cons_zero, List.getElem?_cons_succ] at x0 x1 x2 x3 c0 c1 c2 c3
    have HD := Lib.hid D5
    go_wp2_with fail
    refine bodyPost_ret (v := .agg #[.int .i64 (s), .int .i64 (1 + y), .int .i64 (a), .int .i64 (1 + z)]) (by simp [results, Try.results47, go_sem, c0, c1, c2, c3]) rfl ?_
    exact ⟨⟨s, 1 + y, a, 1 + z⟩, by simp only; omega, rfl, drawn_set4 HD.out (Nat.le_refl _) hg (by omega)⟩
  · refine (odd_any lo g _ n _ D5.rdr (by omega) (by omega) (by omega)).mono ?_
    rintro e w5 ⟨b, rfl, hd5, hs5⟩
    have kC6 := kC5.chg hd5.chg (.inr (by omega))
    have kR7 := kR6.chg hd5.chg (.inr (by omega))
    have D6 := D5.trans hd5
    clear kC5 kR6 D5 hd5
    cases b with
    | false =>
      have x0 := kC6.cell 0
      have x1 := kC6.cell 1
      have x2 := kC6.cell 2
      have x3 := kC6.cell 3
      have c0 := kR7.cell 0
      have c1 := kR7.cell 1
      have c2 := kR7.cell 2
      have c3 := kR7.cell 3
      have f0 := kR7.frozen 0
      have f1 := kR7.frozen 1
      have f2 := kR7.frozen 2
      have f3 := kR7.frozen 3
      simp only [List.getElem?_toArray, List.getElem?_cons_zero, List.getElem?_cons_succ] at x0 x1 x2 x3 c0 c1 c2 c3
      have HD := Lib.hid D6
      go_wp2_with fail
      refine bodyPost_ret (v := .agg #[.int .i64 (s), .int .i64 (1 + y), .int .i64 (a), .int .i64 (1 + z)]) (by simp [results, Try.results47, go_sem, c0, c1, c2, c3]) rfl ?_
      exact ⟨⟨s, 1 + y, a, 1 + z⟩, by simp only; omega, rfl, drawn_set4 HD.out (Nat.le_refl _) hg (by omega)⟩
    | true =>
      go_wp2_with fail
      refine (pick_any lo g _ 3 _ D6.rdr (by omega) (by omega) (by omega)).mono ?_
      rintro e w6 ⟨m, m0, m9, rfl, hd6, hs6⟩
      have kC7 := kC6.chg hd6.chg (.inr (by omega))
      have kR8 := kR7.chg hd6.chg (.inr (by omega))
      have D7 := D6.trans hd6
      have e0 := kC7.frozen 0
      have e1 := kC7.frozen 1
      have e2 := kC7.frozen 2
      clear kC6 kR7 D6 hd6
      rcases (by omega : m = 0 ∨ m = 1 ∨ m = 2) with rfl | rfl | rfl
      · skip
        have D8 := D7.setNew (a := ⟨w3.heap.size, 2, none⟩) (by show w.heap.size ≤ w3.heap.size; omega) hg (.int .i64 (20 - (1 + z) + 1))
        have x0 := kC7.cell 0
        have x1 := kC7.cell 1
        have x2 := kC7.cell 2
        have x3 := kC7.cell 3
        have c0 := kR8.cell 0
        have c1 := kR8.cell 1
        have c2 := kR8.cell 2
        have c3 := kR8.cell 3
        have f0 := kR8.frozen 0
        have f1 := kR8.frozen 1
        have f2 := kR8.frozen 2
        have f3 := kR8.frozen 3
        simp only [List.getElem?_toArray, List.getElem?_cons_zero, List.getElem?_cons_succ] at x0 x1 x2 x3 c0 c1 c2 c3
        have fc0 := kC7.frozen 0
        have fc1 := kC7.frozen 1
        have fc2 := kC7.frozen 2
        have ne1 : ¬ w.heap.size = w3.heap.size := by omega
        have ne2 : ¬ w3.heap.size = w.heap.size := by omega
        have HD := Lib.hid D8
        go_wp2_with fail
        refine bodyPost_ret (v := .agg #[.int .i64 (s), .int .i64 (1 + y), .int .i64 (20 - (1 + z) + 1), .int .i64 (1 + z)]) (by simp [results, Try.results47, go_sem, c0, c1, c2, c3]) rfl ?_
        exact ⟨⟨s, 1 + y, 20 - (1 + z) + 1, 1 + z⟩, by simp only; omega, rfl, drawn_set4 HD.out (Nat.le_refl _) hg (by omega)⟩
      · go_wp2_with fail
        refine (pick_any lo g _ 2 _ (D7.alloc (.cells #[.int .i64 0, .int .i64 100] 3)).rdr (by omega) (by omega) (by omega)).mono ?_
        rintro e w7 ⟨k, k0, k9, rfl, hd7, hs7⟩
        obtain ⟨v, hv, hvl, v1⟩ := lit2 0 100 k k0 k9
        have zz3 : w3.heap.size < w6.heap.size := kC7.lt
        have hcell := lit_cell hd7.chg hv (by omega)
        have kC8 := (kC7.alloc (.cells #[.int .i64 0, .int .i64 100] 3)).chg hd7.chg (.inr (by omega))
        have kR9 := (kR8.alloc (.cells #[.int .i64 0, .int .i64 100] 3)).chg hd7.chg (.inr (by omega))
        have D8 := ((D7.alloc (.cells #[.int .i64 0, .int .i64 100] 3)).trans hd7).setNew (a := ⟨w3.heap.size, 1, none⟩) (by show w.heap.size ≤ w3.heap.size; omega) hg (.int .i64 v)
        have v2 : -1 ≤ v ∧ v ≤ 1000 := by omega
        have v3 : 0 ≤ v ∧ v ≤ 100 := by omega
        have x0 := kC8.cell 0
        have x1 := kC8.cell 1
        have x2 := kC8.cell 2
        have x3 := kC8.cell 3
        have c0 := kR9.cell 0
        have c1 := kR9.cell 1
        have c2 := kR9.cell 2
        have c3 := kR9.cell 3
        have f0 := kR9.frozen 0
        have f1 := kR9.frozen 1
        have f2 := kR9.frozen 2
        have f3 := kR9.frozen 3
        simp only [List.getElem?_toArray, List.getElem?_cons_zero, List.getElem?_cons_succ] at x0 x1 x2 x3 c0 c1 c2 c3
        have fc0 := kC8.frozen 0
        have fc1 := kC8.frozen 1
        have fc2 := kC8.frozen 2
        have ne1 : ¬ w.heap.size = w3.heap.size := by omega
        have ne2 : ¬ w3.heap.size = w.heap.size := by omega
        have HD := Lib.hid D8
        go_wp2_with fail
        refine bodyPost_ret (v := .agg #[.int .i64 (s), .int .i64 (v), .int .i64 (a), .int .i64 (1 + z)]) (by simp [results, Try.results47, go_sem, c0, c1, c2, c3]) rfl ?_
        exact ⟨⟨s, v, a, 1 + z⟩, by simp only; omega, rfl, drawn_set4 HD.out (Nat.le_refl _) hg (by omega)⟩
      · go_wp2_with fail
        refine (pick_any lo g _ 2 _ (D7.alloc (.cells #[.int .i64 (-1), .int .i64 1000] 3)).rdr (by omega) (by omega) (by omega)).mono ?_
        rintro e w7 ⟨k, k0, k9, rfl, hd7, hs7⟩
        obtain ⟨v, hv, hvl, v1⟩ := lit2 (-1) 1000 k k0 k9
        have zz3 : w3.heap.size < w6.heap.size := kC7.lt
        have hcell := lit_cell hd7.chg hv (by omega)
        have kC8 := (kC7.alloc (.cells #[.int .i64 (-1), .int .i64 1000] 3)).chg hd7.chg (.inr (by omega))
        have kR9 := (kR8.alloc (.cells #[.int .i64 (-1), .int .i64 1000] 3)).chg hd7.chg (.inr (by omega))
        have D8 := ((D7.alloc (.cells #[.int .i64 (-1), .int .i64 1000] 3)).trans hd7).setNew (a := ⟨w3.heap.size, 0, none⟩) (by show w.heap.size ≤ w3.heap.size; omega) hg (.int .i64 v)
        have v2 : -1 ≤ v ∧ v ≤ 1000 := by omega
        have v3 := v2
        have x0 := kC8.cell 0
        have x1 := kC8.cell 1
        have x2 := kC8.cell 2
        have x3 := kC8.cell 3
        have c0 := kR9.cell 0
        have c1 := kR9.cell 1
        have c2 := kR9.cell 2
        have c3 := kR9.cell 3
        have f0 := kR9.frozen 0
        have f1 := kR9.frozen 1
        have f2 := kR9.frozen 2
        have f3 := kR9.frozen 3
        simp only [List.getElem?_toArray, List.getElem?_cons_zero, List.getElem?_cons_succ] at x0 x1 x2 x3 c0 c1 c2 c3
        have fc0 := kC8.frozen 0
        have fc1 := kC8.frozen 1
        have fc2 := kC8.frozen 2
        have ne1 : ¬ w.heap.size = w3.heap.size := by omega
        have ne2 : ¬ w3.heap.size = w.heap.size := by omega
        have HD := Lib.hid D8
        go_wp2_with fail
        refine bodyPost_ret (v := .agg #[.int .i64 (v), .int .i64 (1 + y), .int .i64 (a), .int .i64 (1 + z)]) (by simp [results, Try.results47, go_sem, c0, c1, c2, c3]) rfl ?_
        exact ⟨⟨v, 1 + y, a, 1 + z⟩, by simp only; omega, rfl, drawn_set4 HD.out (Nat.le_refl _) hg (by omega)⟩

section
variable {A : Option Addr} {l : List Int} {c : Nat}
def GotCall (w : World) (e : Ending) (w' : World) : Prop :=
  ∃ x : CallV, nearV x ∧ e = .returned (.agg #[.int .i64 x.start, .int .i64 x.hours, .int .i64 x.at_, .int .i64 x.long]) ∧ Below w.heap.size w w'
set_option maxHeartbeats 800000 in
theorem drawCV (w : World) (ha : RdU w A l) (hc : l.length ≤ c) (hl : l.length ≤ 1048576) : Calls Try.prog 33 #[.slice A l.length c] w (GotCall w) := by
  have kR0 := Blk.new w 25 #[.int .i64 0, .int .i64 0, .int .i64 0, .int .i64 0]
  have bw0 : Below w.heap.size w (w.alloc (.cells #[.int .i64 0, .int .i64 0, .int .i64 0, .int .i64 0] 25)) := (Below.refl _ _).alloc (Nat.le_refl _) _
  have hz0 : (w.alloc (.cells #[.int .i64 0, .int .i64 0, .int .i64 0, .int .i64 0] 25)).heap.size = w.heap.size + 1 := by simp
  have HZ := Lib.hid hz0
  clear hz0
  go_enter Try.func33, Try.ntmps33
  go_wp2_with fail
  refine (open_any _ (ha.alloc _) hc hl).mono ?_
  rintro e w1 ⟨g, rfl, r1, b1⟩
  have hgl := r1.lo
  have kR1 := kR0.below b1 kR0.lt
  go_wp2_with fail
  refine (call_any _ g 0 2 w1 r1 (by omega) (by omega) (by omega)).mono ?_
  rintro e w2 ⟨x, hx, rfl, d2⟩
  have kR := kR1.chg d2.chg (.inl (by have := HZ.out; omega))
  have HB := Lib.hid (bw0.trans ((b1.trans (d2.below b1.size)).mono bw0.size))
  have c0 := kR.cell 0
  have c1 := kR.cell 1
  have c2 := kR.cell 2
  have c3 := kR.cell 3
  have f0 := kR.frozen 0
  have f1 := kR.frozen 1
  have f2 := kR.frozen 2
  have f3 := kR.frozen 3
  simp only [List.getElem?_toArray, List.getElem?_cons_zero, List.getElem?_cons_succ] at c0 c1 c2 c3
  have HX := Lib.hid hx
  clear hx kR0 kR1 kR b1 d2 hgl
  go_wp2_with fail
  refine bodyPost_ret (v := .agg #[.int .i64 x.start, .int .i64 x.hours, .int .i64 x.at_, .int .i64 x.long]) (by simp [results, Try.results33, go_sem, c0, c1, c2, c3]) rfl ?_
  exact ⟨x, HX.out, rfl, (((HB.out.setCell (Nat.le_refl _) _).setCell (Nat.le_refl _) _).setCell (Nat.le_refl _) _).setCell (Nat.le_refl _) _⟩

theorem end_ok {s h a lo : Int} (hv : callV ⟨s, h, a, lo⟩ = true) : callV ⟨s, h, 20 - lo, lo⟩ = true ∧ callV ⟨s, h, 20 - lo + 1, lo⟩ = false := by
  have := callV_spec hv
  simp only at this
  exact ⟨callV_mk this.1 this.2.1 this.2.2.1 (by omega), callV_f4 (by omega)⟩
set_option maxHeartbeats 1600000 in
theorem law_CallValid (w : World) (ha : RdU w A l) (hl : l.length ≤ 9223372036854775807) (hc : l.length ≤ c) :
    Calls Try.prog 8 #[.slice A l.length c] w fun e w' => e = .returned (.bool true) ∧ Below w.heap.size w w' := by
  by_cases hs : l.length ≤ 1048576
  · go_enter Try.func8, Try.ntmps8
    go_wp2_with fail
    refine (drawCV w ha hc hs).mono ?_
    rintro e w1 ⟨⟨s, h, a, lo⟩, hx, rfl, b1⟩
    obtain ⟨n1, n2, n3, n4, n5, n6, n7, n8⟩ := hx
    simp only at n1 n2 n3 n4 n5 n6 n7 n8
    have kB := Blk.new w1 25 #[.int .i64 s, .int .i64 h, .int .i64 a, .int .i64 lo]
    have bw := b1.alloc b1.size (.cells #[.int .i64 s, .int .i64 h, .int .i64 a, .int .i64 lo] 25)
    obtain ⟨r, HV⟩ : ∃ r, Hid (callV ⟨s, h, a, lo⟩ = r) := ⟨_, rfl⟩
    have HI := Lib.hid (fun W => cv_is (cv_impl ⟨s, h, a, lo⟩ W) HV.out)
    have HS := Lib.hid (fun W => cv_is (cv_spec ⟨s, h, a, lo⟩ W) HV.out)
    clear b1
    go_wp2_with fail
    refine (HI.out _).mono ?_
    rintro e w2 ⟨rfl, b2⟩
    have kB := kB.below b2 kB.lt
    have bw := bw.trans (b2.mono bw.size)
    have x0 := kB.cell 0
    have x1 := kB.cell 1
    have x2 := kB.cell 2
    have x3 := kB.cell 3
    simp only [List.getElem?_toArray, List.getElem?_cons_zero, List.getElem?_cons_succ] at x0 x1 x2 x3
    clear b2
    go_wp2_with fail
    refine (HS.out _).mono ?_
    rintro e w3 ⟨rfl, b3⟩
    clear x0 x1 x2 x3
    have kB := kB.below b3 kB.lt
    have bw := bw.trans (b3.mono bw.size)
    clear b3
    cases r with
    | false =>
      have HZ := Lib.hid (fun W => cv_is (cv_impl ⟨0, 0, 0, 0⟩ W) (by decide : callV ⟨0, 0, 0, 0⟩ = false))
      go_wp2_with fail
      refine (HZ.out _).mono ?_
      rintro e w4 ⟨rfl, b4⟩
      have HB := Lib.hid (bw.trans (b4.mono bw.size))
      go_wp2_with fail
      refine (alive_any _).mono ?_
      rintro e w' ⟨rfl, rfl⟩
      go_wp2_with fail
      go_ret
      exact ⟨rfl, HB.out⟩
    | true =>
      obtain ⟨hX, hY⟩ := end_ok HV.out
      have HX := Lib.hid (fun W => cv_is (cv_impl ⟨s, h, 20 - lo, lo⟩ W) hX)
      have HY := Lib.hid (fun W => cv_is (cv_impl ⟨s, h, 20 - lo + 1, lo⟩ W) hY)
      clear hX hY
      have x0 := kB.cell 0
      have x1 := kB.cell 1
      have x2 := kB.cell 2
      have x3 := kB.cell 3
      simp only [List.getElem?_toArray, List.getElem?_cons_zero, List.getElem?_cons_succ] at x0 x1 x2 x3
      have kY : Blk ((w3.alloc (.cells #[.int .i64 s, .int .i64 h, .int .i64 (20 - lo), .int .i64 lo] 25)).alloc (.cells #[.int .i64 s, .int .i64 h, .int .i64 (20 - lo + 1), .int .i64 lo] 25)) (w3.heap.size + 1) 25 #[.int .i64 s, .int .i64 h, .int .i64 (20 - lo + 1), .int .i64 lo] := by
        have h := Blk.new (w3.alloc (.cells #[.int .i64 s, .int .i64 h, .int .i64 (20 - lo), .int .i64 lo] 25)) 25 #[.int .i64 s, .int .i64 h, .int .i64 (20 - lo + 1), .int .i64 lo]
        simpa using h
      have bwY := (bw.alloc bw.size (.cells #[.int .i64 s, .int .i64 h, .int .i64 (20 - lo), .int .i64 lo] 25)).alloc (bw.alloc bw.size _).size (.cells #[.int .i64 s, .int .i64 h, .int .i64 (20 - lo + 1), .int .i64 lo] 25)
      have hlt := kB.lt
      have KY := Lib.hid kY
      have BWY := Lib.hid bwY
      clear kY bwY kB bw
      go_wp2_with fail
      refine (HX.out _).mono ?_
      rintro e w4 ⟨rfl, b4⟩
      have kY := KY.out.below b4 KY.out.lt
      have bw := BWY.out.trans (b4.mono BWY.out.size)
      clear x0 x1 x2 x3
      have y0 := kY.cell 0
      have y1 := kY.cell 1
      have y2 := kY.cell 2
      have y3 := kY.cell 3
      simp only [List.getElem?_toArray, List.getElem?_cons_zero, List.getElem?_cons_succ] at y0 y1 y2 y3
      clear kY b4
      go_wp2_with fail
      refine (HY.out _).mono ?_
      rintro e w5 ⟨rfl, b5⟩
      have HB := Lib.hid (bw.trans (b5.mono bw.size))
      go_wp2_with fail
      go_ret
      exact ⟨rfl, HB.out⟩
  · go_enter Try.func8, Try.ntmps8
    go_wp2_with fail
    go_ret
    exact ⟨rfl, Below.refl _ _⟩
end
end Go.Proofs.Ytiejkcjbjjnacaa
