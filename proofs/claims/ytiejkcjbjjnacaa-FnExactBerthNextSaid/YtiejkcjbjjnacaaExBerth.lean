/- Each function on ships at a quay, called by its statement. -/
import Derived.Test.YtiejkcjbjjnacaaBerth3
import Derived.Test.YtiejkcjbjjnacaaTCall
namespace Go.Proofs.Ytiejkcjbjjnacaa
open Go.RowKit
set_option linter.unusedVariables false
set_option linter.unusedSimpArgs false

set_option maxHeartbeats 1600000 in
theorem law_ExCallValid0 (x : CallV) (w : World) :
    Calls Try.prog 3 #[.agg #[.int .i64 x.start, .int .i64 x.hours, .int .i64 x.at_, .int .i64 x.long]] w fun e w' => e = .returned (.bool true) ∧ Below w.heap.size w w' := by
  obtain ⟨r, HV⟩ : ∃ r, Hid (callV x = r) := ⟨_, rfl⟩
  have HQ1 := Lib.hid (fun W => cv_is (cv_spec x W) HV.out)
  have HQ2 := Lib.hid (fun W => cv_is (cv_impl x W) HV.out)
  have HBX := Lib.hid (Blk.new w 23 #[.int .i64 x.start, .int .i64 x.hours, .int .i64 x.at_, .int .i64 x.long])
  have HB := Lib.hid ((Below.refl w.heap.size w).alloc (Nat.le_refl _) (.cells #[.int .i64 x.start, .int .i64 x.hours, .int .i64 x.at_, .int .i64 x.long] 23))
  go_enter Try.func3, Try.ntmps3
  go_wp2_with fail
  refine (toCall_any _ _ _ _ _).mono ?_
  rintro e w1 ⟨rfl, b1⟩
  go_wp2_with fail
  refine (HQ1.out _).mono ?_
  rintro e w2 ⟨rfl, b2⟩
  have bw2 := HB.out.trans ((b1.trans (b2.mono b1.size)).mono HB.out.size)
  have kx := HBX.out.below (b1.trans (b2.mono b1.size)) HBX.out.lt
  have x0 := kx.cell 0
  have x1 := kx.cell 1
  have x2 := kx.cell 2
  have x3 := kx.cell 3
  simp at x0 x1 x2 x3
  clear kx
  go_wp2_with fail
  refine (toCall_any _ _ _ _ _).mono ?_
  rintro e w3 ⟨rfl, b3⟩
  have bw3 := bw2.trans (b3.mono bw2.size)
  clear x0 x1 x2 x3
  go_wp2_with fail
  refine (HQ2.out _).mono ?_
  rintro e w4 ⟨rfl, b4⟩
  go_wp2_with fail
  go_ret
  exact ⟨by simp, bw3.trans (b4.mono bw3.size)⟩
theorem law_ExCallValid {s h a l : Int} (w : World) (s1 : -9223372036854775808 ≤ s) (s2 : s ≤ 9223372036854775807) (h1 : -9223372036854775808 ≤ h) (h2 : h ≤ 9223372036854775807) (a1 : -9223372036854775808 ≤ a) (a2 : a ≤ 9223372036854775807) (l1 : -9223372036854775808 ≤ l) (l2 : l ≤ 9223372036854775807) :
    Calls Try.prog 3 #[.agg #[.int .i64 s, .int .i64 h, .int .i64 a, .int .i64 l]] w fun e w' => e = .returned (.bool true) ∧ Below w.heap.size w w' := law_ExCallValid0 ⟨s, h, a, l⟩ w

set_option maxHeartbeats 4000000 in
theorem law_ExClash0 (x y : CallV) (w : World) :
    Calls Try.prog 4 #[.agg #[.int .i64 x.start, .int .i64 x.hours, .int .i64 x.at_, .int .i64 x.long], .agg #[.int .i64 y.start, .int .i64 y.hours, .int .i64 y.at_, .int .i64 y.long]] w fun e w' => e = .returned (.bool true) ∧ Below w.heap.size w w' := by
  obtain ⟨r, HV⟩ : ∃ r, Hid (clashV x y = r) := ⟨_, rfl⟩
  have HQ1 := Lib.hid (fun W => clash_is (clash_spec x y W) HV.out)
  have HQ2 := Lib.hid (fun W => clash_is (clash_impl x y W) HV.out)
  have hbx := (Blk.new w 23 #[.int .i64 x.start, .int .i64 x.hours, .int .i64 x.at_, .int .i64 x.long]).alloc (.cells #[.int .i64 y.start, .int .i64 y.hours, .int .i64 y.at_, .int .i64 y.long] 23)
  have hby := Blk.new (w.alloc (.cells #[.int .i64 x.start, .int .i64 x.hours, .int .i64 x.at_, .int .i64 x.long] 23)) 23 #[.int .i64 y.start, .int .i64 y.hours, .int .i64 y.at_, .int .i64 y.long]
  have bw0 : Below w.heap.size w ((w.alloc (.cells #[.int .i64 x.start, .int .i64 x.hours, .int .i64 x.at_, .int .i64 x.long] 23)).alloc (.cells #[.int .i64 y.start, .int .i64 y.hours, .int .i64 y.at_, .int .i64 y.long] 23)) := ((Below.refl _ _).alloc (Nat.le_refl _) _).alloc (by simp) _
  have hc0 := hbx.cell 0
  have hc1 := hbx.cell 1
  have hc2 := hbx.cell 2
  have hc3 := hbx.cell 3
  have hd0 := hby.cell 0
  have hd1 := hby.cell 1
  have hd2 := hby.cell 2
  have hd3 := hby.cell 3
  have hg := hbx.lt
  have hg2 := hby.lt
  have hz : (w.alloc (.cells #[.int .i64 x.start, .int .i64 x.hours, .int .i64 x.at_, .int .i64 x.long] 23)).heap.size = w.heap.size + 1 := by simp
  rw [hz] at hd0 hd1 hd2 hd3 hg2
  simp only [List.getElem?_toArray, List.getElem?_cons_zero, List.getElem?_cons_succ] at hc0 hc1 hc2 hc3 hd0 hd1 hd2 hd3
  clear hz hbx hby
  go_enter Try.func4, Try.ntmps4
  go_wp2_with fail
  generalize hW : (w.alloc (.cells #[.int .i64 x.start, .int .i64 x.hours, .int .i64 x.at_, .int .i64 x.long] 23)).alloc (.cells #[.int .i64 y.start, .int .i64 y.hours, .int .i64 y.at_, .int .i64 y.long] 23) = W at *
  generalize hG2 : w.heap.size + 1 = g2 at *
  generalize hG : w.heap.size = g at *
  clear hW hG2
  have bw1 : Below W.heap.size W W.drew := (Below.refl _ _).drew
  go_region_held3 (fun w' => w'.cell? ⟨g, 0, none⟩ = some (.int .i64 x.start) ∧ w'.cell? ⟨g, 1, none⟩ = some (.int .i64 x.hours) ∧ w'.cell? ⟨g, 2, none⟩ = some (.int .i64 x.at_) ∧ w'.cell? ⟨g, 3, none⟩ = some (.int .i64 x.long) ∧ w'.cell? ⟨g2, 0, none⟩ = some (.int .i64 y.start) ∧ w'.cell? ⟨g2, 1, none⟩ = some (.int .i64 y.hours) ∧ w'.cell? ⟨g2, 2, none⟩ = some (.int .i64 y.at_) ∧ w'.cell? ⟨g2, 3, none⟩ = some (.int .i64 y.long)) (first | exact ⟨(bw1.cell (p := ⟨g, 0, none⟩) hg).trans hc0, (bw1.cell (p := ⟨g, 1, none⟩) hg).trans hc1, (bw1.cell (p := ⟨g, 2, none⟩) hg).trans hc2, (bw1.cell (p := ⟨g, 3, none⟩) hg).trans hc3, (bw1.cell (p := ⟨g2, 0, none⟩) hg2).trans hd0, (bw1.cell (p := ⟨g2, 1, none⟩) hg2).trans hd1, (bw1.cell (p := ⟨g2, 2, none⟩) hg2).trans hd2, (bw1.cell (p := ⟨g2, 3, none⟩) hg2).trans hd3⟩ | go_keep) (first | (go_at_call 14; refine (toCall_any _ _ _ _ _).mono ?_; rintro e wn ⟨rfl, bn⟩; have bw1 := bw1.trans (bn.mono bw1.size)) | (go_at_call 16; refine (HQ1.out _).mono ?_; rintro e wn ⟨rfl, bn⟩; have bw1 := bw1.trans (bn.mono bw1.size)))
  have kc0 := (bw1.cell (p := ⟨g, 0, none⟩) hg).trans hc0
  have kc1 := (bw1.cell (p := ⟨g, 1, none⟩) hg).trans hc1
  have kc2 := (bw1.cell (p := ⟨g, 2, none⟩) hg).trans hc2
  have kc3 := (bw1.cell (p := ⟨g, 3, none⟩) hg).trans hc3
  have kd0 := (bw1.cell (p := ⟨g2, 0, none⟩) hg2).trans hd0
  have kd1 := (bw1.cell (p := ⟨g2, 1, none⟩) hg2).trans hd1
  have kd2 := (bw1.cell (p := ⟨g2, 2, none⟩) hg2).trans hd2
  have kd3 := (bw1.cell (p := ⟨g2, 3, none⟩) hg2).trans hd3
  have kg := Nat.lt_of_lt_of_le hg bw1.size
  have kg2 := Nat.lt_of_lt_of_le hg2 bw1.size
  have bwW : Below g w wn := bw0.trans (bw1.mono (Nat.le_of_lt hg))
  clear hc0 hc1 hc2 hc3 hd0 hd1 hd2 hd3 hg hg2 bw0
  have bw1 : Below wn.heap.size wn wn.drew := (Below.refl _ _).drew
  go_wp2_with fail
  go_region_held3 (fun w' => w'.cell? ⟨g, 0, none⟩ = some (.int .i64 x.start) ∧ w'.cell? ⟨g, 1, none⟩ = some (.int .i64 x.hours) ∧ w'.cell? ⟨g, 2, none⟩ = some (.int .i64 x.at_) ∧ w'.cell? ⟨g, 3, none⟩ = some (.int .i64 x.long) ∧ w'.cell? ⟨g2, 0, none⟩ = some (.int .i64 y.start) ∧ w'.cell? ⟨g2, 1, none⟩ = some (.int .i64 y.hours) ∧ w'.cell? ⟨g2, 2, none⟩ = some (.int .i64 y.at_) ∧ w'.cell? ⟨g2, 3, none⟩ = some (.int .i64 y.long)) (first | exact ⟨(bw1.cell (p := ⟨g, 0, none⟩) kg).trans kc0, (bw1.cell (p := ⟨g, 1, none⟩) kg).trans kc1, (bw1.cell (p := ⟨g, 2, none⟩) kg).trans kc2, (bw1.cell (p := ⟨g, 3, none⟩) kg).trans kc3, (bw1.cell (p := ⟨g2, 0, none⟩) kg2).trans kd0, (bw1.cell (p := ⟨g2, 1, none⟩) kg2).trans kd1, (bw1.cell (p := ⟨g2, 2, none⟩) kg2).trans kd2, (bw1.cell (p := ⟨g2, 3, none⟩) kg2).trans kd3⟩ | go_keep) (first | (go_at_call 14; refine (toCall_any _ _ _ _ _).mono ?_; rintro e wn ⟨rfl, bn⟩; have bw1 := bw1.trans (bn.mono bw1.size)) | (go_at_call 17; refine (HQ2.out _).mono ?_; rintro e wn ⟨rfl, bn⟩; have bw1 := bw1.trans (bn.mono bw1.size)))
  go_wp2_with fail
  go_ret
  exact ⟨by simp, by rw [hG]; exact bwW.trans (bw1.mono (Nat.le_of_lt kg))⟩
theorem law_ExClash {s h a l t i b m : Int} (w : World) (s1 : -9223372036854775808 ≤ s) (s2 : s ≤ 9223372036854775807) (h1 : -9223372036854775808 ≤ h) (h2 : h ≤ 9223372036854775807) (a1 : -9223372036854775808 ≤ a) (a2 : a ≤ 9223372036854775807) (l1 : -9223372036854775808 ≤ l) (l2 : l ≤ 9223372036854775807)
    (t1 : -9223372036854775808 ≤ t) (t2 : t ≤ 9223372036854775807) (i1 : -9223372036854775808 ≤ i) (i2 : i ≤ 9223372036854775807) (b1 : -9223372036854775808 ≤ b) (b2 : b ≤ 9223372036854775807) (m1 : -9223372036854775808 ≤ m) (m2 : m ≤ 9223372036854775807) :
    Calls Try.prog 4 #[.agg #[.int .i64 s, .int .i64 h, .int .i64 a, .int .i64 l], .agg #[.int .i64 t, .int .i64 i, .int .i64 b, .int .i64 m]] w fun e w' => e = .returned (.bool true) ∧ Below w.heap.size w w' := law_ExClash0 ⟨s, h, a, l⟩ ⟨t, i, b, m⟩ w

theorem csb {f : FuncId} {args : Array Value} {w : World} {v x : Bool} (h : Calls Try.prog f args w fun e w' => e = .returned (.bool v) ∧ Below w.heap.size w w') (e : v = x) :
    Calls Try.prog f args w fun e w' => e = .returned (.bool x) ∧ Below w.heap.size w w' := by rw [← e]; exact h

set_option maxHeartbeats 4000000 in
theorem law_ExCallsValid {A0 : Option Addr} {l0 : List CallV} {c0 : Nat} (w : World) (ha0 : RdCall w A0 l0) (hl0 : l0.length ≤ 9223372036854775807) :
    Calls Try.prog 5 #[.slice A0 l0.length c0] w fun e w' => e = .returned (.bool true) ∧ Below w.heap.size w w' := by
  by_cases hs0 : l0.length ≤ 1048576
  · skip
    obtain ⟨r, HV⟩ : ∃ r, Hid (callsV l0 = r) := ⟨_, rfl⟩
    go_enter Try.func5, Try.ntmps5
    have bw : Below w.heap.size w w := Below.refl _ _
    go_wp2_with fail
    refine (szCallS_yes A0 l0.length c0 _ hs0).mono ?_
    rintro e w' ⟨rfl, rfl⟩
    go_wp2_with fail
    refine (toCallS_any A0 l0 c0 _ (ha0.below bw) hs0).mono ?_
    rintro e w1 ⟨B1, rfl, o1, b1⟩
    have k1 : w.heap.size ≤ w1.heap.size := b1.size
    have bw := bw.trans (b1.mono bw.size)
    go_wp2_with fail
    refine (csb (csv_spec B1 l0 l0.length _ (RdCall.of_rd o1.rd) hs0) HV.out).mono ?_
    rintro e w2 ⟨rfl, b2⟩
    have k2 : w1.heap.size ≤ w2.heap.size := b2.size
    have o1 := o1.below b2 (by omega)
    have bw := bw.trans (b2.mono bw.size)
    clear o1
    go_wp2_with fail
    refine (toCallS_any A0 l0 c0 _ (ha0.below bw) hs0).mono ?_
    rintro e w3 ⟨B3, rfl, o3, b3⟩
    have k3 : w2.heap.size ≤ w3.heap.size := b3.size
    have bw := bw.trans (b3.mono bw.size)
    go_wp2_with fail
    refine (csb (csv_impl B3 l0 l0.length _ (RdCall.of_rd o3.rd) hs0 (Nat.le_refl _)) HV.out).mono ?_
    rintro e w4 ⟨rfl, b4⟩
    have k4 : w3.heap.size ≤ w4.heap.size := b4.size
    have o3 := o3.below b4 (by omega)
    have bw := bw.trans (b4.mono bw.size)
    go_wp2_with fail
    refine (toCallS_any A0 l0 c0 _ (ha0.below bw) hs0).mono ?_
    rintro e w5 ⟨B5, rfl, o5, b5⟩
    have k5 : w4.heap.size ≤ w5.heap.size := b5.size
    have o3 := o3.below b5 (by omega)
    have bw := bw.trans (b5.mono bw.size)
    go_wp2_with fail
    refine (eqCallS_any B3 B5 l0 l0 _ _ _ (RdCall.of_rd o3.rd) (RdCall.of_rd o5.rd) hs0 hs0).mono ?_
    rintro e w6 ⟨rfl, b6⟩
    have k6 : w5.heap.size ≤ w6.heap.size := b6.size
    have o3 := o3.below b6 (by omega)
    have o5 := o5.below b6 (by omega)
    have bw := bw.trans (b6.mono bw.size)
    clear o5
    go_wp2_with fail
    go_ret
    exact ⟨by simp, bw⟩
  · go_enter Try.func5, Try.ntmps5
    go_wp2_with fail
    refine (szCallS_no A0 l0.length c0 _ hl0 hs0).mono ?_
    rintro e w' ⟨rfl, rfl⟩
    go_wp2_with fail
    go_ret
    exact ⟨rfl, Below.refl _ _⟩

end Go.Proofs.Ytiejkcjbjjnacaa
