/- CycleOrder: the reference's walk, and that both give the same; CycleLeast. -/
import Derived.Test.YtkkpegmokejfkaaDraw
import Derived.Test.YtkkpegmokejfkaaCyc2
import Derived.Test.YtkkpegmokejfkaaSortLaw
import Derived.Test.YtkkpegmokejfkaaCycle
namespace Go.Proofs.Ytkkpegmokejfkaa
open Go.RowKit
set_option linter.unusedVariables false
set_option linter.unusedSimpArgs false

/-- The place of a stack in the order. -/
def keyT (l : List TaskV) (x : Int) : Int := if (taskOf l x).off_ < (taskOf l x).back then (taskOf l x).off_ else 1000 - (taskOf l x).back
theorem keyT_bd {l : List TaskV} (hv : ∀ z ∈ l, oneV z) (x : Int) : 0 ≤ keyT l x ∧ keyT l x ≤ 1000 ∧ (keyT l x ≤ 99 ∨ 901 ≤ keyT l x) := by
  have h := taskOf_one hv x
  unfold keyT
  split <;> omega
theorem cfT_key {l : List TaskV} (hv : ∀ z ∈ l, oneV z) (x y : Int) : cfT l x y < 0 ↔ keyT l x < keyT l y := by
  have h1 := taskOf_one hv x
  have h2 := taskOf_one hv y
  unfold cfT cmpT keyT
  split <;> split <;> omega
theorem cycS_ordered {l : List TaskV} (h : listV l = true) : Ordered (keyT l) l.length (cycS l) := by
  rw [cycS_yes h]
  exact insS_ordered fun x y _ _ _ _ => cfT_key (listV_spec h).1 x y
theorem cycS_short (l : List TaskV) : (cycS l).length ≤ 6 := by
  unfold cycS
  split
  · next h =>
    have := (listV_spec h).2
    rw [insS_length, marks_length]; omega
  · simp
theorem keyT_lo {l : List TaskV} {k : Nat} {x : TaskV} (h : l[k]? = some x) (hx : x.off_ < x.back) : keyT l (k : Int) = x.off_ := by
  unfold keyT; rw [taskOf_at h, if_pos hx]
theorem keyT_hi {l : List TaskV} {k : Nat} {x : TaskV} (h : l[k]? = some x) (hx : ¬ x.off_ < x.back) : keyT l (k : Int) = 1000 - x.back := by
  unfold keyT; rw [taskOf_at h, if_neg hx]
theorem row_app {w : World} {base size : Nat} {t : TypeId} {v : Value} {out : List Int} {x : Int} (h : w.ownsRow base t size v (out.length + 1) (out.map (Value.int .i64) ++ [.int .i64 x])) : w.ownsRow base t size v (out ++ [x]).length ((out ++ [x]).map (Value.int .i64)) := by
  simpa using h

set_option maxHeartbeats 6400000 in
theorem cyo_specC (A : Option Addr) (l : List TaskV) (c : Nat) (w : World) (ha : RdTask w A l) (hl : l.length ≤ 1048576) :
    Calls Try.prog 18 #[.slice A l.length c] w (AnsC (fun s => s) (cycS l).length (cycS l) 3 w) := by
  obtain ⟨i0, hi, hz0, hz1, hz2⟩ := info_parts info_int
  obtain ⟨N, HN⟩ : ∃ N, Hid (cycS l = N) := ⟨_, rfl⟩
  rw [HN.out]
  have ha0 := ha.alloc (.cells #[] 3)
  have bw0 : Below w.heap.size w (w.alloc (.cells #[] 3)) := (Below.refl _ _).alloc (Nat.le_refl _) _
  cases hv : listV l with
  | false =>
    have HQ := Lib.hid (bool_is (lv_spec A l c _ ha0 hl) hv)
    have HO := Lib.hid (HN.out.symm.trans (cycS_no hv))
    have HB := Lib.hid bw0
    clear hv
    go_enter Try.func18, Try.ntmps18
    go_wp2_with fail
    refine HQ.out.mono ?_
    rintro e w' ⟨rfl, rfl⟩
    go_wp2_with fail
    go_ret
    rw [HO.out]
    exact ⟨_, _, rfl, Nat.le_refl _, Own.nil_, HB.out⟩
  | true =>
    have HQ := Lib.hid (bool_is (lv_spec A l c _ ha0 hl) hv)
    obtain ⟨hve, hl6⟩ := listV_spec hv
    have HVE := Lib.hid hve
    have HOR := Lib.hid (cycS_ordered hv)
    rw [HN.out] at HOR
    have hnl : N.length ≤ 6 := by have := cycS_short l; rw [HN.out] at this; exact this
    have HKB := Lib.hid (fun x => keyT_bd hve x)
    clear hv hve
    have hown0 : (w.alloc (.cells #[] 3)).ownsRow w.heap.size 3 1 (.slice (some ⟨w.heap.size, 0, none⟩) 0 0) ([] : List Int).length (([] : List Int).map (Value.int .i64)) := World.ownsRow_lit w #[] 0 (Nat.le_refl _) (by unfold maxLen; omega) rfl
    go_enter Try.func18, Try.ntmps18
    go_wp2_with fail
    refine HQ.out.mono ?_
    rintro e w' ⟨rfl, rfl⟩
    go_wp2_with fail
    go_loopw [3, 4] (fun v o wr => ∃ (m : Nat) (out : List Int), m ≤ 100 ∧ o = .int .i64 m ∧ wr.ownsRow w.heap.size 3 1 v out.length (out.map (Value.int .i64)) ∧ Hid (Part (keyT l) l.length m 0 out) ∧ Below w.heap.size w wr) (fun _ o _ => 100 - (intOf o).toNat)
    case atStart => exact ⟨0, [], by omega, rfl, hown0, Part.nil_ (fun x => (HKB.out x).1), bw0⟩
    case round =>
      obtain ⟨m, out0, hm, rfl, hownA, HPA, hbA⟩ := hrel
      by_cases hlt : m < 100
      · have hm1 : (m : Int) ≤ 99 := by omega
        go_wp2_with fail
        go_loopw [3, 5] (fun v i wr => ∃ (k : Nat) (out : List Int), k ≤ l.length ∧ i = .int .i64 k ∧ wr.ownsRow w.heap.size 3 1 v out.length (out.map (Value.int .i64)) ∧ Hid (Part (keyT l) l.length m k out) ∧ Below w.heap.size w wr) (fun _ i _ => l.length - (intOf i).toNat)
        case atStart => exact ⟨0, out0, by omega, rfl, hownA, HPA.out, hbA⟩
        case round =>
          clear hownA HPA hbA
          obtain ⟨k, out, hk, rfl, hown, HP, hbw⟩ := hrel
          have hol : out.length ≤ 6 := by have := HP.out.length_le HOR.out; omega
          by_cases hlk : k < l.length
          · obtain ⟨b, off, x, rfl, hbx, Hx, hx0, hx1⟩ := (ha.below hbw).at_ (k := k) hlk
            have q0 : (0 : Int) ≤ (k : Int) := by omega
            have q1 : (k : Int) < (l.length : Int) := by omega
            by_cases hx : x.off_ < x.back
            · have t1 : decide (x.off_ < x.back) = true := by simpa using hx
              have HKY := Lib.hid (keyT_lo Hx.out hx)
              clear hx
              by_cases he : x.off_ = (m : Int)
              · have t2 : (x.off_ == (m : Int)) = true := beq_iff_eq.2 he
                have HN2 := Lib.hid (HP.out.hit (by rw [HKY.out, he]) q0 q1)
                clear he
                have hbk := hown.lt
                have hsz := hbw.size
                have hone : ∀ u ∈ [Value.int .i64 (k : Int)], u.oneCell' = true := fun u hu => by rw [List.mem_singleton.1 hu]; rfl
                go_wp2_with fail
                go_quiet (fail)
                go_wp2_with (at_builtin; refine wpList_append_own _ rfl _ _ 29 rfl w.heap.size 3 i0 (.int .i64 0) 1 8 Try.underlying29 hi hz0 hz1 hz2 rfl (by decide) _ _ _ rfl ((row_chg hown ((Chg.refl 0 0 _).drewN _) (Nat.zero_le _)).alloc _) ⟨_, 0, none⟩ 1 1 [.int .i64 k] rfl rfl (cell_one_new _ _ _) hone ?c3 ?c4 ?c5 ?_)
                case c3 => unfold maxLen; omega
                case c4 => omega
                case c5 => simp; omega
                intro v' w3 hown3 hgrow _
                have hbw3 := ((below_drewN hbw _).alloc hsz (.cells #[.int .i64 (k : Int)] 3)).grown hgrow (by simp; omega) (fun b e => (hbk b e).1)
                have hown4 := row_app hown3
                clear hown3 hgrow hown
                go_wp2_with fail
                exact ⟨⟨k + 1, out ++ [(k : Int)], by omega, by go_num, hown4, HN2.out, hbw3⟩, by simp [intOf]; omega⟩
              · have t2 : (x.off_ == (m : Int)) = false := beq_eq_false_iff_ne.2 he
                have HN2 := Lib.hid (HP.out.miss (by rw [HKY.out]; exact he))
                clear he
                go_wp2_with fail
                go_quiet (fail)
                go_wp2_with fail
                exact ⟨⟨k + 1, out, by omega, by go_num, row_chg hown ((Chg.refl 0 0 _).drewN _) (Nat.zero_le _), HN2.out, below_drewN hbw _⟩, by simp [intOf]; omega⟩
            · have t1 : decide (x.off_ < x.back) = false := by simpa using hx
              have HN2 := Lib.hid (HP.out.miss (by rw [keyT_hi Hx.out hx]; have := taskOf_one HVE.out k; rw [taskOf_at Hx.out] at this; omega))
              clear hx
              go_wp2_with fail
              go_quiet (fail)
              go_wp2_with fail
              exact ⟨⟨k + 1, out, by omega, by go_num, row_chg hown ((Chg.refl 0 0 _).drewN _) (Nat.zero_le _), HN2.out, below_drewN hbw _⟩, by simp [intOf]; omega⟩
          · obtain rfl : k = l.length := by omega
            have HN2 := Lib.hid (HP.out.jump (K' := ((m + 1 : Nat) : Int)) (by omega) (fun x => by omega))
            go_wp2_with fail
            exact ⟨⟨m + 1, out, by omega, by go_num, hown, HN2.out, hbw⟩, by simp [intOf]; omega⟩
      · have hm1 : ¬ (m : Int) ≤ 99 := by omega
        have t9 : decide ((m : Int) ≤ 99) = false := by simpa using hm1
        have HPB := Lib.hid (HPA.out.more (K' := 901) (by omega) (fun x => by have h1 := HKB.out x; have h2 : m = 100 := (by omega); omega))
        clear HPA
        go_wp2_with fail
        go_loopw [3, 6] (fun v o wr => ∃ (m : Nat) (q : Int) (out : List Int), m ≤ 100 ∧ Hid (q + m = 99) ∧ -1 ≤ q ∧ q ≤ 99 ∧ o = .int .i64 q ∧ wr.ownsRow w.heap.size 3 1 v out.length (out.map (Value.int .i64)) ∧ Hid (Part (keyT l) l.length (901 + (m : Int)) 0 out) ∧ Below w.heap.size w wr) (fun _ o _ => ((intOf o) + 1).toNat)
        case atStart => exact ⟨0, 99, out0, by omega, by show _ = _; omega, by omega, by omega, rfl, hownA, HPB.out, hbA⟩
        case round =>
          clear hownA HPB hbA
          obtain ⟨m, q, out1, hm, HQM, hq1, hq2, rfl, hownA, HPA, hbA⟩ := hrel
          by_cases hlt : m < 100
          · have hm1 : 0 ≤ q := by have := HQM.out; omega
            have t0 : decide (0 ≤ q) = true := by simpa using hm1
            go_wp2_with fail
            go_loopw [3, 7] (fun v i wr => ∃ (k : Nat) (out : List Int), k ≤ l.length ∧ i = .int .i64 k ∧ wr.ownsRow w.heap.size 3 1 v out.length (out.map (Value.int .i64)) ∧ Hid (Part (keyT l) l.length (901 + (m : Int)) k out) ∧ Below w.heap.size w wr) (fun _ i _ => l.length - (intOf i).toNat)
            case atStart => exact ⟨0, out1, by omega, rfl, hownA, HPA.out, hbA⟩
            case round =>
              clear hownA HPA hbA
              obtain ⟨k, out, hk, rfl, hown, HP, hbw⟩ := hrel
              have hol : out.length ≤ 6 := by have := HP.out.length_le HOR.out; omega
              by_cases hlk : k < l.length
              · obtain ⟨b, off, x, rfl, hbx, Hx, hx0, hx1⟩ := (ha.below hbw).at_ (k := k) hlk
                have q0 : (0 : Int) ≤ (k : Int) := by omega
                have q1 : (k : Int) < (l.length : Int) := by omega
                by_cases hx : x.off_ < x.back
                · have t1 : decide (x.back ≤ x.off_) = false := by simp; omega
                  have HN2 := Lib.hid (HP.out.miss (by rw [keyT_lo Hx.out hx]; have := taskOf_one HVE.out k; rw [taskOf_at Hx.out] at this; omega))
                  clear hx
                  go_wp2_with fail
                  go_quiet (fail)
                  go_wp2_with fail
                  exact ⟨⟨k + 1, out, by omega, by go_num, row_chg hown ((Chg.refl 0 0 _).drewN _) (Nat.zero_le _), HN2.out, below_drewN hbw _⟩, by simp [intOf]; omega⟩
                · have t1 : decide (x.back ≤ x.off_) = true := by simp; omega
                  have HKY := Lib.hid (keyT_hi Hx.out hx)
                  clear hx
                  by_cases he : x.back = q
                  · have t2 : (x.back == q) = true := beq_iff_eq.2 he
                    have HN2 := Lib.hid (HP.out.hit (by rw [HKY.out]; have := HQM.out; omega) q0 q1)
                    clear he
                    have hbk := hown.lt
                    have hsz := hbw.size
                    have hone : ∀ u ∈ [Value.int .i64 (k : Int)], u.oneCell' = true := fun u hu => by rw [List.mem_singleton.1 hu]; rfl
                    go_wp2_with fail
                    go_quiet (fail)
                    go_wp2_with (at_builtin; refine wpList_append_own _ rfl _ _ 29 rfl w.heap.size 3 i0 (.int .i64 0) 1 8 Try.underlying29 hi hz0 hz1 hz2 rfl (by decide) _ _ _ rfl ((row_chg hown ((Chg.refl 0 0 _).drewN _) (Nat.zero_le _)).alloc _) ⟨_, 0, none⟩ 1 1 [.int .i64 k] rfl rfl (cell_one_new _ _ _) hone ?c3 ?c4 ?c5 ?_)
                    case c3 => unfold maxLen; omega
                    case c4 => omega
                    case c5 => simp; omega
                    intro v' w3 hown3 hgrow _
                    have hbw3 := ((below_drewN hbw _).alloc hsz (.cells #[.int .i64 (k : Int)] 3)).grown hgrow (by simp; omega) (fun b e => (hbk b e).1)
                    have hown4 := row_app hown3
                    clear hown3 hgrow hown
                    go_wp2_with fail
                    exact ⟨⟨k + 1, out ++ [(k : Int)], by omega, by go_num, hown4, HN2.out, hbw3⟩, by simp [intOf]; omega⟩
                  · have t2 : (x.back == q) = false := beq_eq_false_iff_ne.2 he
                    have HN2 := Lib.hid (HP.out.miss (by rw [HKY.out]; have := HQM.out; omega))
                    clear he
                    go_wp2_with fail
                    go_quiet (fail)
                    go_wp2_with fail
                    exact ⟨⟨k + 1, out, by omega, by go_num, row_chg hown ((Chg.refl 0 0 _).drewN _) (Nat.zero_le _), HN2.out, below_drewN hbw _⟩, by simp [intOf]; omega⟩
              · obtain rfl : k = l.length := by omega
                have HN2 := Lib.hid (HP.out.jump (K' := 901 + ((m + 1 : Nat) : Int)) (by omega) (fun x => by omega))
                go_wp2_with fail
                exact ⟨⟨m + 1, q - 1, out, by omega, by have := HQM.out; show _ = _; omega, by omega, by omega, rfl, hown, HN2.out, hbw⟩, by simp [intOf]; omega⟩
          · obtain rfl : m = 100 := by omega
            have hm2 : ¬ 0 ≤ q := by have := HQM.out; omega
            have t0 : decide (0 ≤ q) = false := by simpa using hm2
            have HE : Hid (out1 = N) := (HPA.out.all (fun x => by have := HKB.out x; omega)).one HOR.out
            go_wp2_with fail
            obtain ⟨A1, c1, rfl, hc1⟩ := own_slice hownA
            go_ret
            rw [← HE.out]
            exact ⟨A1, c1, rfl, hc1, Own.of_row hownA (Nat.le_refl _), hbA⟩

theorem cyo_spec (A : Option Addr) (l : List TaskV) (c : Nat) (w : World) (ha : RdTask w A l) (hl : l.length ≤ 1048576) :
    Calls Try.prog 18 #[.slice A l.length c] w (Ans (fun s => s) (cycS l).length (cycS l) 3 w) := (cyo_specC A l c w ha hl).mono fun _ _ h => h.ans
theorem ce_int {f : FuncId} {args : Array Value} {w : World} {v x : Int} (h : Calls Try.prog f args w fun e w' => e = .returned (.int .i64 v) ∧ Below w.heap.size w w') (e : v = x) :
    Calls Try.prog f args w fun e w' => e = .returned (.int .i64 x) ∧ Below w.heap.size w w' := by rw [← e]; exact h
set_option maxHeartbeats 800000 in
theorem cl_impl (A : Option Addr) (l : List TaskV) (c : Nat) (w : World) (ha : RdTask w A l) (hl : l.length ≤ 1048576) :
    Calls Try.prog 24 #[.slice A l.length c] w fun e w' => e = .returned (.int .i64 (cycE l (cycS l))) ∧ Below w.heap.size w w' := by
  obtain ⟨L, HL⟩ : ∃ L, Hid (cycS l = L) := ⟨_, rfl⟩
  obtain ⟨N, HN⟩ : ∃ N, Hid (cycE l L = N) := ⟨_, rfl⟩
  rw [HL.out, HN.out]
  have hl6 : L.length ≤ 6 := by have := cycS_short l; rw [HL.out] at this; exact this
  cases hv : listV l with
  | false =>
    have HQ := Lib.hid (lvb (lv_impl A l c _ ha hl) hv)
    have HO := Lib.hid (HN.out.symm.trans (cycE_no1 hv))
    clear hv
    go_enter Try.func24, Try.ntmps24
    go_wp2_with fail
    refine HQ.out.mono ?_
    rintro e w1 ⟨rfl, b1⟩
    go_wp2_with fail
    go_ret
    exact ⟨ret_int HO.out.symm, b1⟩
  | true =>
    have HQ := Lib.hid (lvb (lv_impl A l c _ ha hl) hv)
    clear hv
    go_enter Try.func24, Try.ntmps24
    go_wp2_with fail
    refine HQ.out.mono ?_
    rintro e w1 ⟨rfl, b1⟩
    go_wp2_with fail
    refine (ansC_of (cyo_implC A l c w1 (ha.below b1) hl) HL.out).mono ?_
    rintro e w2 ⟨A2, c2, rfl, hc2, o2, b2⟩
    have bw := b1.trans (b2.mono b1.size)
    have HCE := Lib.hid (ce_int (ce_impl A A2 l L c c2 w2 (ha.below bw) o2.rd hl (by omega) hc2) HN.out)
    clear o2 b2 b1
    go_wp2_with fail
    refine HCE.out.mono ?_
    rintro e w3 ⟨rfl, b3⟩
    have HB := Lib.hid (bw.trans (b3.mono bw.size))
    go_wp2_with fail
    go_ret
    exact ⟨rfl, HB.out⟩

set_option maxHeartbeats 800000 in
theorem cl_spec (A : Option Addr) (l : List TaskV) (c : Nat) (w : World) (ha : RdTask w A l) (hl : l.length ≤ 1048576) :
    Calls Try.prog 23 #[.slice A l.length c] w fun e w' => e = .returned (.int .i64 (cycE l (cycS l))) ∧ Below w.heap.size w w' := by
  obtain ⟨L, HL⟩ : ∃ L, Hid (cycS l = L) := ⟨_, rfl⟩
  obtain ⟨N, HN⟩ : ∃ N, Hid (cycE l L = N) := ⟨_, rfl⟩
  rw [HL.out, HN.out]
  have hl6 : L.length ≤ 6 := by have := cycS_short l; rw [HL.out] at this; exact this
  cases hv : listV l with
  | false =>
    have HQ := Lib.hid (bool_is (lv_spec A l c _ ha hl) hv)
    have HO := Lib.hid (HN.out.symm.trans (cycE_no1 hv))
    clear hv
    go_enter Try.func23, Try.ntmps23
    go_wp2_with fail
    refine HQ.out.mono ?_
    rintro e w' ⟨rfl, rfl⟩
    go_wp2_with fail
    go_ret
    exact ⟨ret_int HO.out.symm, Below.refl _ _⟩
  | true =>
    have HQ := Lib.hid (bool_is (lv_spec A l c _ ha hl) hv)
    clear hv
    go_enter Try.func23, Try.ntmps23
    go_wp2_with fail
    refine HQ.out.mono ?_
    rintro e w' ⟨rfl, rfl⟩
    go_wp2_with fail
    refine (ansC_of (cyo_specC A l c w ha hl) HL.out).mono ?_
    rintro e w2 ⟨A2, c2, rfl, hc2, o2, b2⟩
    have HCE := Lib.hid (ce_int (ce_spec A A2 l L c c2 w2 (ha.below b2) o2.rd hl (by omega) hc2) HN.out)
    clear o2
    go_wp2_with fail
    refine HCE.out.mono ?_
    rintro e w3 ⟨rfl, b3⟩
    have HB := Lib.hid (b2.trans (b3.mono b2.size))
    go_wp2_with fail
    go_ret
    exact ⟨rfl, HB.out⟩
end Go.Proofs.Ytkkpegmokejfkaa
