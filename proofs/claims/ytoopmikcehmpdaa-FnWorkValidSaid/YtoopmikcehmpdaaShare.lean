/- What the program's and the reference's functions on shares compute: the walks. -/
import Derived.Test.YtoopmikcehmpdaaShareLaw
import Derived.Test.YtoopmikcehmpdaaCom
namespace Go.Proofs.Ytoopmikcehmpdaa
open Go.RowKit
set_option linter.unusedVariables false
set_option linter.unusedSimpArgs false

set_option maxHeartbeats 400000 in
theorem wv_impl (A : Option Addr) (l : List Int) (c : Nat) (w : World) (ha : Rd w A l) (hl : l.length ≤ 1048576) :
    Calls Try.prog 13 #[.slice A l.length c] w fun e w' => e = .returned (.bool (workV l)) ∧ w = w' := by
  go_enter Try.func13, Try.ntmps13
  go_wp2_with fail
  go_loop [7] (fun i => ∃ k : Nat, k ≤ l.length ∧ i = .int .i64 k ∧ Hid (∀ y ∈ l.take k, 0 ≤ y ∧ y ≤ 99)) (fun i => l.length - (intOf i).toNat)
  case atStart => exact ⟨0, by omega, rfl, by intro y hy; simp at hy⟩
  case round =>
    obtain ⟨k, hk, rfl, Hk⟩ := hrel
    by_cases hlt : k < l.length
    · obtain ⟨b, off, x, rfl, hbx, Hx, hcx⟩ := ha.at_ hlt
      by_cases hx : 0 ≤ x ∧ x ≤ 99
      · go_wp2_with (go_at_call 31; refine (within_t _ _ _ _ hx).mono ?_; rintro e w' ⟨rfl, rfl⟩)
        exact ⟨⟨k + 1, by omega, by go_num, all_next Hk.out Hx.out hx⟩, by simp [intOf]; omega⟩
      · go_wp2_with (go_at_call 31; refine (within_f _ _ _ _ hx).mono ?_; rintro e w' ⟨rfl, rfl⟩)
        go_ret
        exact ⟨ret_bool (workV_no (mem_at Hx.out) hx).symm, rfl⟩
    · go_wp2_with fail
      go_ret
      exact ⟨ret_bool (by rw [workV_yes (all_end Hk.out (by omega)), Bool.eq_iff_iff]; simp; omega), rfl⟩

set_option maxHeartbeats 400000 in
theorem wv_spec (A : Option Addr) (l : List Int) (c : Nat) (w : World) (ha : Rd w A l) (hl : l.length ≤ 1048576) :
    Calls Try.prog 11 #[.slice A l.length c] w fun e w' => e = .returned (.bool (workV l)) ∧ w = w' := by
  go_enter Try.func11, Try.ntmps11
  go_wp2_with fail
  go_loop [3] (fun i => ∃ k : Nat, k ≤ l.length ∧ i = .int .i64 k ∧ Hid (∀ y ∈ l.take k, 0 ≤ y ∧ y ≤ 99)) (fun i => l.length - (intOf i).toNat)
  case atStart => exact ⟨0, by omega, rfl, by intro y hy; simp at hy⟩
  case round =>
    obtain ⟨k, hk, rfl, Hk⟩ := hrel
    by_cases hlt : k < l.length
    · obtain ⟨b, off, x, rfl, hbx, Hx, hcx⟩ := ha.at_ hlt
      by_cases hx : 0 ≤ x ∧ x ≤ 99
      · go_wp2_with (go_at_call 30; refine (l1In_t _ _ _ _ hx).mono ?_; rintro e w' ⟨rfl, rfl⟩)
        exact ⟨⟨k + 1, by omega, by go_num, all_next Hk.out Hx.out hx⟩, by simp [intOf]; omega⟩
      · go_wp2_with (go_at_call 30; refine (l1In_f _ _ _ _ hx).mono ?_; rintro e w' ⟨rfl, rfl⟩)
        go_ret
        exact ⟨ret_bool (workV_no (mem_at Hx.out) hx).symm, rfl⟩
    · go_wp2_with fail
      go_ret
      exact ⟨ret_bool (by rw [workV_yes (all_end Hk.out (by omega)), Bool.eq_iff_iff]; simp; omega), rfl⟩


theorem wv_is {A : Option Addr} {l : List Int} {c : Nat} {w : World} {r : Bool} (ha : Rd w A l) (hl : l.length ≤ 1048576) (e : workV l = r) :
    Calls Try.prog 13 #[.slice A l.length c] w fun e w' => e = .returned (.bool r) ∧ w = w' := (wv_impl A l c w ha hl).mono fun _ _ ⟨he, hw⟩ => ⟨he.trans (ret_bool e), hw⟩
theorem ws_is {A : Option Addr} {l : List Int} {c : Nat} {w : World} {r : Bool} (ha : Rd w A l) (hl : l.length ≤ 1048576) (e : workV l = r) :
    Calls Try.prog 11 #[.slice A l.length c] w fun e w' => e = .returned (.bool r) ∧ w = w' := (wv_spec A l c w ha hl).mono fun _ _ ⟨he, hw⟩ => ⟨he.trans (ret_bool e), hw⟩

set_option maxHeartbeats 400000 in
theorem sumOf_any (A : Option Addr) (l : List Int) (c : Nat) (w : World) (ha : Rd w A l) (hl : l.length ≤ 8) (hv : ∀ x ∈ l, 0 ≤ x ∧ x ≤ 99) :
    Calls Try.prog 32 #[.slice A l.length c] w fun e w' => e = .returned (.int .i64 (sumL l)) ∧ w = w' := by
  have HV := Lib.hid hv
  clear hv
  go_enter Try.func32, Try.ntmps32
  go_wp2_with fail
  go_loop [3, 8] (fun t i => ∃ k : Nat, k ≤ l.length ∧ i = .int .i64 k ∧ t = .int .i64 (sumL (l.take k))) (fun _ i => l.length - (intOf i).toNat)
  case atStart => exact ⟨0, by omega, rfl, rfl⟩
  case round =>
    obtain ⟨k, hk, rfl, rfl⟩ := hrel
    have hb := sumL_bd (l := l.take k) (fun x hx => HV.out x (List.mem_of_mem_take hx))
    have hb2 : (l.take k).length ≤ 8 := by simp; omega
    by_cases hlt : k < l.length
    · obtain ⟨b, off, x, rfl, hbx, Hx, hcx⟩ := ha.at_ hlt
      have hx := HV.out x (mem_at Hx.out)
      have HN := Lib.hid (sumL_next Hx.out)
      go_wp2_with fail
      exact ⟨⟨k + 1, by omega, by go_num, by rw [HN.out]⟩, by simp [intOf]; omega⟩
    · go_wp2_with fail
      go_ret
      exact ⟨ret_int (by rw [List.take_of_length_le (by omega)]), rfl⟩

theorem Rd.map_add {w : World} {A : Option Addr} {l : List Int} (h : Rd w A l) (m n : Nat) : Rd w (A.map (fun x => x.add m)) ((l.drop m).take n) := by
  intro k x hx
  have hx2 : (l.drop m)[k]? = some x := by
    rw [List.getElem?_take] at hx
    split at hx
    · exact hx
    · cases hx
  rw [List.getElem?_drop] at hx2
  obtain ⟨b, off, rfl, hb, hc⟩ := h _ x hx2
  exact ⟨b, off + m, by simp [addr_add], hb, by rw [Nat.add_assoc]; exact hc⟩
theorem Rd.none_left {w : World} {A : Option Addr} {l : List Int} {m n : Nat} (h : l.length ≤ m) : Rd w A ((l.drop m).take n) := by
  rw [List.drop_eq_nil_of_le h, List.take_nil]
  exact Rd.nil_
theorem seg_at {l : List Int} {A : Option Addr} {m x cc : Nat} {W : World} (hx : x ≤ l.length) (h8 : l.length ≤ 8) (hv : ∀ y ∈ l, 0 ≤ y ∧ y ≤ 99) (h : Rd W A ((l.drop m).take (x - m))) :
    Calls Try.prog 32 #[.slice A (x - m) cc] W fun e w' => e = .returned (.int .i64 (seg l m x)) ∧ W = w' := by
  have hl : ((l.drop m).take (x - m)).length = x - m := by simp; omega
  have h1 := sumOf_any A ((l.drop m).take (x - m)) cc W h (by omega) (fun y hy => hv y (List.mem_of_mem_drop (List.mem_of_mem_take hy)))
  rw [hl] at h1
  exact h1
theorem sumsTo_row (l q : List Int) (k : Nat) (y : Int) (h : seg l (bnd q l.length k).toNat (bnd q l.length (k + 1)).toNat = y) {w : World} {base : Nat} {v : Value} (hw : w.ownsRow base 3 1 v (k + 1) ((sumsTo l q k).map (Value.int .i64) ++ [.int .i64 y])) :
    w.ownsRow base 3 1 v (k + 1) ((sumsTo l q (k + 1)).map (Value.int .i64)) := by
  rw [sumsTo_next, h, List.map_append]; exact hw

/-- As Ans; and a list of nothing is nil. -/
def AnsN (fl : List Int) (w : World) (e : Ending) (w' : World) : Prop :=
  ∃ A c, e = .returned (.slice A fl.length c) ∧ (fl = [] → A = none) ∧ Own 3 w' w.heap.size w'.heap.size A fl ∧ Below w.heap.size w w'
set_option maxHeartbeats 1600000 in
theorem ss_implN (A B : Option Addr) (l q : List Int) (c d : Nat) (w : World) (ha : Rd w A l) (hb : Rd w B q) (hl : l.length ≤ 1048576) (hm : q.length ≤ 1048576) (hlc : l.length ≤ c) :
    Calls Try.prog 16 #[.slice A l.length c, .slice B q.length d] w (AnsN (shareS l q) w) := by
  obtain ⟨i0, hi, hz0, hz1, hz2⟩ := info_parts info_int
  have nil_ans : ∀ W, Below w.heap.size w W → sharesOk l q = false → AnsN (shareS l q) w (.returned (.slice none 0 0)) W := fun W hW h => by
    have e : shareS l q = [] := by unfold shareS; rw [if_neg (by rw [h]; decide)]
    rw [e]
    exact ⟨none, 0, rfl, fun _ => rfl, Own.nil_, hW⟩
  have HNIL := Lib.hid nil_ans
  clear nil_ans
  cases hv : workV l
  · have HQ := Lib.hid (wv_is (c := c) ha hl hv)
    have HO := Lib.hid (p := sharesOk l q = false) (by unfold sharesOk; rw [hv]; rfl)
    clear hv
    go_enter Try.func16, Try.ntmps16
    go_wp2_with fail
    refine HQ.out.mono ?_
    rintro e w' ⟨rfl, rfl⟩
    go_wp2_with fail
    go_ret
    exact HNIL.out _ (Below.refl _ _) HO.out
  · have HQ := Lib.hid (wv_is (c := c) ha hl hv)
    obtain ⟨hel, h8⟩ := workV_spec hv
    have HEL := Lib.hid hel
    have HV := Lib.hid hv
    clear hv hel
    by_cases hq : q.length ≤ 3
    · go_enter Try.func16, Try.ntmps16
      go_wp2_with fail
      refine HQ.out.mono ?_
      rintro e w' ⟨rfl, rfl⟩
      go_wp2_with fail
      go_loopw [5, 6, 19] (fun v t i wr => ∃ (k m : Nat), k ≤ q.length ∧ i = .int .i64 k ∧ t = .int .i64 m ∧ m ≤ l.length ∧ Hid (bnd q l.length k = m) ∧ wr.ownsRow w.heap.size 3 1 v k ((sumsTo l q k).map (Value.int .i64)) ∧ Hid (∀ i, i < k → okCut q l.length i) ∧ Below w.heap.size w wr) (fun _ _ i _ => q.length - (intOf i).toNat)
      case atStart => exact ⟨0, 0, by omega, rfl, rfl, by omega, rfl, World.ownsRow_nil _ _ _ _, fun i hi => absurd hi (by omega), Below.refl _ _⟩
      case round =>
        obtain ⟨k, m, hk, rfl, rfl, hml, HM, hown, HK, hbw⟩ := hrel
        have hbk := hown.lt
        have ha' := ha.below hbw
        by_cases hlt : k < q.length
        · obtain ⟨b, off, x, rfl, hbx, Hx, hcx⟩ := (hb.below hbw).at_ hlt
          have HB := Lib.hid (bnd_at l.length Hx.out)
          by_cases hx : (m : Int) ≤ x ∧ x ≤ (l.length : Int)
          · obtain ⟨x, rfl⟩ := Int.eq_ofNat_of_zero_le (by omega : 0 ≤ x)
            have hsb := seg_bd HEL.out m x
            have HSQ : Hid (seg l (bnd q l.length k).toNat (bnd q l.length (k + 1)).toNat = seg l m x) := by show _ = _; rw [HM.out, HB.out]; simp
            have HOK : Hid (okCut q l.length k) := by show okCut _ _ _; unfold okCut; rw [HM.out, HB.out]; exact hx
            have HSA := Lib.hid (fun (A' : Option Addr) (cc : Nat) (h : Rd wr A' ((l.drop m).take (x - m))) => seg_at (m := m) (x := x) (cc := cc) (by omega) h8 HEL.out h)
            obtain ⟨A2, hA2, HRd⟩ : ∃ A2, (if c = m then A else Option.map (fun x => x.add m) A) = A2 ∧ Hid (Rd wr A2 ((l.drop m).take (x - m))) := by
              by_cases hcm : c = m
              · exact ⟨_, if_pos hcm, Rd.none_left (by omega)⟩
              · exact ⟨_, if_neg hcm, ha'.map_add _ _⟩
            go_wp2_with (first | (go_at_call 31; ((with_reducible refine (within_t _ _ _ _ hx).mono ?_); rintro e w' ⟨rfl, rfl⟩)) | (go_at_call 32; refine (HSA.out _ _ HRd.out).mono ?_; rintro e w' ⟨rfl, rfl⟩) | (at_builtin; refine wpList_append_own _ rfl _ _ 22 rfl w.heap.size 3 i0 (.int .i64 0) 1 8 Try.underlying22 hi hz0 hz1 hz2 rfl (by decide) _ _ _ rfl (hown.alloc _) ⟨wr.heap.size, 0, none⟩ 1 1 [.int .i64 (seg l m x)] rfl rfl ?c1 ?c2 ?c3 ?c4 ?c5 ?_))
            case c1 => exact (cell_one_new _ _ _)
            case c2 => intro u hu; simp at hu; subst hu; rfl
            case c3 => unfold maxLen; omega
            case c4 => omega
            case c5 => have := hbw.size; simp; omega
            intro v' w3 hown3 hgrow _
            have hrow := sumsTo_row l q k _ HSQ.out hown3
            have hbw3 := (hbw.alloc hbw.size (.cells #[.int .i64 (seg l m x)] 3)).grown hgrow (by have := hbw.size; simp; omega) (fun b e => (hbk b e).1)
            clear hown3 hgrow
            go_wp2_with fail
            have HK2 : Hid (∀ i, i < k + 1 → okCut q l.length i) := fun i hi => by
              by_cases e : i = k
              · rw [e]; exact HOK.out
              · exact HK.out i (by omega)
            exact ⟨⟨k + 1, x, by omega, by go_num, rfl, by omega, HB.out, hrow, HK2, hbw3⟩, by simp [intOf]; omega⟩
          · have HOK : Hid (¬ okCut q l.length k) := by show ¬ okCut _ _ _; unfold okCut; rw [HM.out, HB.out]; exact hx
            go_wp2_with (go_at_call 31; ((with_reducible refine (within_f _ _ _ _ hx).mono ?_); rintro e w' ⟨rfl, rfl⟩))
            go_ret
            exact HNIL.out _ hbw (by unfold sharesOk; rw [cutsV_no (k := k) (by omega) HOK.out, Bool.and_false])
        · have hsb := seg_bd HEL.out m l.length
          obtain rfl : k = q.length := by omega
          have HSQ : Hid (seg l (bnd q l.length q.length).toNat (bnd q l.length (q.length + 1)).toNat = seg l m l.length) := by show _ = _; rw [HM.out, bnd_end]; simp
          have HOK : Hid (sharesOk l q = true) := by
            show _ = _
            unfold sharesOk
            rw [HV.out, decide_eq_true hq, cutsV_yes (fun i hi => by
              by_cases e : i = q.length
              · rw [e]; unfold okCut; rw [bnd_end, HM.out]; omega
              · exact HK.out i (by omega))]
            rfl
          have HSA := Lib.hid (fun (A' : Option Addr) (cc : Nat) (h : Rd wr A' ((l.drop m).take (l.length - m))) => seg_at (m := m) (x := l.length) (cc := cc) (Nat.le_refl _) h8 HEL.out h)
          obtain ⟨A2, hA2, HRd⟩ : ∃ A2, (if c = m then A else Option.map (fun x => x.add m) A) = A2 ∧ Hid (Rd wr A2 ((l.drop m).take (l.length - m))) := by
            by_cases hcm : c = m
            · exact ⟨_, if_pos hcm, Rd.none_left (by omega)⟩
            · exact ⟨_, if_neg hcm, ha'.map_add _ _⟩
          go_wp2_with (first | (go_at_call 32; refine (HSA.out _ _ HRd.out).mono ?_; rintro e w' ⟨rfl, rfl⟩) | (at_builtin; refine wpList_append_own _ rfl _ _ 22 rfl w.heap.size 3 i0 (.int .i64 0) 1 8 Try.underlying22 hi hz0 hz1 hz2 rfl (by decide) _ _ _ rfl (hown.alloc _) ⟨wr.heap.size, 0, none⟩ 1 1 [.int .i64 (seg l m l.length)] rfl rfl ?c1 ?c2 ?c3 ?c4 ?c5 ?_))
          case c1 => exact (cell_one_new _ _ _)
          case c2 => intro u hu; simp at hu; subst hu; rfl
          case c3 => unfold maxLen; omega
          case c4 => omega
          case c5 => have := hbw.size; simp; omega
          intro v' w3 hown3 hgrow _
          have hrow := sumsTo_row l q q.length _ HSQ.out hown3
          have HB3 := Lib.hid ((hbw.alloc hbw.size (.cells #[.int .i64 (seg l m l.length)] 3)).grown hgrow (by have := hbw.size; simp; omega) (fun b e => (hbk b e).1))
          clear hown3 hgrow
          obtain ⟨A3, c3, rfl, hc3⟩ := own_slice hrow
          have HROW := Lib.hid hrow
          clear hrow
          go_wp2_with fail
          go_ret
          have e : shareS l q = sumsTo l q (q.length + 1) := by unfold shareS; rw [if_pos HOK.out]
          rw [e]
          exact ⟨A3, c3, by rw [sumsTo_length]; rfl, fun h => absurd (congrArg List.length h) (by rw [sumsTo_length]; simp), Own.of_row HROW.out (Nat.le_refl _), HB3.out⟩
    · have HO := Lib.hid (p := sharesOk l q = false) (by unfold sharesOk; rw [decide_eq_false hq, Bool.and_false, Bool.false_and])
      go_enter Try.func16, Try.ntmps16
      go_wp2_with fail
      refine HQ.out.mono ?_
      rintro e w' ⟨rfl, rfl⟩
      go_wp2_with fail
      go_ret
      exact HNIL.out _ (Below.refl _ _) HO.out

theorem ss_impl (A B : Option Addr) (l q : List Int) (c d : Nat) (w : World) (ha : Rd w A l) (hb : Rd w B q) (hl : l.length ≤ 1048576) (hm : q.length ≤ 1048576) (hlc : l.length ≤ c) :
    Calls Try.prog 16 #[.slice A l.length c, .slice B q.length d] w (Ans (fun s => s) (shareS l q).length (shareS l q) 3 w) :=
  (ss_implN A B l q c d w ha hb hl hm hlc).mono fun _ _ ⟨A', c', h1, _, h3, h4⟩ => ⟨A', c', h1, h3, h4⟩

set_option maxHeartbeats 1600000 in
theorem ss_spec (A B : Option Addr) (l q : List Int) (c d : Nat) (w : World) (ha : Rd w A l) (hb : Rd w B q) (hl : l.length ≤ 1048576) (hm : q.length ≤ 1048576) :
    Calls Try.prog 15 #[.slice A l.length c, .slice B q.length d] w (Ans (fun s => s) (shareS l q).length (shareS l q) 3 w) := by
  obtain ⟨i0, hi, hz0, hz1, hz2⟩ := info_parts info_int
  have ha0 := ha.alloc (.cells #[] 3)
  have b0 : Below w.heap.size w (w.alloc (.cells #[] 3)) := (Below.refl _ _).alloc (Nat.le_refl _) _
  have nil_ans : ∀ W g, Below w.heap.size w W → sharesOk l q = false → Ans (fun s => s) (shareS l q).length (shareS l q) 3 w (.returned (.slice (some g) 0 0)) W := fun W g hW h => by
    have e : shareS l q = [] := by unfold shareS; rw [if_neg (by rw [h]; decide)]
    rw [e]
    exact ⟨_, 0, rfl, Own.nil_, hW⟩
  have HNIL := Lib.hid nil_ans
  clear nil_ans
  cases hv : workV l
  · have HQ := Lib.hid (ws_is (c := c) ha0 hl hv)
    have HO := Lib.hid (p := sharesOk l q = false) (by unfold sharesOk; rw [hv]; rfl)
    clear hv
    go_enter Try.func15, Try.ntmps15
    go_wp2_with fail
    refine HQ.out.mono ?_
    rintro e w' ⟨rfl, rfl⟩
    go_wp2_with fail
    go_ret
    exact HNIL.out _ _ b0 HO.out
  · have HQ := Lib.hid (ws_is (c := c) ha0 hl hv)
    obtain ⟨hel, h8⟩ := workV_spec hv
    have HEL := Lib.hid hel
    have HV := Lib.hid hv
    clear hv hel
    by_cases hq : q.length ≤ 3
    · go_enter Try.func15, Try.ntmps15
      go_wp2_with fail
      refine HQ.out.mono ?_
      rintro e w' ⟨rfl, rfl⟩
      go_wp2_with fail
      go_loopw [5, 6, 7] (fun v t i wr => ∃ (k m : Nat), k ≤ q.length + 1 ∧ i = .int .i64 k ∧ t = .int .i64 m ∧ m ≤ l.length ∧ Hid (bnd q l.length k = m) ∧ wr.ownsRow w.heap.size 3 1 v k ((sumsTo l q k).map (Value.int .i64)) ∧ Hid (∀ i, i < k → okCut q l.length i) ∧ Below w.heap.size w wr) (fun _ _ i _ => q.length + 1 - (intOf i).toNat)
      case atStart => exact ⟨0, 0, by omega, rfl, rfl, by omega, rfl, World.ownsRow_lit w #[] 0 (Nat.le_refl _) (by unfold maxLen; omega) rfl, fun i hi => absurd hi (by omega), b0⟩
      case round =>
        obtain ⟨k, m, hk, rfl, rfl, hml, HM, hown, HK, hbw⟩ := hrel
        have hbk := hown.lt
        have ha' := ha.below hbw
        by_cases hlt : k < q.length + 1
        · obtain ⟨x, HB, hgo⟩ : ∃ x : Int, Hid (bnd q l.length (k + 1) = x) ∧ ((k < q.length ∧ ∃ b off, B = some ⟨b, off, none⟩ ∧ wr.cell? ⟨b, off + k, none⟩ = some (.int .i64 x)) ∨ (¬ k < q.length ∧ x = (l.length : Int))) := by
            by_cases h : k < q.length
            · obtain ⟨b, off, x, e, hbx, Hx, hcx⟩ := (hb.below hbw).at_ h
              exact ⟨x, bnd_at l.length Hx.out, .inl ⟨h, b, off, e, hcx⟩⟩
            · obtain rfl : k = q.length := by omega
              exact ⟨_, bnd_end q l.length, .inr ⟨h, rfl⟩⟩
          by_cases hx : (m : Int) ≤ x ∧ x ≤ (l.length : Int)
          · obtain ⟨x, rfl⟩ := Int.eq_ofNat_of_zero_le (by omega : 0 ≤ x)
            have HSQ : Hid (seg l (bnd q l.length k).toNat (bnd q l.length (k + 1)).toNat = seg l m x) := by show _ = _; rw [HM.out, HB.out]; simp
            have HOK : Hid (okCut q l.length k) := by show okCut _ _ _; unfold okCut; rw [HM.out, HB.out]; exact hx
            have x1 := hx.1
            have x2 := hx.2
            rcases hgo with ⟨hkq, b, off, rfl, hcx⟩ | ⟨hkq, hxl⟩
            · skip
              go_wp2_with (go_at_call 30; ((with_reducible refine (l1In_t _ _ _ _ hx).mono ?_); rintro e w' ⟨rfl, rfl⟩))
              go_loop [9, 10] (fun t i => ∃ j : Nat, m ≤ j ∧ j ≤ x ∧ i = .int .i64 j ∧ t = .int .i64 (seg l m j)) (fun _ i => x - (intOf i).toNat)
              case atStart => exact ⟨m, by omega, by omega, rfl, by simp [seg, sumL]⟩
              case round =>
                obtain ⟨j, hj1, hj2, rfl, rfl⟩ := hrel
                have hsb := seg_bd HEL.out m j
                by_cases hlt2 : j < x
                · obtain ⟨b2, off2, z, rfl, _, Hz, hcz⟩ := ha'.at_ (k := j) (by omega)
                  have hzb := HEL.out z (mem_at Hz.out)
                  have HN := Lib.hid (seg_next (a := m) hj1 Hz.out)
                  have q0 : (0 : Int) ≤ (j : Int) := by omega
                  have q1 : (j : Int) < (l.length : Int) := by omega
                  go_wp2_with fail
                  exact ⟨⟨j + 1, by omega, by omega, by go_num, by rw [HN.out]⟩, by simp [intOf]; omega⟩
                · have HJ : Hid (seg l m j = seg l m x) := by show _ = _; rw [show j = x from by omega]
                  obtain ⟨y, HY⟩ : ∃ y, Hid (seg l m j = y) := ⟨_, rfl⟩
                  rw [HY.out]
                  have hone : ∀ u ∈ [Value.int .i64 y], u.oneCell' = true := fun u hu => by rw [List.mem_singleton.1 hu]; rfl
                  have m3 : k + 1 ≤ maxLen := by unfold maxLen; omega
                  have m4 : (k + 1) * 8 ≤ 140737488355328 := by omega
                  have m5 : w.heap.size ≤ (wr.alloc (.cells #[.int .i64 y] 3)).heap.size := by have := hbw.size; simp; omega
                  go_wp2_with (at_builtin; refine wpList_append_own _ rfl _ _ 22 rfl w.heap.size 3 i0 (.int .i64 0) 1 8 Try.underlying22 hi hz0 hz1 hz2 rfl (by decide) _ _ _ rfl (hown.alloc _) ⟨wr.heap.size, 0, none⟩ 1 1 [.int .i64 y] rfl rfl (cell_one_new _ _ _) hone m3 m4 m5 ?_)
                  intro v' w3 hown3 hgrow _
                  have hrow := sumsTo_row l q k _ (HSQ.out.trans (HJ.out.symm.trans HY.out)) hown3
                  have hbw3 := (hbw.alloc hbw.size (.cells #[.int .i64 y] 3)).grown hgrow (by have := hbw.size; simp; omega) (fun b e => (hbk b e).1)
                  clear hown3 hgrow
                  go_wp2_with fail
                  have HK2 : Hid (∀ i, i < k + 1 → okCut q l.length i) := fun i hi => by
                    by_cases e : i = k
                    · rw [e]; exact HOK.out
                    · exact HK.out i (by omega)
                  exact ⟨⟨k + 1, x, by omega, by go_num, rfl, by omega, HB.out, hrow, HK2, hbw3⟩, by simp [intOf]; omega⟩
            · obtain rfl : x = l.length := by omega
              go_wp2_with (go_at_call 30; ((with_reducible refine (l1In_t _ _ _ _ hx).mono ?_); rintro e w' ⟨rfl, rfl⟩))
              go_loop [9, 10] (fun t i => ∃ j : Nat, m ≤ j ∧ j ≤ l.length ∧ i = .int .i64 j ∧ t = .int .i64 (seg l m j)) (fun _ i => l.length - (intOf i).toNat)
              case atStart => exact ⟨m, by omega, by omega, rfl, by simp [seg, sumL]⟩
              case round =>
                obtain ⟨j, hj1, hj2, rfl, rfl⟩ := hrel
                have hsb := seg_bd HEL.out m j
                by_cases hlt2 : j < l.length
                · obtain ⟨b2, off2, z, rfl, _, Hz, hcz⟩ := ha'.at_ (k := j) (by omega)
                  have hzb := HEL.out z (mem_at Hz.out)
                  have HN := Lib.hid (seg_next (a := m) hj1 Hz.out)
                  have q0 : (0 : Int) ≤ (j : Int) := by omega
                  have q1 : (j : Int) < (l.length : Int) := by omega
                  go_wp2_with fail
                  exact ⟨⟨j + 1, by omega, by omega, by go_num, by rw [HN.out]⟩, by simp [intOf]; omega⟩
                · have HJ : Hid (seg l m j = seg l m l.length) := by show _ = _; rw [show j = l.length from by omega]
                  obtain ⟨y, HY⟩ : ∃ y, Hid (seg l m j = y) := ⟨_, rfl⟩
                  rw [HY.out]
                  have hone : ∀ u ∈ [Value.int .i64 y], u.oneCell' = true := fun u hu => by rw [List.mem_singleton.1 hu]; rfl
                  have m3 : k + 1 ≤ maxLen := by unfold maxLen; omega
                  have m4 : (k + 1) * 8 ≤ 140737488355328 := by omega
                  have m5 : w.heap.size ≤ (wr.alloc (.cells #[.int .i64 y] 3)).heap.size := by have := hbw.size; simp; omega
                  go_wp2_with (at_builtin; refine wpList_append_own _ rfl _ _ 22 rfl w.heap.size 3 i0 (.int .i64 0) 1 8 Try.underlying22 hi hz0 hz1 hz2 rfl (by decide) _ _ _ rfl (hown.alloc _) ⟨wr.heap.size, 0, none⟩ 1 1 [.int .i64 y] rfl rfl (cell_one_new _ _ _) hone m3 m4 m5 ?_)
                  intro v' w3 hown3 hgrow _
                  have hrow := sumsTo_row l q k _ (HSQ.out.trans (HJ.out.symm.trans HY.out)) hown3
                  have hbw3 := (hbw.alloc hbw.size (.cells #[.int .i64 y] 3)).grown hgrow (by have := hbw.size; simp; omega) (fun b e => (hbk b e).1)
                  clear hown3 hgrow
                  go_wp2_with fail
                  have HK2 : Hid (∀ i, i < k + 1 → okCut q l.length i) := fun i hi => by
                    by_cases e : i = k
                    · rw [e]; exact HOK.out
                    · exact HK.out i (by omega)
                  exact ⟨⟨k + 1, l.length, by omega, by go_num, rfl, by omega, HB.out, hrow, HK2, hbw3⟩, by simp [intOf]; omega⟩
          · have HOK : Hid (¬ okCut q l.length k) := by show ¬ okCut _ _ _; unfold okCut; rw [HM.out, HB.out]; exact hx
            have HO := Lib.hid (p := sharesOk l q = false) (by unfold sharesOk; rw [cutsV_no (k := k) hlt HOK.out, Bool.and_false])
            rcases hgo with ⟨hkq, b, off, rfl, hcx⟩ | ⟨hkq, hxl⟩
            · go_wp2_with (go_at_call 30; ((with_reducible refine (l1In_f _ _ _ _ hx).mono ?_); rintro e w' ⟨rfl, rfl⟩))
              go_ret
              exact HNIL.out _ _ (hbw.alloc hbw.size _) HO.out
            · exact absurd ⟨by omega, by omega⟩ hx
        · obtain rfl : k = q.length + 1 := by omega
          have HOK : Hid (sharesOk l q = true) := by
            show _ = _
            unfold sharesOk
            rw [HV.out, decide_eq_true hq, cutsV_yes (fun i hi => HK.out i hi)]
            rfl
          obtain ⟨A3, c3, rfl, hc3⟩ := own_slice hown
          have HROW := Lib.hid hown
          clear hown
          go_wp2_with fail
          go_ret
          have e : shareS l q = sumsTo l q (q.length + 1) := by unfold shareS; rw [if_pos HOK.out]
          rw [e, sumsTo_length]
          exact ⟨A3, c3, rfl, Own.of_row HROW.out (Nat.le_refl _), hbw⟩
    · have HO := Lib.hid (p := sharesOk l q = false) (by unfold sharesOk; rw [decide_eq_false hq, Bool.and_false, Bool.false_and])
      go_enter Try.func15, Try.ntmps15
      go_wp2_with fail
      refine HQ.out.mono ?_
      rintro e w' ⟨rfl, rfl⟩
      go_wp2_with fail
      go_ret
      exact HNIL.out _ _ b0 HO.out

def maxL (l : List Int) : Int := l.foldl max (-1)
theorem maxL_next {l : List Int} {k : Nat} {x : Int} (h : l[k]? = some x) : maxL (l.take (k + 1)) = max (maxL (l.take k)) x := by
  unfold maxL; rw [take_next h, List.foldl_append]; rfl
def greatS (l q : List Int) : Int := maxL (shareS l q)
theorem shareS_bd {l q : List Int} : ∀ x ∈ shareS l q, 0 ≤ x ∧ x ≤ 792 := by
  intro x hx
  unfold shareS at hx
  split at hx
  · next h =>
    unfold sharesOk at h
    simp only [Bool.and_eq_true] at h
    obtain ⟨hv, h8⟩ := workV_spec h.1.1
    unfold sumsTo at hx
    rw [List.mem_map] at hx
    obtain ⟨i, _, rfl⟩ := hx
    have := seg_bd hv (bnd q l.length i).toNat (bnd q l.length (i + 1)).toNat
    omega
  · simp at hx
theorem maxL_bd {l : List Int} (h : ∀ x ∈ l, 0 ≤ x ∧ x ≤ 792) : -1 ≤ maxL l ∧ maxL l ≤ 792 := by
  have key : ∀ (l : List Int) (a : Int), -1 ≤ a → a ≤ 792 → (∀ x ∈ l, 0 ≤ x ∧ x ≤ 792) → -1 ≤ l.foldl max a ∧ l.foldl max a ≤ 792 := by
    intro l
    induction l with
    | nil => intro a h1 h2 _; exact ⟨h1, h2⟩
    | cons x l ih =>
      intro a h1 h2 h
      have hx := h x List.mem_cons_self
      exact ih (max a x) (by omega) (by omega) (fun y hy => h y (List.mem_cons_of_mem _ hy))
  exact key l (-1) (by omega) (by omega) h

set_option maxHeartbeats 400000 in
theorem max_any (A : Option Addr) (l : List Int) (c : Nat) (w : World) (ha : Rd w A l) (hl : l.length ≤ 1048576) (h1 : 1 ≤ l.length) (hv : ∀ x ∈ l, 0 ≤ x ∧ x ≤ 792) :
    Calls Try.prog 33 #[.slice A l.length c] w fun e w' => e = .returned (.int .i64 (maxL l)) ∧ w = w' := by
  have HV := Lib.hid hv
  obtain ⟨b, off, x, rfl, hbx, Hx, hcx⟩ := ha.at_ (k := 0) (by omega)
  rw [Nat.add_zero] at hcx
  have hx := hv x (mem_at Hx.out)
  clear hv
  have q0 : (0 : Int) < (l.length : Int) := by omega
  have HS : Hid (maxL (l.take 1) = x) := by show _ = _; rw [maxL_next Hx.out]; simp [maxL]; omega
  go_enter Try.func33, Try.ntmps33
  go_wp2_with fail
  go_loop [3, 4] (fun t i => ∃ k : Nat, 1 ≤ k ∧ k ≤ l.length ∧ i = .int .i64 k ∧ t = .int .i64 (maxL (l.take k))) (fun _ i => l.length - (intOf i).toNat)
  case atStart => exact ⟨1, by omega, by omega, rfl, by rw [HS.out]⟩
  case round =>
    obtain ⟨k, hk1, hk, rfl, rfl⟩ := hrel
    by_cases hlt : k < l.length
    · obtain ⟨b, off, y, e, _, Hy, hcy⟩ := ha.at_ hlt
      injection e with e
      injection e with ea eb ec
      subst ea eb
      have q1 : (0 : Int) ≤ (k : Int) := by omega
      have q2 : (k : Int) < (l.length : Int) := by omega
      have HN := Lib.hid (maxL_next Hy.out)
      go_wp2_with fail
      exact ⟨⟨k + 1, by omega, by omega, by go_num, by rw [HN.out]; congr 1; split <;> omega⟩, by simp [intOf]; omega⟩
    · go_wp2_with fail
      go_ret
      exact ⟨ret_int (by rw [List.take_of_length_le (by omega)]), rfl⟩

theorem greatS_nil {l q : List Int} (h : shareS l q = []) : greatS l q = -1 := by unfold greatS; rw [h]; rfl
set_option maxHeartbeats 400000 in
theorem gs_impl (A B : Option Addr) (l q : List Int) (c d : Nat) (w : World) (ha : Rd w A l) (hb : Rd w B q) (hl : l.length ≤ 1048576) (hm : q.length ≤ 1048576) (hlc : l.length ≤ c) :
    Calls Try.prog 20 #[.slice A l.length c, .slice B q.length d] w fun e w' => e = .returned (.int .i64 (greatS l q)) ∧ Below w.heap.size w w' := by
  obtain ⟨L, HL⟩ : ∃ L, Hid (shareS l q = L) := ⟨_, rfl⟩
  have HC : Hid (Calls Try.prog 16 #[.slice A l.length c, .slice B q.length d] w (AnsN L w)) := by
    have h := ss_implN A B l q c d w ha hb hl hm hlc
    rw [HL.out] at h
    exact h
  have HG : Hid (greatS l q = maxL L) := by show _ = _; unfold greatS; rw [HL.out]
  have HB : Hid (∀ x ∈ L, 0 ≤ x ∧ x ≤ 792) := fun x hx => shareS_bd (l := l) (q := q) x (by rw [HL.out]; exact hx)
  have hLl : L.length ≤ 4 := by
    have h : (shareS l q).length ≤ 4 := by
      unfold shareS; split
      · next h => rw [sumsTo_length]; unfold sharesOk at h; simp only [Bool.and_eq_true, decide_eq_true_eq] at h; omega
      · exact Nat.zero_le _
    rw [HL.out] at h; exact h
  go_enter Try.func20, Try.ntmps20
  go_wp2_with fail
  refine HC.out.mono ?_
  rintro e w1 ⟨A1, c1, rfl, hn, o1, b1⟩
  have hnil := fun W => Lib.run_eql_slice_nil (P := Try.prog) W 22 3 A1 L.length c1 0 0 Try.underlying22
  rcases List.eq_nil_or_concat L with h0 | ⟨L', z, h0⟩
  · obtain rfl := hn h0
    have H0 := Lib.hid h0
    clear h0 hn
    go_wp2_with fail
    go_ret
    exact ⟨ret_int (by rw [HG.out, H0.out]; rfl), b1⟩
  · have h1 : 1 ≤ L.length := by rw [h0]; simp
    rcases o1 with h2 | ⟨g, cs, rfl, g1, g2, hblk, hcs⟩
    · rw [h2] at h1; simp at h1
    have hr : Rd w1 (some ⟨g, 0, none⟩) L := (Own.of_blk hblk g1 g2 hcs).rd
    clear h0 hn
    go_wp2_with fail
    refine (max_any _ L c1 w1 hr (by omega) h1 HB.out).mono ?_
    rintro e w' ⟨rfl, rfl⟩
    go_wp2_with fail
    go_ret
    exact ⟨ret_int HG.out.symm, b1⟩

set_option maxHeartbeats 400000 in
theorem gs_spec (A B : Option Addr) (l q : List Int) (c d : Nat) (w : World) (ha : Rd w A l) (hb : Rd w B q) (hl : l.length ≤ 1048576) (hm : q.length ≤ 1048576) :
    Calls Try.prog 19 #[.slice A l.length c, .slice B q.length d] w fun e w' => e = .returned (.int .i64 (greatS l q)) ∧ Below w.heap.size w w' := by
  obtain ⟨L, HL⟩ : ∃ L, Hid (shareS l q = L) := ⟨_, rfl⟩
  have HC : Hid (Calls Try.prog 15 #[.slice A l.length c, .slice B q.length d] w (Ans (fun s => s) L.length L 3 w)) := by
    have h := ss_spec A B l q c d w ha hb hl hm
    rw [HL.out] at h
    exact h
  have HG : Hid (greatS l q = maxL L) := by show _ = _; unfold greatS; rw [HL.out]
  have HB : Hid (∀ x ∈ L, 0 ≤ x ∧ x ≤ 792) := fun x hx => shareS_bd (l := l) (q := q) x (by rw [HL.out]; exact hx)
  have hLl : L.length ≤ 1048576 := by
    have h : (shareS l q).length ≤ 4 := by
      unfold shareS; split
      · next h => rw [sumsTo_length]; unfold sharesOk at h; simp only [Bool.and_eq_true, decide_eq_true_eq] at h; omega
      · exact Nat.zero_le _
    rw [HL.out] at h; omega
  go_enter Try.func19, Try.ntmps19
  go_wp2_with fail
  refine HC.out.mono ?_
  rintro e w1 ⟨A1, c1, rfl, o1, b1⟩
  have hr := o1.rd
  go_wp2_with fail
  go_loop [5, 7] (fun t i => ∃ k : Nat, k ≤ L.length ∧ i = .int .i64 k ∧ t = .int .i64 (maxL (L.take k))) (fun _ i => L.length - (intOf i).toNat)
  case atStart => exact ⟨0, by omega, rfl, rfl⟩
  case round =>
    obtain ⟨k, hk, rfl, rfl⟩ := hrel
    by_cases hlt : k < L.length
    · obtain ⟨b, off, y, rfl, _, Hy, hcy⟩ := hr.at_ hlt
      have q1 : (0 : Int) ≤ (k : Int) := by omega
      have q2 : (k : Int) < (L.length : Int) := by omega
      have HN := Lib.hid (maxL_next Hy.out)
      go_wp2_with fail
      exact ⟨⟨k + 1, by omega, by go_num, by rw [HN.out]; congr 1; split <;> omega⟩, by simp [intOf]; omega⟩
    · go_wp2_with fail
      go_ret
      exact ⟨ret_int (by rw [HG.out, List.take_of_length_le (by omega)]), b1⟩
end Go.Proofs.Ytoopmikcehmpdaa
