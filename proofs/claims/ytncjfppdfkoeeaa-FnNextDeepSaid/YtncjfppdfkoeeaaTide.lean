/- What the program's and the reference's functions on tides compute: the walks. -/
import Derived.Test.YtncjfppdfkoeeaaCom
import Derived.Test.YtncjfppdfkoeeaaTideLaw
namespace Go.Proofs.Ytncjfppdfkoeeaa
open Go.RowKit
set_option linter.unusedVariables false

set_option maxHeartbeats 400000 in
theorem tv_impl (A : Option Addr) (l : List Int) (c : Nat) (w : World) (ha : Rd w A l) (hl : l.length ≤ 1048576) :
    Calls Try.prog 15 #[.slice A l.length c] w fun e w' => e = .returned (.bool (tideV l)) ∧ w = w' := by
  go_enter Try.func15, Try.ntmps15
  go_wp2_with fail
  go_loop [7] (fun i => ∃ k : Nat, k ≤ l.length ∧ i = .int .i64 k ∧ Hid (∀ y ∈ l.take k, 0 ≤ y ∧ y ≤ 99)) (fun i => l.length - (intOf i).toNat)
  case atStart => exact ⟨0, by omega, rfl, by intro y hy; simp at hy⟩
  case round =>
    obtain ⟨k, hk, rfl, Hk⟩ := hrel
    by_cases hlt : k < l.length
    · obtain ⟨b, off, x, rfl, hbx, Hx, hcx⟩ := ha.at_ hlt
      by_cases hx : 0 ≤ x ∧ x ≤ 99
      · go_wp2_with (go_at_call 32; refine (within_t _ _ _ _ hx).mono ?_; rintro e w' ⟨rfl, rfl⟩)
        exact ⟨⟨k + 1, by omega, by go_num, all_next Hk.out Hx.out hx⟩, by simp [intOf]; omega⟩
      · go_wp2_with (go_at_call 32; refine (within_f _ _ _ _ hx).mono ?_; rintro e w' ⟨rfl, rfl⟩)
        go_ret
        exact ⟨ret_bool (tideV_no (mem_at Hx.out) hx).symm, rfl⟩
    · go_wp2_with (go_at_call 32; refine (within_any _ _ _ _).mono ?_; rintro e w' ⟨rfl, rfl⟩)
      go_ret
      exact ⟨ret_bool (by rw [tideV_yes (all_end Hk.out (by omega)), Bool.eq_iff_iff]; simp; omega), rfl⟩

set_option maxHeartbeats 400000 in
theorem tv_spec (A : Option Addr) (l : List Int) (c : Nat) (w : World) (ha : Rd w A l) (hl : l.length ≤ 1048576) :
    Calls Try.prog 13 #[.slice A l.length c] w fun e w' => e = .returned (.bool (tideV l)) ∧ w = w' := by
  go_enter Try.func13, Try.ntmps13
  go_wp2_with fail
  go_loop [3] (fun i => ∃ k : Nat, k ≤ l.length ∧ i = .int .i64 k ∧ Hid (∀ y ∈ l.take k, 0 ≤ y ∧ y ≤ 99)) (fun i => l.length - (intOf i).toNat)
  case atStart => exact ⟨0, by omega, rfl, by intro y hy; simp at hy⟩
  case round =>
    obtain ⟨k, hk, rfl, Hk⟩ := hrel
    by_cases hlt : k < l.length
    · obtain ⟨b, off, x, rfl, hbx, Hx, hcx⟩ := ha.at_ hlt
      by_cases hx : 0 ≤ x ∧ x ≤ 99
      · go_wp2_with (go_at_call 31; refine (l1In_t _ _ _ _ hx).mono ?_; rintro e w' ⟨rfl, rfl⟩)
        exact ⟨⟨k + 1, by omega, by go_num, all_next Hk.out Hx.out hx⟩, by simp [intOf]; omega⟩
      · go_wp2_with (go_at_call 31; refine (l1In_f _ _ _ _ hx).mono ?_; rintro e w' ⟨rfl, rfl⟩)
        go_ret
        exact ⟨ret_bool (tideV_no (mem_at Hx.out) hx).symm, rfl⟩
    · go_wp2_with (go_at_call 31; refine (l1In_any _ _ _ _).mono ?_; rintro e w' ⟨rfl, rfl⟩)
      go_ret
      exact ⟨ret_bool (by rw [tideV_yes (all_end Hk.out (by omega)), Bool.eq_iff_iff]; simp; omega), rfl⟩

theorem tv_any {f : FuncId} {A : Option Addr} {l : List Int} {c : Nat} {w : World} {r : Bool} (h : Calls Try.prog f #[.slice A l.length c] w fun e w' => e = .returned (.bool (tideV l)) ∧ w = w') (e : tideV l = r) :
    Calls Try.prog f #[.slice A l.length c] w fun e w' => e = .returned (.bool r) ∧ w = w' := h.mono fun _ _ ⟨he, hw⟩ => ⟨he.trans (ret_bool e), hw⟩

set_option maxHeartbeats 400000 in
theorem da_impl (A : Option Addr) (l : List Int) (c : Nat) (h : Int) (w : World) (ha : Rd w A l) (hl : l.length ≤ 1048576) :
    Calls Try.prog 18 #[.slice A l.length c, .int .i64 h] w fun e w' => e = .returned (.int .i64 (depthAt l h)) ∧ w = w' := by
  by_cases hv : tideV l = true ∧ 0 ≤ h
  · obtain ⟨hv, h0⟩ := hv
    obtain ⟨_, l1, l2⟩ := tideV_spec hv
    have HT := Lib.hid (tv_any (tv_impl A l c w ha hl) hv)
    obtain ⟨n, rfl⟩ := Int.eq_ofNat_of_zero_le h0
    obtain ⟨b, off, x, rfl, hbx, Hx, hcx⟩ := ha.at_ (k := n % l.length) (Nat.mod_lt _ (by omega))
    have HD : Hid (depthAt l n = x) := by
      unfold depthAt; rw [if_pos ⟨hv, h0⟩]; exact dAt_at Hx.out
    have q1 : 0 ≤ (n : Int) % (l.length : Int) := Int.emod_nonneg _ (by omega)
    have q2 : (n : Int) % (l.length : Int) < (l.length : Int) := Int.emod_lt_of_pos _ (by omega)
    clear hv
    go_enter Try.func18, Try.ntmps18
    go_wp2_with (go_at_call 15; refine HT.out.mono ?_; rintro e w' ⟨rfl, rfl⟩)
    go_ret
    exact ⟨ret_int HD.out.symm, rfl⟩
  · have HD : Hid (depthAt l h = -1) := by unfold depthAt; rw [if_neg hv]; rfl
    by_cases h0 : 0 ≤ h
    · have HT := Lib.hid (tv_any (r := false) (tv_impl A l c w ha hl) (by simp [h0] at hv; exact hv))
      clear hv
      go_enter Try.func18, Try.ntmps18
      go_wp2_with (go_at_call 15; refine HT.out.mono ?_; rintro e w' ⟨rfl, rfl⟩)
      go_ret
      exact ⟨ret_int HD.out.symm, rfl⟩
    · clear hv
      cases hb : tideV l
      all_goals
        have HT := Lib.hid (tv_any (tv_impl A l c w ha hl) hb)
        clear hb
        go_enter Try.func18, Try.ntmps18
        go_wp2_with (go_at_call 15; refine HT.out.mono ?_; rintro e w' ⟨rfl, rfl⟩)
        go_ret
        exact ⟨ret_int HD.out.symm, rfl⟩

set_option maxHeartbeats 400000 in
theorem da_spec (A : Option Addr) (l : List Int) (c : Nat) (h : Int) (w : World) (ha : Rd w A l) (hl : l.length ≤ 1048576) :
    Calls Try.prog 17 #[.slice A l.length c, .int .i64 h] w fun e w' => e = .returned (.int .i64 (depthAt l h)) ∧ w = w' := by
  by_cases hv : tideV l = true ∧ 0 ≤ h
  · obtain ⟨hv, h0⟩ := hv
    obtain ⟨_, l1, l2⟩ := tideV_spec hv
    have HT := Lib.hid (tv_any (tv_spec A l c w ha hl) hv)
    obtain ⟨n, rfl⟩ := Int.eq_ofNat_of_zero_le h0
    obtain ⟨b, off, x, rfl, hbx, Hx, hcx⟩ := ha.at_ (k := n % l.length) (Nat.mod_lt _ (by omega))
    have HD : Hid (depthAt l n = x) := by
      unfold depthAt; rw [if_pos ⟨hv, h0⟩]; exact dAt_at Hx.out
    have q1 : 0 ≤ (n : Int) % (l.length : Int) := Int.emod_nonneg _ (by omega)
    have q2 : (n : Int) % (l.length : Int) < (l.length : Int) := Int.emod_lt_of_pos _ (by omega)
    clear hv
    go_enter Try.func17, Try.ntmps17
    go_wp2_with (go_at_call 13; refine HT.out.mono ?_; rintro e w' ⟨rfl, rfl⟩)
    go_ret
    exact ⟨ret_int HD.out.symm, rfl⟩
  · have HD : Hid (depthAt l h = -1) := by unfold depthAt; rw [if_neg hv]; rfl
    by_cases h0 : 0 ≤ h
    · have HT := Lib.hid (tv_any (r := false) (tv_spec A l c w ha hl) (by simp [h0] at hv; exact hv))
      clear hv
      go_enter Try.func17, Try.ntmps17
      go_wp2_with (go_at_call 13; refine HT.out.mono ?_; rintro e w' ⟨rfl, rfl⟩)
      go_ret
      exact ⟨ret_int HD.out.symm, rfl⟩
    · clear hv
      cases hb : tideV l
      all_goals
        have HT := Lib.hid (tv_any (tv_spec A l c w ha hl) hb)
        clear hb
        go_enter Try.func17, Try.ntmps17
        go_wp2_with (go_at_call 13; refine HT.out.mono ?_; rintro e w' ⟨rfl, rfl⟩)
        go_ret
        exact ⟨ret_int HD.out.symm, rfl⟩

set_option maxHeartbeats 400000 in
theorem ask_any (A : Option Addr) (l : List Int) (c : Nat) (h m : Int) (w : World) (ha : Rd w A l) (hl : l.length ≤ 1048576) :
    Calls Try.prog 33 #[.slice A l.length c, .int .i64 h, .int .i64 m] w fun e w' => e = .returned (.bool (asked l h m)) ∧ w = w' := by
  have T1 := tv_impl A l c w ha hl
  by_cases hv : tideV l = true
  · have HT := Lib.hid (tv_any T1 hv)
    clear T1
    by_cases hh : 0 ≤ h ∧ h ≤ 999
    · have HA := Lib.hid (p := asked l h m = decide (0 ≤ m ∧ m ≤ 999)) (by simp [asked, hv, hh])
      clear hv
      go_enter Try.func33, Try.ntmps33
      go_wp2_with (first | (go_at_call 15; refine HT.out.mono ?_; rintro e w' ⟨rfl, rfl⟩) | (go_at_call 32; ((with_reducible refine (within_t h _ _ _ hh).mono ?_); rintro e w' ⟨rfl, rfl⟩)) | (go_at_call 32; ((with_reducible refine (within_any m _ _ _).mono ?_); rintro e w' ⟨rfl, rfl⟩)))
      go_ret
      exact ⟨ret_bool (by rw [HA.out]; simp), rfl⟩
    · have HA := Lib.hid (p := asked l h m = false) (by simp only [asked, hv, Bool.true_and, decide_eq_false hh, Bool.false_and])
      clear hv
      go_enter Try.func33, Try.ntmps33
      go_wp2_with (first | (go_at_call 15; refine HT.out.mono ?_; rintro e w' ⟨rfl, rfl⟩) | (go_at_call 32; ((with_reducible refine (within_f h _ _ _ hh).mono ?_); rintro e w' ⟨rfl, rfl⟩)))
      all_goals (go_ret; exact ⟨ret_bool (by rw [HA.out]), rfl⟩)
  · have hv' : tideV l = false := by simpa using hv
    have HT := Lib.hid (tv_any T1 hv')
    have HA := Lib.hid (p := asked l h m = false) (by simp only [asked, hv', Bool.false_and])
    clear T1 hv hv'
    go_enter Try.func33, Try.ntmps33
    go_wp2_with (go_at_call 15; refine HT.out.mono ?_; rintro e w' ⟨rfl, rfl⟩)
    go_ret
    exact ⟨ret_bool HA.out.symm, rfl⟩

set_option maxHeartbeats 400000 in
theorem shal_any (A : Option Addr) (l : List Int) (c : Nat) (h m : Int) (w : World) (ha : Rd w A l) (hl : l.length ≤ 1048576) (hk : asked l h m = true) :
    Calls Try.prog 34 #[.slice A l.length c, .int .i64 h, .int .i64 m] w fun e w' => e = .returned (.int .i64 (low l h.toNat m.toNat)) ∧ w = w' := by
  obtain ⟨v, h0, h9, m0, m9⟩ := asked_spec hk
  obtain ⟨_, l1, l2⟩ := tideV_spec v
  obtain ⟨h, rfl⟩ := Int.eq_ofNat_of_zero_le h0
  obtain ⟨m, rfl⟩ := Int.eq_ofNat_of_zero_le m0
  have HD : Hid (∀ k : Nat, ∀ w, Rd w A l → Calls Try.prog 18 #[.slice A l.length c, .int .i64 ((h : Int) + (k : Int))] w fun e w' => e = .returned (.int .i64 (dAt l (h + k))) ∧ w = w') :=
    fun k w ha => (da_impl A l c _ w ha hl).mono fun _ _ ⟨he, hw⟩ => ⟨he.trans (ret_int (by unfold depthAt; rw [if_pos ⟨v, by omega⟩]; congr 1)), hw⟩
  have HL : Hid (low l h (min m l.length) = low l h m) := low_min h l1 m
  have HV := Lib.hid v
  clear v hk
  by_cases hml : m ≤ l.length
  · go_enter Try.func34, Try.ntmps34
    go_wp2_with fail
    go_loop [7, 13] (fun t i => ∃ k : Nat, k ≤ m ∧ i = .int .i64 k ∧ t = .int .i64 (low l h k)) (fun _ i => m - (intOf i).toNat)
    case atStart => exact ⟨0, by omega, rfl, rfl⟩
    case round =>
      obtain ⟨k, hkm, rfl, rfl⟩ := hrel
      by_cases hlt : k < m
      · have q1 := low_99 l h k
        have q2 := low_nonneg HV.out h k
        have q3 := dAt_bd HV.out (h + k)
        go_wp2_with (go_at_call 18; refine (HD.out k _ ha).mono ?_; rintro e w' ⟨rfl, rfl⟩)
        exact ⟨⟨k + 1, by omega, by go_num, by rw [show low l h (k + 1) = min (low l h k) (dAt l (h + k)) from rfl]; congr 1; split <;> omega⟩, by simp [intOf]; omega⟩
      · go_wp2
        go_ret
        exact ⟨ret_int (by rw [show k = m from by omega]), rfl⟩
  · go_enter Try.func34, Try.ntmps34
    go_wp2_with fail
    go_loop [7, 13] (fun t i => ∃ k : Nat, k ≤ l.length ∧ i = .int .i64 k ∧ t = .int .i64 (low l h k)) (fun _ i => l.length - (intOf i).toNat)
    case atStart => exact ⟨0, by omega, rfl, rfl⟩
    case round =>
      obtain ⟨k, hkm, rfl, rfl⟩ := hrel
      by_cases hlt : k < l.length
      · have q1 := low_99 l h k
        have q2 := low_nonneg HV.out h k
        have q3 := dAt_bd HV.out (h + k)
        go_wp2_with (go_at_call 18; refine (HD.out k _ ha).mono ?_; rintro e w' ⟨rfl, rfl⟩)
        exact ⟨⟨k + 1, by omega, by go_num, by rw [show low l h (k + 1) = min (low l h k) (dAt l (h + k)) from rfl]; congr 1; split <;> omega⟩, by simp [intOf]; omega⟩
      · go_wp2
        go_ret
        exact ⟨ret_int (by rw [show k = l.length from by omega]; exact by rw [← HL.out, Nat.min_eq_right (by omega)]), rfl⟩

theorem ask_is {A : Option Addr} {l : List Int} {c : Nat} {h m : Int} {w : World} (ha : Rd w A l) (hl : l.length ≤ 1048576) {r : Bool} (e : asked l h m = r) :
    Calls Try.prog 33 #[.slice A l.length c, .int .i64 h, .int .i64 m] w fun e w' => e = .returned (.bool r) ∧ w = w' :=
  (ask_any A l c h m w ha hl).mono fun _ _ ⟨he, hw⟩ => ⟨he.trans (ret_bool e), hw⟩

set_option maxHeartbeats 400000 in
theorem df_impl (A : Option Addr) (l : List Int) (c : Nat) (h m d : Int) (w : World) (ha : Rd w A l) (hl : l.length ≤ 1048576) :
    Calls Try.prog 20 #[.slice A l.length c, .int .i64 h, .int .i64 m, .int .i64 d] w fun e w' => e = .returned (.bool (deepFor l h m d)) ∧ w = w' := by
  by_cases ak : asked l h m = true
  · have HT := Lib.hid (ask_is (c := c) ha hl ak)
    have HS := Lib.hid (shal_any A l c h m w ha hl ak)
    have HA := Lib.hid ak
    obtain ⟨v, h0, h9, m0, m9⟩ := asked_spec ak
    have HV := Lib.hid v
    clear ak v
    by_cases hm : m = 0
    · subst hm
      go_enter Try.func20, Try.ntmps20
      go_wp2_with (go_at_call 33; refine HT.out.mono ?_; rintro e w' ⟨rfl, rfl⟩)
      go_ret
      exact ⟨ret_bool ((deepFor_is d HA.out).2 (deepB_zero _ _ _)).symm, rfl⟩
    · have hm' : (m == 0) = false := by simpa using hm
      go_enter Try.func20, Try.ntmps20
      go_wp2_with (first | (go_at_call 33; refine HT.out.mono ?_; rintro e w' ⟨rfl, rfl⟩) | (go_at_call 34; refine HS.out.mono ?_; rintro e w' ⟨rfl, rfl⟩))
      go_ret
      exact ⟨ret_bool (by rw [Bool.eq_iff_iff, deepFor_is d HA.out, deep_iff_low HV.out _ _ _ (by omega)]; simp), rfl⟩
  · have ak' : asked l h m = false := by simpa using ak
    have HT := Lib.hid (ask_is (c := c) ha hl ak')
    have HA := Lib.hid ak'
    clear ak ak'
    go_enter Try.func20, Try.ntmps20
    go_wp2_with (go_at_call 33; refine HT.out.mono ?_; rintro e w' ⟨rfl, rfl⟩)
    go_ret
    exact ⟨ret_bool (deepFor_not d HA.out).symm, rfl⟩

set_option maxHeartbeats 400000 in
theorem dm_impl (A : Option Addr) (l : List Int) (c : Nat) (h m : Int) (w : World) (ha : Rd w A l) (hl : l.length ≤ 1048576) :
    Calls Try.prog 22 #[.slice A l.length c, .int .i64 h, .int .i64 m] w fun e w' => e = .returned (.int .i64 (deepMost l h m)) ∧ w = w' := by
  by_cases ak : asked l h m = true
  · have HT := Lib.hid (ask_is (c := c) ha hl ak)
    have HS := Lib.hid (shal_any A l c h m w ha hl ak)
    have HA := Lib.hid ak
    obtain ⟨v, h0, h9, m0, m9⟩ := asked_spec ak
    clear ak v
    by_cases hm : m = 0
    · subst hm
      go_enter Try.func22, Try.ntmps22
      go_wp2_with (go_at_call 33; refine HT.out.mono ?_; rintro e w' ⟨rfl, rfl⟩)
      go_ret
      exact ⟨ret_int (by unfold deepMost; rw [if_neg (by omega)]), rfl⟩
    · have hm' : (m == 0) = false := by simpa using hm
      go_enter Try.func22, Try.ntmps22
      go_wp2_with (first | (go_at_call 33; refine HT.out.mono ?_; rintro e w' ⟨rfl, rfl⟩) | (go_at_call 34; refine HS.out.mono ?_; rintro e w' ⟨rfl, rfl⟩))
      go_ret
      exact ⟨ret_int (by unfold deepMost; rw [if_pos ⟨HA.out, by omega⟩]), rfl⟩
  · have ak' : asked l h m = false := by simpa using ak
    have HT := Lib.hid (ask_is (c := c) ha hl ak')
    have HA := Lib.hid ak'
    clear ak ak'
    go_enter Try.func22, Try.ntmps22
    go_wp2_with (go_at_call 33; refine HT.out.mono ?_; rintro e w' ⟨rfl, rfl⟩)
    go_ret
    exact ⟨ret_int (by unfold deepMost; rw [if_neg (by rw [HA.out]; simp)]), rfl⟩

set_option maxHeartbeats 400000 in
theorem nd_impl (A : Option Addr) (l : List Int) (c : Nat) (h m d : Int) (w : World) (ha : Rd w A l) (hl : l.length ≤ 1048576) :
    Calls Try.prog 24 #[.slice A l.length c, .int .i64 h, .int .i64 m, .int .i64 d] w fun e w' => (∃ r, IsNext l h m d r ∧ e = .returned (.int .i64 r)) ∧ w = w' := by
  by_cases ak : asked l h m = true
  · have HT := Lib.hid (ask_is (c := c) ha hl ak)
    have HA := Lib.hid ak
    obtain ⟨v, h0, h9, m0, m9⟩ := asked_spec ak
    obtain ⟨h, rfl⟩ := Int.eq_ofNat_of_zero_le h0
    clear ak v
    have HD : Hid (∀ (k : Nat) (r : Bool), deepFor l k m d = r → Calls Try.prog 20 #[.slice A l.length c, .int .i64 (k : Int), .int .i64 m, .int .i64 d] w fun e w' => e = .returned (.bool r) ∧ w = w') :=
      fun k r e => (df_impl A l c k m d w ha hl).mono fun _ _ ⟨he, hw⟩ => ⟨he.trans (ret_bool e), hw⟩
    go_enter Try.func24, Try.ntmps24
    go_wp2_with (go_at_call 33; refine HT.out.mono ?_; rintro e w' ⟨rfl, rfl⟩)
    go_loop [1] (fun i => ∃ k : Nat, h ≤ k ∧ k ≤ 1000 ∧ i = .int .i64 k ∧ Hid (∀ j : Int, (h : Int) ≤ j → j < k → deepFor l j m d = false)) (fun i => 1000 - (intOf i).toNat)
    case atStart => exact ⟨h, by omega, by omega, rfl, fun j h1 h2 => absurd h1 (by omega)⟩
    case round =>
      obtain ⟨k, hk, hk2, rfl, Hk⟩ := hrel
      by_cases hlt : k < 1000
      · by_cases hd : deepFor l k m d = true
        · have HC := Lib.hid (HD.out k true hd)
          have H1 := Lib.hid hd
          clear hd
          go_wp2_with (go_at_call 20; refine HC.out.mono ?_; rintro e w' ⟨rfl, rfl⟩)
          go_ret
          exact ⟨⟨k, .inr ⟨HA.out, by omega, by omega, H1.out, Hk.out⟩, rfl⟩, rfl⟩
        · have hd' : deepFor l k m d = false := by simpa using hd
          have HC := Lib.hid (HD.out k false hd')
          have H1 := Lib.hid hd'
          clear hd hd'
          go_wp2_with (go_at_call 20; refine HC.out.mono ?_; rintro e w' ⟨rfl, rfl⟩)
          exact ⟨⟨k + 1, by omega, by omega, by go_num, fun j h1 h2 => by
            by_cases e : j = k
            · rw [e]; exact H1.out
            · exact Hk.out j h1 (by omega)⟩, by simp [intOf]; omega⟩
      · go_wp2
        go_ret
        exact ⟨⟨-1, .inl ⟨rfl, fun j h1 h2 _ => Hk.out j h1 (by omega)⟩, rfl⟩, rfl⟩
  · have ak' : asked l h m = false := by simpa using ak
    have HT := Lib.hid (ask_is (c := c) ha hl ak')
    have HA := Lib.hid ak'
    clear ak ak'
    go_enter Try.func24, Try.ntmps24
    go_wp2_with (go_at_call 33; refine HT.out.mono ?_; rintro e w' ⟨rfl, rfl⟩)
    go_ret
    exact ⟨⟨-1, .inl ⟨rfl, fun k _ _ a => by rw [HA.out] at a; cases a⟩, rfl⟩, rfl⟩

set_option maxHeartbeats 800000 in
theorem df_spec (A : Option Addr) (l : List Int) (c : Nat) (h m d : Int) (w : World) (ha : Rd w A l) (hl : l.length ≤ 1048576) :
    Calls Try.prog 19 #[.slice A l.length c, .int .i64 h, .int .i64 m, .int .i64 d] w fun e w' => e = .returned (.bool (deepFor l h m d)) ∧ w = w' := by
  by_cases hv : tideV l = true
  · have HT := Lib.hid (tv_any (tv_spec A l c w ha hl) hv)
    have HV := Lib.hid hv
    by_cases hh : 0 ≤ h ∧ h ≤ 999
    · by_cases hm : 0 ≤ m ∧ m ≤ 999
      · have HA := Lib.hid (asked_of hv hh.1 hh.2 hm.1 hm.2)
        have HD : Hid (∀ (k : Nat) w, Rd w A l → Calls Try.prog 17 #[.slice A l.length c, .int .i64 (k : Int)] w fun e w' => e = .returned (.int .i64 (dAt l k)) ∧ w = w') :=
          fun k w ha => (da_spec A l c _ w ha hl).mono fun _ _ ⟨he, hw⟩ => ⟨he.trans (ret_int (by unfold depthAt; rw [if_pos ⟨hv, by omega⟩]; congr 1)), hw⟩
        clear hv
        obtain ⟨h, rfl⟩ := Int.eq_ofNat_of_zero_le hh.1
        obtain ⟨m, rfl⟩ := Int.eq_ofNat_of_zero_le hm.1
        have g1 := hh.2
        have g2 := hm.2
        go_enter Try.func19, Try.ntmps19
        go_wp2_with (first | (go_at_call 13; refine HT.out.mono ?_; rintro e w' ⟨rfl, rfl⟩) | (go_at_call 31; ((with_reducible refine (l1In_t (h : Int) _ _ _ hh).mono ?_); rintro e w' ⟨rfl, rfl⟩)) | (go_at_call 31; ((with_reducible refine (l1In_t (m : Int) _ _ _ hm).mono ?_); rintro e w' ⟨rfl, rfl⟩)))
        go_loop [9] (fun i => ∃ k : Nat, k ≤ m ∧ i = .int .i64 ((h + k : Nat) : Int) ∧ Hid (deepB l h k d)) (fun i => h + m - (intOf i).toNat)
        case atStart => exact ⟨0, by omega, rfl, deepB_zero _ _ _⟩
        case round =>
          obtain ⟨k, hk, rfl, Hk⟩ := hrel
          by_cases hlt : k < m
          · by_cases hd : d ≤ dAt l (h + k)
            · go_wp2_with (go_at_call 17; refine (HD.out (h + k) _ ha).mono ?_; rintro e w' ⟨rfl, rfl⟩)
              exact ⟨⟨k + 1, by omega, by go_num, deepB_next Hk.out hd⟩, by simp [intOf]; omega⟩
            · go_wp2_with (go_at_call 17; refine (HD.out (h + k) _ ha).mono ?_; rintro e w' ⟨rfl, rfl⟩)
              go_ret
              exact ⟨ret_bool (deepFor_miss HA.out hlt (by omega)).symm, rfl⟩
          · go_wp2
            go_ret
            exact ⟨ret_bool ((deepFor_is d HA.out).2 (by rw [show (m : Int).toNat = k from by omega]; exact Hk.out)).symm, rfl⟩
      · have HA := Lib.hid (p := asked l h m = false) (by simp only [asked, decide_eq_false hm, Bool.and_false])
        clear hv
        go_enter Try.func19, Try.ntmps19
        go_wp2_with (first | (go_at_call 13; refine HT.out.mono ?_; rintro e w' ⟨rfl, rfl⟩) | (go_at_call 31; ((with_reducible refine (l1In_t h _ _ _ hh).mono ?_); rintro e w' ⟨rfl, rfl⟩)) | (go_at_call 31; ((with_reducible refine (l1In_f m _ _ _ hm).mono ?_); rintro e w' ⟨rfl, rfl⟩)))
        go_ret
        exact ⟨ret_bool (deepFor_not d HA.out).symm, rfl⟩
    · have HA := Lib.hid (p := asked l h m = false) (by simp only [asked, decide_eq_false hh, Bool.and_false, Bool.false_and])
      clear hv
      go_enter Try.func19, Try.ntmps19
      go_wp2_with (first | (go_at_call 13; refine HT.out.mono ?_; rintro e w' ⟨rfl, rfl⟩) | (go_at_call 31; ((with_reducible refine (l1In_f h _ _ _ hh).mono ?_); rintro e w' ⟨rfl, rfl⟩)))
      go_ret
      exact ⟨ret_bool (deepFor_not d HA.out).symm, rfl⟩
  · have hv' : tideV l = false := by simpa using hv
    have HT := Lib.hid (tv_any (tv_spec A l c w ha hl) hv')
    have HA := Lib.hid (p := asked l h m = false) (by simp only [asked, hv', Bool.false_and])
    clear hv hv'
    go_enter Try.func19, Try.ntmps19
    go_wp2_with (go_at_call 13; refine HT.out.mono ?_; rintro e w' ⟨rfl, rfl⟩)
    go_ret
    exact ⟨ret_bool (deepFor_not d HA.out).symm, rfl⟩

set_option maxHeartbeats 800000 in
theorem dm_spec (A : Option Addr) (l : List Int) (c : Nat) (h m : Int) (w : World) (ha : Rd w A l) (hl : l.length ≤ 1048576) :
    Calls Try.prog 21 #[.slice A l.length c, .int .i64 h, .int .i64 m] w fun e w' => e = .returned (.int .i64 (deepMost l h m)) ∧ w = w' := by
  by_cases hv : tideV l = true
  · have HT := Lib.hid (tv_any (tv_spec A l c w ha hl) hv)
    have HV := Lib.hid hv
    by_cases hh : 0 ≤ h ∧ h ≤ 999
    · by_cases hm : 1 ≤ m ∧ m ≤ 999
      · have HA := Lib.hid (asked_of hv hh.1 hh.2 (by omega : 0 ≤ m) hm.2)
        have HD : Hid (∀ (k : Nat) w, Rd w A l → Calls Try.prog 17 #[.slice A l.length c, .int .i64 (k : Int)] w fun e w' => e = .returned (.int .i64 (dAt l k)) ∧ w = w') :=
          fun k w ha => (da_spec A l c _ w ha hl).mono fun _ _ ⟨he, hw⟩ => ⟨he.trans (ret_int (by unfold depthAt; rw [if_pos ⟨hv, by omega⟩]; congr 1)), hw⟩
        clear hv
        obtain ⟨h, rfl⟩ := Int.eq_ofNat_of_zero_le hh.1
        obtain ⟨m, rfl⟩ := Int.eq_ofNat_of_zero_le (by omega : 0 ≤ m)
        have g1 := hh.2
        have g2 := hm.2
        have g3 := hm.1
        go_enter Try.func21, Try.ntmps21
        go_wp2_with (first | (go_at_call 13; refine HT.out.mono ?_; rintro e w' ⟨rfl, rfl⟩) | (go_at_call 31; ((with_reducible refine (l1In_t (h : Int) _ _ _ hh).mono ?_); rintro e w' ⟨rfl, rfl⟩)) | (go_at_call 31; ((with_reducible refine (l1In_t (m : Int) _ _ _ hm).mono ?_); rintro e w' ⟨rfl, rfl⟩)))
        go_loop [7, 8] (fun t i => ∃ k : Nat, k ≤ m ∧ i = .int .i64 ((h + k : Nat) : Int) ∧ t = .int .i64 (low l h k)) (fun _ i => h + m - (intOf i).toNat)
        case atStart => exact ⟨0, by omega, rfl, rfl⟩
        case round =>
          obtain ⟨k, hk, rfl, rfl⟩ := hrel
          by_cases hlt : k < m
          · have q1 := low_99 l h k
            have q2 := low_nonneg HV.out h k
            have q3 := dAt_bd HV.out (h + k)
            go_wp2_with (go_at_call 17; refine (HD.out (h + k) _ ha).mono ?_; rintro e w' ⟨rfl, rfl⟩)
            exact ⟨⟨k + 1, by omega, by go_num, by rw [show low l h (k + 1) = min (low l h k) (dAt l (h + k)) from rfl]; congr 1; split <;> omega⟩, by simp [intOf]; omega⟩
          · go_wp2
            go_ret
            exact ⟨ret_int (by unfold deepMost; rw [if_pos ⟨HA.out, by omega⟩]; rw [show (m : Int).toNat = k from by omega]; rfl), rfl⟩
      · have HA := Lib.hid (p := deepMost l h m = -1) (if_neg (by intro a; have := asked_spec a.1; omega))
        clear hv
        go_enter Try.func21, Try.ntmps21
        go_wp2_with (first | (go_at_call 13; refine HT.out.mono ?_; rintro e w' ⟨rfl, rfl⟩) | (go_at_call 31; ((with_reducible refine (l1In_t h _ _ _ hh).mono ?_); rintro e w' ⟨rfl, rfl⟩)) | (go_at_call 31; ((with_reducible refine (l1In_f m _ _ _ hm).mono ?_); rintro e w' ⟨rfl, rfl⟩)))
        go_ret
        exact ⟨ret_int HA.out.symm, rfl⟩
    · have HA := Lib.hid (p := deepMost l h m = -1) (if_neg (by intro a; have := asked_spec a.1; omega))
      clear hv
      go_enter Try.func21, Try.ntmps21
      go_wp2_with (first | (go_at_call 13; refine HT.out.mono ?_; rintro e w' ⟨rfl, rfl⟩) | (go_at_call 31; ((with_reducible refine (l1In_f h _ _ _ hh).mono ?_); rintro e w' ⟨rfl, rfl⟩)))
      go_ret
      exact ⟨ret_int HA.out.symm, rfl⟩
  · have hv' : tideV l = false := by simpa using hv
    have HT := Lib.hid (tv_any (tv_spec A l c w ha hl) hv')
    have HA := Lib.hid (p := deepMost l h m = -1) (if_neg (by intro a; have := (asked_spec a.1).1; rw [hv'] at this; cases this))
    clear hv hv'
    go_enter Try.func21, Try.ntmps21
    go_wp2_with (go_at_call 13; refine HT.out.mono ?_; rintro e w' ⟨rfl, rfl⟩)
    go_ret
    exact ⟨ret_int HA.out.symm, rfl⟩

set_option maxHeartbeats 800000 in
theorem nd_spec (A : Option Addr) (l : List Int) (c : Nat) (h m d : Int) (w : World) (ha : Rd w A l) (hl : l.length ≤ 1048576) :
    Calls Try.prog 23 #[.slice A l.length c, .int .i64 h, .int .i64 m, .int .i64 d] w fun e w' => (∃ r, IsNext l h m d r ∧ e = .returned (.int .i64 r)) ∧ w = w' := by
  by_cases hv : tideV l = true
  · have HT := Lib.hid (tv_any (tv_spec A l c w ha hl) hv)
    have HV := Lib.hid hv
    by_cases hh : 0 ≤ h ∧ h ≤ 999
    · obtain ⟨_, l1, l2⟩ := tideV_spec hv
      clear hv
      have HD : Hid (∀ (k : Nat) (r : Bool), deepFor l k m d = r → Calls Try.prog 19 #[.slice A l.length c, .int .i64 (k : Int), .int .i64 m, .int .i64 d] w fun e w' => e = .returned (.bool r) ∧ w = w') :=
        fun k r e => (df_spec A l c k m d w ha hl).mono fun _ _ ⟨he, hw⟩ => ⟨he.trans (ret_bool e), hw⟩
      obtain ⟨h, rfl⟩ := Int.eq_ofNat_of_zero_le hh.1
      have g1 := hh.2
      go_enter Try.func23, Try.ntmps23
      go_wp2_with (first | (go_at_call 13; refine HT.out.mono ?_; rintro e w' ⟨rfl, rfl⟩) | (go_at_call 31; ((with_reducible refine (l1In_t (h : Int) _ _ _ hh).mono ?_); rintro e w' ⟨rfl, rfl⟩)))
      go_loop [9] (fun i => ∃ k : Nat, h ≤ k ∧ k ≤ 1000 ∧ k ≤ h + l.length ∧ i = .int .i64 k ∧ Hid (∀ j : Int, (h : Int) ≤ j → j < k → deepFor l j m d = false)) (fun i => 1000 - (intOf i).toNat)
      case atStart => exact ⟨h, by omega, by omega, by omega, rfl, fun j h1 h2 => absurd h1 (by omega)⟩
      case round =>
        obtain ⟨k, hk, hk2, hk3, rfl, Hk⟩ := hrel
        by_cases hlt : k < 1000
        · by_cases hlp : k < h + l.length
          · by_cases hd : deepFor l k m d = true
            · have HC := Lib.hid (HD.out k true hd)
              have H1 := Lib.hid hd
              clear hd
              go_wp2_with (go_at_call 19; refine HC.out.mono ?_; rintro e w' ⟨rfl, rfl⟩)
              go_ret
              exact ⟨⟨k, .inr ⟨asked_here HV.out hh.1 hh.2 H1.out, by omega, by omega, H1.out, Hk.out⟩, rfl⟩, rfl⟩
            · have hd' : deepFor l k m d = false := by simpa using hd
              have HC := Lib.hid (HD.out k false hd')
              have H1 := Lib.hid hd'
              clear hd hd'
              go_wp2_with (go_at_call 19; refine HC.out.mono ?_; rintro e w' ⟨rfl, rfl⟩)
              exact ⟨⟨k + 1, by omega, by omega, by omega, by go_num, fun j h1 h2 => by
                by_cases e : j = k
                · rw [e]; exact H1.out
                · exact Hk.out j h1 (by omega)⟩, by simp [intOf]; omega⟩
          · go_wp2
            go_ret
            exact ⟨⟨-1, .inl ⟨rfl, fun j h1 h2 _ => none_of_period HV.out hh.1 (fun j h1 h2 h3 => Hk.out j h1 (by omega)) j h1 h2⟩, rfl⟩, rfl⟩
        · go_wp2
          go_ret
          exact ⟨⟨-1, .inl ⟨rfl, fun j h1 h2 _ => Hk.out j h1 (by omega)⟩, rfl⟩, rfl⟩
    · have HA := Lib.hid (p := asked l h m = false) (by simp only [asked, decide_eq_false hh, Bool.and_false, Bool.false_and])
      clear hv
      go_enter Try.func23, Try.ntmps23
      go_wp2_with (first | (go_at_call 13; refine HT.out.mono ?_; rintro e w' ⟨rfl, rfl⟩) | (go_at_call 31; ((with_reducible refine (l1In_f h _ _ _ hh).mono ?_); rintro e w' ⟨rfl, rfl⟩)))
      go_ret
      exact ⟨⟨-1, .inl ⟨rfl, fun k _ _ a => by rw [HA.out] at a; cases a⟩, rfl⟩, rfl⟩
  · have hv' : tideV l = false := by simpa using hv
    have HT := Lib.hid (tv_any (tv_spec A l c w ha hl) hv')
    have HA := Lib.hid (p := asked l h m = false) (by simp only [asked, hv', Bool.false_and])
    clear hv hv'
    go_enter Try.func23, Try.ntmps23
    go_wp2_with (go_at_call 13; refine HT.out.mono ?_; rintro e w' ⟨rfl, rfl⟩)
    go_ret
    exact ⟨⟨-1, .inl ⟨rfl, fun k _ _ a => by rw [HA.out] at a; cases a⟩, rfl⟩, rfl⟩
end Go.Proofs.Ytncjfppdfkoeeaa
