/- CycleEnd: when all is done. -/
import Derived.Test.YtkkpegmokejfkaaPair
namespace Go.Proofs.Ytkkpegmokejfkaa
open Go.RowKit
set_option linter.unusedVariables false
set_option linter.unusedSimpArgs false

/-- When the first k are unloaded, and loaded. -/
def cycTo (l : List TaskV) (o : List Int) : Nat → Int × Int
  | 0 => (0, 0)
  | k + 1 => match o[k]? with
    | some i => match l[i.toNat]? with
      | some x => ((cycTo l o k).1 + x.off_, max (cycTo l o k).2 ((cycTo l o k).1 + x.off_) + x.back)
      | none => cycTo l o k
    | none => cycTo l o k
def cycE (l : List TaskV) (o : List Int) : Int := if listV l = true ∧ permV o l.length = true then (cycTo l o o.length).2 else -1
theorem cycTo_next {l : List TaskV} {o : List Int} {k j : Nat} {x : TaskV} (ho : o[k]? = some (j : Int)) (hl : l[j]? = some x) :
    cycTo l o (k + 1) = ((cycTo l o k).1 + x.off_, max (cycTo l o k).2 ((cycTo l o k).1 + x.off_) + x.back) := by
  simp only [cycTo, ho, Int.toNat_natCast, hl]
theorem cycTo_bd {l : List TaskV} (hv : ∀ x ∈ l, oneV x) (o : List Int) : ∀ k, 0 ≤ (cycTo l o k).1 ∧ (cycTo l o k).1 ≤ 99 * (k : Int) ∧ 0 ≤ (cycTo l o k).2 ∧ (cycTo l o k).2 ≤ 198 * (k : Int) := by
  intro k
  induction k with
  | zero => simp [cycTo]
  | succ k ih =>
    obtain ⟨h1, h2, h3, h4⟩ := ih
    unfold cycTo
    split
    · next i hi =>
      split
      · next x hx =>
        have := hv x (List.mem_of_getElem? hx)
        unfold oneV at this
        simp only
        omega
      · omega
    · omega
theorem cycE_no1 {l : List TaskV} {o : List Int} (h : listV l = false) : cycE l o = -1 := by unfold cycE; rw [h]; simp
theorem cycE_no2 {l : List TaskV} {o : List Int} (h : permV o l.length = false) : cycE l o = -1 := by unfold cycE; rw [h]; simp
theorem cycE_yes {l : List TaskV} {o : List Int} (h1 : listV l = true) (h2 : permV o l.length = true) : cycE l o = (cycTo l o o.length).2 := by unfold cycE; rw [h1, h2]; simp

set_option maxHeartbeats 1600000 in
theorem ce_impl (A B : Option Addr) (l : List TaskV) (o : List Int) (c d : Nat) (w : World) (ha : RdTask w A l) (hb : Rd w B o) (hl : l.length ≤ 1048576) (ho : o.length ≤ 1048576) (hd : o.length ≤ d) :
    Calls Try.prog 16 #[.slice A l.length c, .slice B o.length d] w fun e w' => e = .returned (.int .i64 (cycE l o)) ∧ Below w.heap.size w w' := by
  obtain ⟨N, HN⟩ : ∃ N, Hid (cycE l o = N) := ⟨_, rfl⟩
  rw [HN.out]
  cases hv : listV l with
  | false =>
    have HQ := Lib.hid (lvb (lv_impl A l c w ha hl) hv)
    have HO := Lib.hid (HN.out.symm.trans (cycE_no1 hv))
    clear hv
    go_enter Try.func16, Try.ntmps16
    go_wp2_with fail
    refine HQ.out.mono ?_
    rintro e w1 ⟨rfl, b1⟩
    go_wp2_with fail
    go_ret
    exact ⟨ret_int HO.out.symm, b1⟩
  | true =>
    have HQ := Lib.hid (lvb (lv_impl A l c w ha hl) hv)
    obtain ⟨hve, hl6⟩ := listV_spec hv
    have HV := Lib.hid hv
    have HVE := Lib.hid hve
    clear hv hve
    cases hp : permV o l.length with
    | false =>
      have HP := Lib.hid (fun W (h : Rd W B o) => bool_is (perm_impl B o d l.length W h ho hd hl) hp)
      have HO := Lib.hid (HN.out.symm.trans (cycE_no2 hp))
      clear hp
      go_enter Try.func16, Try.ntmps16
      go_wp2_with fail
      refine HQ.out.mono ?_
      rintro e w1 ⟨rfl, b1⟩
      go_wp2_with fail
      refine (HP.out w1 (hb.below b1)).mono ?_
      rintro e w' ⟨rfl, rfl⟩
      go_wp2_with fail
      go_ret
      exact ⟨ret_int HO.out.symm, b1⟩
    | true =>
      have HP := Lib.hid (fun W (h : Rd W B o) => bool_is (perm_impl B o d l.length W h ho hd hl) hp)
      have HO := Lib.hid (HN.out.symm.trans (cycE_yes HV.out hp))
      have HPS := Lib.hid (permV_spec hp)
      have hol : o.length = l.length := (permV_spec hp).2
      have ho6 : o.length ≤ 6 := by omega
      clear hp hol
      go_enter Try.func16, Try.ntmps16
      go_wp2_with fail
      refine HQ.out.mono ?_
      rintro e w1 ⟨rfl, b1⟩
      go_wp2_with fail
      refine (HP.out w1 (hb.below b1)).mono ?_
      rintro e w' ⟨rfl, rfl⟩
      have ha1 := ha.below b1
      have hb1 := hb.below b1
      go_wp2_with fail
      go_loop [5, 6, 21] (fun u t i => ∃ k : Nat, k ≤ o.length ∧ i = .int .i64 k ∧ u = .int .i64 (cycTo l o k).1 ∧ t = .int .i64 (cycTo l o k).2) (fun _ _ i => o.length - (intOf i).toNat)
      case atStart => exact ⟨0, by omega, rfl, rfl, rfl⟩
      case round =>
        obtain ⟨k, hk, rfl, rfl, rfl⟩ := hrel
        obtain ⟨u1, u2, t1, t2⟩ := cycTo_bd HVE.out o k
        by_cases hlt : k < o.length
        · obtain ⟨b, off, x, rfl, hbx, Hx, hcx⟩ := hb1.at_ hlt
          obtain ⟨⟨x0, x9⟩, _⟩ := permTo_at HPS.out.1 hlt Hx.out
          obtain ⟨j, rfl⟩ := Int.eq_ofNat_of_zero_le x0
          obtain ⟨b', off', y, rfl, hby, Hy, hy0, hy1⟩ := ha1.at_ (k := j) (by omega)
          have hyb := HVE.out y (mem_at Hy.out)
          unfold oneV at hyb
          obtain ⟨⟨y1, y2⟩, y3, y4⟩ := hyb
          have HN1 := Lib.hid (cycTo_next Hx.out Hy.out)
          have q1 : (j : Int) < (l.length : Int) := by omega
          obtain ⟨u, Hu⟩ : ∃ u, Hid ((cycTo l o k).1 = u) := ⟨_, rfl⟩
          obtain ⟨t, Ht⟩ : ∃ t, Hid ((cycTo l o k).2 = t) := ⟨_, rfl⟩
          rw [Hu.out] at u1 u2 ⊢
          rw [Ht.out] at t1 t2 ⊢
          go_wp2_with fail
          exact ⟨⟨k + 1, by omega, by go_num, by rw [HN1.out, Hu.out], by rw [HN1.out, Hu.out, Ht.out]; congr 1; show _ = max t (u + y.off_) + y.back; split <;> omega⟩, by simp [intOf]; omega⟩
        · obtain rfl : k = o.length := by omega
          go_wp2_with fail
          go_ret
          exact ⟨ret_int HO.out.symm, b1⟩

set_option maxHeartbeats 1600000 in
theorem ce_spec (A B : Option Addr) (l : List TaskV) (o : List Int) (c d : Nat) (w : World) (ha : RdTask w A l) (hb : Rd w B o) (hl : l.length ≤ 1048576) (ho : o.length ≤ 1048576) (hd : o.length ≤ d) :
    Calls Try.prog 14 #[.slice A l.length c, .slice B o.length d] w fun e w' => e = .returned (.int .i64 (cycE l o)) ∧ Below w.heap.size w w' := by
  obtain ⟨N, HN⟩ : ∃ N, Hid (cycE l o = N) := ⟨_, rfl⟩
  rw [HN.out]
  cases hv : listV l with
  | false =>
    have HQ := Lib.hid (bool_is (lv_spec A l c w ha hl) hv)
    have HO := Lib.hid (HN.out.symm.trans (cycE_no1 hv))
    clear hv
    go_enter Try.func14, Try.ntmps14
    go_wp2_with fail
    refine HQ.out.mono ?_
    rintro e w' ⟨rfl, rfl⟩
    go_wp2_with fail
    go_ret
    exact ⟨ret_int HO.out.symm, Below.refl _ _⟩
  | true =>
    have HQ := Lib.hid (bool_is (lv_spec A l c w ha hl) hv)
    obtain ⟨hve, hl6⟩ := listV_spec hv
    have HV := Lib.hid hv
    have HVE := Lib.hid hve
    clear hv hve
    by_cases hol : o.length = l.length
    · have t0 : ((o.length : Int) != (l.length : Int)) = false := by simp [hol]
      have ho6 : o.length ≤ 6 := by omega
      have HOL := Lib.hid hol
      clear hol
      go_enter Try.func14, Try.ntmps14
      go_wp2_with fail
      refine HQ.out.mono ?_
      rintro e w' ⟨rfl, rfl⟩
      go_wp2_with fail
      go_loopw [5, 6, 7] (fun u t i wr => ∃ k n : Nat, k ≤ o.length ∧ i = .int .i64 k ∧ u = .int .i64 (cycTo l o k).1 ∧ t = .int .i64 (cycTo l o k).2 ∧ Hid (permTo o l.length k = true) ∧ wr = w.drewN n) (fun _ _ i _ => o.length - (intOf i).toNat)
      case atStart => exact ⟨0, 0, by omega, rfl, rfl, rfl, rfl, rfl⟩
      case round =>
        obtain ⟨k, n, hk, rfl, rfl, rfl, HK, rfl⟩ := hrel
        obtain ⟨u1, u2, t1, t2⟩ := cycTo_bd HVE.out o k
        by_cases hlt : k < o.length
        · obtain ⟨b, off, x, rfl, hbx, Hx, hcx⟩ := hb.at_ hlt
          have HP := Lib.hid (permTo_next (n := l.length) Hx.out)
          have q0 : (0 : Int) ≤ (k : Int) := by omega
          have q1 : (k : Int) < (o.length : Int) := by omega
          have kd : k ≤ d := by omega
          by_cases hx : 0 ≤ x ∧ x ≤ (l.length : Int) - 1
          · obtain ⟨h, HH⟩ : ∃ h, Hid (hasB o k x = h) := ⟨_, rfl⟩
            have T0 := Lib.hid (fun W => l1In_t x 0 ((l.length : Int) - 1) W hx)
            have T1 := Lib.hid (fun m => bool_is (has_spec (some ⟨b, off, none⟩) o k d x (w.drewN m) (hb.drewN m) hk ho) HH.out)
            have HX := Lib.hid hx
            obtain ⟨x0, x9⟩ := hx
            cases h with
            | true =>
              have HO : Hid (N = -1) := HN.out.symm.trans (cycE_no2 (permV_no (k := k + 1) (by rw [HP.out, HH.out]; simp) (by omega)))
              go_wp2_with fail
              go_quiet ((first | (go_at_call 29; exact quiet_add_left (T0.out _)) | (go_at_call 33; exact quiet_add_left (T1.out _))))
              go_wp2_with fail
              go_ret
              exact ⟨ret_int HO.out.symm, by first | exact below_draws _ | (rw [World.drewN_drewN]; exact below_draws _)⟩
            | false =>
              have HPN : Hid (permTo o l.length (k + 1) = true) := by show _ = _; rw [HP.out, HK.out, HH.out, decide_eq_true HX.out]; rfl
              obtain ⟨j, rfl⟩ := Int.eq_ofNat_of_zero_le x0
              obtain ⟨b', off', y, rfl, hby, Hy, hy0, hy1⟩ := ha.at_ (k := j) (by omega)
              have hyb := HVE.out y (mem_at Hy.out)
              unfold oneV at hyb
              obtain ⟨⟨y1, y2⟩, y3, y4⟩ := hyb
              have HN1 := Lib.hid (cycTo_next Hx.out Hy.out)
              have q2 : (j : Int) < (l.length : Int) := by omega
              obtain ⟨u, Hu⟩ : ∃ u, Hid ((cycTo l o k).1 = u) := ⟨_, rfl⟩
              obtain ⟨t, Ht⟩ : ∃ t, Hid ((cycTo l o k).2 = t) := ⟨_, rfl⟩
              rw [Hu.out] at u1 u2 ⊢
              rw [Ht.out] at t1 t2 ⊢
              go_wp2_with fail
              go_quiet ((first | (go_at_call 29; exact quiet_add_left (T0.out _)) | (go_at_call 33; exact quiet_add_left (T1.out _))))
              go_wp2_with fail
              exact ⟨⟨k + 1, _, by omega, by go_num, by rw [HN1.out, Hu.out], by rw [HN1.out, Hu.out, Ht.out]; congr 1; show _ = max t (u + y.off_) + y.back; split <;> omega, HPN.out, rfl⟩, by simp [intOf]; omega⟩
          · have T0 := Lib.hid (fun W => l1In_f x 0 ((l.length : Int) - 1) W hx)
            have HO : Hid (N = -1) := HN.out.symm.trans (cycE_no2 (permV_no (k := k + 1) (by rw [HP.out, decide_eq_false hx]; simp) (by omega)))
            clear hx
            go_wp2_with fail
            go_quiet ((go_at_call 29; exact quiet_add_left (T0.out _)))
            go_wp2_with fail
            go_ret
            exact ⟨ret_int HO.out.symm, by first | exact below_draws _ | (rw [World.drewN_drewN]; exact below_draws _)⟩
        · obtain rfl : k = o.length := by omega
          have HO := Lib.hid (HN.out.symm.trans (cycE_yes HV.out (by rw [permV_yes HK.out]; simpa using HOL.out)))
          go_wp2_with fail
          go_ret
          exact ⟨ret_int HO.out.symm, below_draws _⟩
    · have t0 : ((o.length : Int) != (l.length : Int)) = true := by simp; omega
      have HO := Lib.hid (HN.out.symm.trans (cycE_no2 (permV_len hol)))
      clear hol
      go_enter Try.func14, Try.ntmps14
      go_wp2_with fail
      refine HQ.out.mono ?_
      rintro e w' ⟨rfl, rfl⟩
      go_wp2_with fail
      go_ret
      exact ⟨ret_int HO.out.symm, Below.refl _ _⟩
end Go.Proofs.Ytkkpegmokejfkaa
