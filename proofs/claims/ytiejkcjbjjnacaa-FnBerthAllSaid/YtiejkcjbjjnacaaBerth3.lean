/- Lists of ships at a quay that are valid: the walks. -/
import Derived.Test.YtiejkcjbjjnacaaBerth2
import Derived.Test.YtiejkcjbjjnacaaBerthF
namespace Go.Proofs.Ytiejkcjbjjnacaa
open Go.RowKit
set_option linter.unusedVariables false
set_option linter.unusedSimpArgs false

theorem okTo_bad {l : List CallV} {k : Nat} {x : CallV} (hx : l[k]? = some x) (hv : callV x = false) : okTo l (k + 1) = false := by rw [okTo_next hx, hv]; simp
theorem okTo_hit {l : List CallV} {k : Nat} {x : CallV} (hx : l[k]? = some x) (hv : (l.take k).any (fun d => clB x d) = true) : okTo l (k + 1) = false := by rw [okTo_next hx, hv]; simp
theorem okTo_good {l : List CallV} {k : Nat} {x : CallV} (hx : l[k]? = some x) (h : okTo l k = true) (hv : callV x = true) (hn : (l.take k).any (fun d => clB x d) = false) : okTo l (k + 1) = true := by rw [okTo_next hx, h, hv, hn]; rfl
theorem okTo_all {l : List CallV} {k : Nat} (h : okTo l k = true) : ∀ y ∈ l.take k, callV y = true := by
  intro y hy
  obtain ⟨j, hj⟩ := List.getElem?_of_mem hy
  rw [List.getElem?_take] at hj
  split at hj
  · next h1 => exact (okTo_valid h h1 hj).1
  · cases hj

set_option maxHeartbeats 1600000 in
theorem csv_impl (A : Option Addr) (l : List CallV) (c : Nat) (w : World) (ha : RdCall w A l) (hl : l.length ≤ 1048576) (hlc : l.length ≤ c) :
    Calls Try.prog 21 #[.slice A l.length c] w fun e w' => e = .returned (.bool (callsV l)) ∧ Below w.heap.size w w' := by
  go_enter Try.func21, Try.ntmps21
  go_wp2_with fail
  go_loopw [7] (fun i wr => ∃ k : Nat, k ≤ l.length ∧ i = .int .i64 k ∧ Hid (okTo l k = true) ∧ Below w.heap.size w wr) (fun i _ => l.length - (intOf i).toNat)
  case atStart => exact ⟨0, by omega, rfl, rfl, Below.refl _ _⟩
  case round =>
    obtain ⟨k, hk, rfl, Hk, hbw⟩ := hrel
    by_cases hlt : k < l.length
    · obtain ⟨b, off, x, rfl, hbx, Hx, hx0, hx1, hx2, hx3⟩ := (ha.below hbw).at_ (k := k) (by omega)
      have q0 : (0 : Int) ≤ (k : Int) := by omega
      have q1 : (k : Int) < (l.length : Int) := by omega
      have HBX := Lib.hid (Blk.new wr 25 #[.int .i64 x.start, .int .i64 x.hours, .int .i64 x.at_, .int .i64 x.long])
      have HBW := Lib.hid (hbw.alloc hbw.size (.cells #[.int .i64 x.start, .int .i64 x.hours, .int .i64 x.at_, .int .i64 x.long] 25))
      cases hv : callV x with
      | false =>
        have HC := Lib.hid (fun W => cv_is (cv_impl x W) hv)
        have HO := Lib.hid (callsV_no (okTo_bad Hx.out hv) (by omega))
        clear hv
        go_wp2_with fail
        refine (HC.out _).mono ?_
        rintro e w1 ⟨rfl, b1⟩
        go_wp2_with fail
        go_ret
        exact ⟨ret_bool HO.out.symm, HBW.out.trans (b1.mono HBW.out.size)⟩
      | true =>
        have HC := Lib.hid (fun W => cv_is (cv_impl x W) hv)
        have HV := Lib.hid hv
        clear hv
        go_wp2_with fail
        refine (HC.out _).mono ?_
        rintro e w1 ⟨rfl, b1⟩
        have kx := HBX.out.below b1 HBX.out.lt
        have bw1 := HBW.out.trans (b1.mono HBW.out.size)
        have HP := Lib.hid (conF_any 44 _ enters44 _ (some ⟨b, off, none⟩) l k c w1 (ha.below bw1) hk hl (pred_CallsValid x wr.heap.size w1 (l.take k) HV.out (okTo_all Hk.out) kx))
        obtain ⟨r, HR⟩ : ∃ r, Hid ((l.take k).any (fun y => clB x y) = r) := ⟨_, rfl⟩
        rw [HR.out] at HP
        have kc : k ≤ c := by omega
        clear kx hx0 hx1 hx2 hx3
        go_wp2_with fail
        refine HP.out.mono ?_
        rintro e w2 ⟨rfl, b2⟩
        have bw2 := bw1.trans (b2.mono bw1.size)
        cases r with
        | true =>
          have HO := Lib.hid (callsV_no (okTo_hit Hx.out HR.out) (by omega))
          go_wp2_with fail
          go_ret
          exact ⟨ret_bool HO.out.symm, bw2⟩
        | false =>
          go_wp2_with fail
          exact ⟨⟨k + 1, by omega, by go_num, okTo_good Hx.out Hk.out HV.out HR.out, bw2⟩, by simp [intOf]; omega⟩
    · obtain rfl : k = l.length := by omega
      go_wp2_with fail
      go_ret
      exact ⟨ret_bool (by rw [callsV_yes Hk.out, Bool.eq_iff_iff]; simp; omega), hbw⟩

set_option maxHeartbeats 1600000 in
theorem csv_spec (A : Option Addr) (l : List CallV) (c : Nat) (w : World) (ha : RdCall w A l) (hl : l.length ≤ 1048576) :
    Calls Try.prog 19 #[.slice A l.length c] w fun e w' => e = .returned (.bool (callsV l)) ∧ Below w.heap.size w w' := by
  go_enter Try.func19, Try.ntmps19
  go_wp2_with fail
  go_loopw [3] (fun i wr => ∃ k : Nat, k ≤ l.length ∧ i = .int .i64 k ∧ Hid (okTo l k = true) ∧ Below w.heap.size w wr) (fun i _ => l.length - (intOf i).toNat)
  case atStart => exact ⟨0, by omega, rfl, rfl, Below.refl _ _⟩
  case round =>
    obtain ⟨k, hk, rfl, Hk, hbw⟩ := hrel
    by_cases hlt : k < l.length
    · obtain ⟨b, off, x, rfl, hbx, Hx, hx0, hx1, hx2, hx3⟩ := (ha.below hbw).at_ (k := k) (by omega)
      have q0 : (0 : Int) ≤ (k : Int) := by omega
      have q1 : (k : Int) < (l.length : Int) := by omega
      cases hv : callV x with
      | false =>
        have HC := Lib.hid (fun W => cv_is (cv_spec x W) hv)
        have HO := Lib.hid (callsV_no (okTo_bad Hx.out hv) (by omega))
        clear hv
        go_wp2_with fail
        refine (HC.out _).mono ?_
        rintro e w1 ⟨rfl, b1⟩
        go_wp2_with fail
        go_ret
        exact ⟨ret_bool HO.out.symm, hbw.trans (b1.mono hbw.size)⟩
      | true =>
        have HC := Lib.hid (fun W => cv_is (cv_spec x W) hv)
        have HV := Lib.hid hv
        clear hv
        go_wp2_with fail
        refine (HC.out _).mono ?_
        rintro e w1 ⟨rfl, b1⟩
        have bw1 := hbw.trans (b1.mono hbw.size)
        clear hx0 hx1 hx2 hx3
        go_wp2_with fail
        go_loopw [4] (fun i wr => ∃ j : Nat, j ≤ k ∧ i = .int .i64 j ∧ Hid ((l.take j).any (fun y => clB x y) = false) ∧ Below w.heap.size w wr) (fun i _ => k - (intOf i).toNat)
        case atStart => exact ⟨0, by omega, rfl, (by simp : _ = _), bw1⟩
        case round =>
          obtain ⟨j, hj, rfl, Hj, bwj⟩ := hrel
          by_cases hlj : j < k
          · obtain ⟨b2, off2, y, e, hbb, Hy, hy0, hy1, hy2, hy3⟩ := (ha.below bwj).at_ (k := j) (by omega)
            injection e with e
            injection e with e1 e2 e3
            subst e1 e2
            obtain ⟨b2, off2, x2, e, hbb2, Hx2, hx0, hx1, hx2, hx3⟩ := (ha.below bwj).at_ (k := k) (by omega)
            injection e with e
            injection e with e1 e2 e3
            subst e1 e2
            obtain rfl : x2 = x := by have h1 := Hx.out; have h2 := Hx2.out; rw [h1] at h2; injection h2 with h2; exact h2.symm
            have HVY := Lib.hid (okTo_valid Hk.out hlj Hy.out).1
            have HCY := Lib.hid (fun W => clash_spec y x2 W)
            have HYX : Hid (clashV y x2 = clB x2 y) := by show _ = _; rw [clashV_symm, clashV_t HV.out HVY.out]
            rw [HYX.out] at HCY
            obtain ⟨r, HR⟩ : ∃ r, Hid (clB x2 y = r) := ⟨_, rfl⟩
            rw [HR.out] at HCY
            have q2 : (0 : Int) ≤ (j : Int) := by omega
            have q3 : (j : Int) < (l.length : Int) := by omega
            go_wp2_with fail
            go_region_held3 (fun w' => w'.cell? ⟨b, off + j * 4, none⟩ = some (.int .i64 y.start) ∧ w'.cell? ⟨b, off + j * 4 + 1, none⟩ = some (.int .i64 y.hours) ∧ w'.cell? ⟨b, off + j * 4 + 2, none⟩ = some (.int .i64 y.at_) ∧ w'.cell? ⟨b, off + j * 4 + 3, none⟩ = some (.int .i64 y.long) ∧ w'.cell? ⟨b, off + k * 4, none⟩ = some (.int .i64 x2.start) ∧ w'.cell? ⟨b, off + k * 4 + 1, none⟩ = some (.int .i64 x2.hours) ∧ w'.cell? ⟨b, off + k * 4 + 2, none⟩ = some (.int .i64 x2.at_) ∧ w'.cell? ⟨b, off + k * 4 + 3, none⟩ = some (.int .i64 x2.long)) (first | exact ⟨(b2.cell (p := ⟨b, off + j * 4, none⟩) hbb).trans hy0, (b2.cell (p := ⟨b, off + j * 4 + 1, none⟩) hbb).trans hy1, (b2.cell (p := ⟨b, off + j * 4 + 2, none⟩) hbb).trans hy2, (b2.cell (p := ⟨b, off + j * 4 + 3, none⟩) hbb).trans hy3, (b2.cell (p := ⟨b, off + k * 4, none⟩) hbb).trans hx0, (b2.cell (p := ⟨b, off + k * 4 + 1, none⟩) hbb).trans hx1, (b2.cell (p := ⟨b, off + k * 4 + 2, none⟩) hbb).trans hx2, (b2.cell (p := ⟨b, off + k * 4 + 3, none⟩) hbb).trans hx3⟩ | go_keep) (first | (go_at_call 16; refine (HCY.out _).mono ?_; rintro e w2 ⟨rfl, b2⟩))
            have bw2 : Below w.heap.size w w2 := (below_drewN bwj _).trans (b2.mono (below_drewN bwj _).size)
            clear hy0 hy1 hy2 hy3 hx0 hx1 hx2 hx3
            cases r with
            | true =>
              have HO := Lib.hid (callsV_no (okTo_hit Hx2.out (any_hit Hy.out hlj HR.out)) (by omega))
              go_wp2_with fail
              go_ret
              exact ⟨ret_bool HO.out.symm, bw2⟩
            | false =>
              go_wp2_with fail
              exact ⟨⟨j + 1, by omega, by go_num, by show _ = _; rw [any_next Hy.out, Hj.out, HR.out]; rfl, bw2⟩, by simp [intOf]; omega⟩
          · obtain rfl : j = k := by omega
            go_wp2_with fail
            exact ⟨⟨j + 1, by omega, by go_num, okTo_good Hx.out Hk.out HV.out Hj.out, bwj⟩, by simp [intOf]; omega⟩
    · obtain rfl : k = l.length := by omega
      go_wp2_with fail
      go_ret
      exact ⟨ret_bool (by rw [callsV_yes Hk.out, Bool.eq_iff_iff]; simp; omega), hbw⟩
end Go.Proofs.Ytiejkcjbjjnacaa
