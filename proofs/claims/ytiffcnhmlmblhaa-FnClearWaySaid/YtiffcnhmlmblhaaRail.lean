/- What the program's and the reference's functions on rails compute: the walks. -/
import Derived.Test.YtiffcnhmlmblhaaRailLaw
import Derived.Test.YtiffcnhmlmblhaaCloneInt
namespace Go.Proofs.Ytiffcnhmlmblhaa
open Go.RowKit
set_option linter.unusedVariables false

set_option maxHeartbeats 800000 in
theorem rv_impl (A : Option Addr) (l : List Int) (c : Nat) (w : World) (ha : Rd w A l) (hl : l.length ≤ 1048576) :
    Calls Try.prog 13 #[.slice A l.length c] w fun e w' => e = .returned (.bool (railV l)) ∧ w = w' := by
  go_enter Try.func13, Try.ntmps13
  go_wp2_with fail
  go_loop [7] (fun i => ∃ k : Nat, k ≤ l.length ∧ i = .int .i64 k ∧ Hid (∀ i, i < k → railOk l i)) (fun i => l.length - (intOf i).toNat)
  case atStart => exact ⟨0, by omega, rfl, fun i hi => absurd hi (by omega)⟩
  case round =>
    obtain ⟨k, hk, rfl, Hk⟩ := hrel
    by_cases hlt : k < l.length
    · obtain ⟨b, off, x, rfl, hbx, Hx, hcx⟩ := ha.at_ hlt
      by_cases hx : 0 ≤ x ∧ x ≤ 20
      · by_cases h0 : k = 0
        · subst h0
          rw [Nat.add_zero] at hcx
          have HO : Hid (railOk l 0) := ⟨by rw [getD_at Hx.out]; exact hx.1, by rw [getD_at Hx.out]; exact hx.2, fun h => absurd h (by omega)⟩
          go_wp2_with (go_at_call 37; refine (within_t _ _ _ _ hx).mono ?_; rintro e w' ⟨rfl, rfl⟩)
          exact ⟨⟨1, by omega, rfl, railOk_next Hk.out HO.out⟩, by simp [intOf]; omega⟩
        · obtain ⟨j, rfl⟩ : ∃ j, k = j + 1 := ⟨k - 1, by omega⟩
          obtain ⟨b', off', y, e, hby, Hy, hcy⟩ := ha.at_ (k := j) (by omega)
          injection e with e
          injection e with e1 e2 e3
          subst e1 e2
          have hy := (Hk.out j (by omega))
          unfold railOk at hy
          rw [getD_at Hy.out] at hy
          obtain ⟨y0, y9, _⟩ := hy
          by_cases hg : y + 2 ≤ x
          · have HO : Hid (railOk l (j + 1)) := ⟨by rw [getD_at Hx.out]; exact hx.1, by rw [getD_at Hx.out]; exact hx.2, fun h => by rw [getD_at Hx.out, show j + 1 - 1 = j from by omega, getD_at Hy.out]; exact hg⟩
            go_wp2_with (go_at_call 37; refine (within_t _ _ _ _ hx).mono ?_; rintro e w' ⟨rfl, rfl⟩)
            exact ⟨⟨j + 2, by omega, by go_num, railOk_next Hk.out HO.out⟩, by simp [intOf]; omega⟩
          · have HO : Hid (¬ railOk l (j + 1)) := fun h => hg (by have := h.2.2 (by omega); rwa [getD_at Hx.out, show j + 1 - 1 = j from by omega, getD_at Hy.out] at this)
            go_wp2_with (go_at_call 37; refine (within_t _ _ _ _ hx).mono ?_; rintro e w' ⟨rfl, rfl⟩)
            go_ret
            exact ⟨ret_bool (railV_no hlt HO.out).symm, rfl⟩
      · have HO : Hid (¬ railOk l k) := fun h => hx (by have h1 := h.1; have h2 := h.2.1; rw [getD_at Hx.out] at h1 h2; exact ⟨h1, h2⟩)
        go_wp2_with (go_at_call 37; refine (within_f _ _ _ _ hx).mono ?_; rintro e w' ⟨rfl, rfl⟩)
        go_ret
        exact ⟨ret_bool (railV_no hlt HO.out).symm, rfl⟩
    · go_wp2_with (go_at_call 37; refine (within_any _ _ _ _).mono ?_; rintro e w' ⟨rfl, rfl⟩)
      go_ret
      exact ⟨ret_bool (by rw [railV_yes Hk.out (by omega), Bool.eq_iff_iff]; simp; omega), rfl⟩

set_option maxHeartbeats 1600000 in
theorem rv_spec (A : Option Addr) (l : List Int) (c : Nat) (w : World) (ha : Rd w A l) (hl : l.length ≤ 1048576) :
    Calls Try.prog 11 #[.slice A l.length c] w fun e w' => e = .returned (.bool (railV l)) ∧ ∃ n, w' = w.drewN n := by
  go_enter Try.func11, Try.ntmps11
  go_wp2_with fail
  go_loopw [3] (fun i wr => ∃ k n : Nat, k ≤ l.length ∧ i = .int .i64 k ∧ wr = w.drewN n ∧ Hid (∀ i, i < k → railOk l i)) (fun i _ => l.length - (intOf i).toNat)
  case atStart => exact ⟨0, 0, by omega, rfl, rfl, fun i hi => absurd hi (by omega)⟩
  case round =>
    obtain ⟨k, n, hk, rfl, rfl, Hk⟩ := hrel
    by_cases hlt : k < l.length
    · obtain ⟨b, off, x, rfl, hbx, Hx, hcx⟩ := ha.at_ hlt
      have p0 : (0 : Int) ≤ (k : Int) := by omega
      have p1 : (k : Int) < (l.length : Int) := by omega
      by_cases hx : 0 ≤ x ∧ x ≤ 20
      · by_cases h0 : k = 0
        · subst h0
          rw [Nat.add_zero] at hcx
          have HO : Hid (railOk l 0) := ⟨by rw [getD_at Hx.out]; exact hx.1, by rw [getD_at Hx.out]; exact hx.2, fun h => absurd h (by omega)⟩
          have hd0 : decide ((0 : Int) < 0) = false := by decide
          go_wp2_with fail
          go_quiet ((go_at_call 36; exact quiet_add_left (l1In_t _ _ _ _ hx)))
          go_wp2
          exact ⟨⟨1, _, by omega, rfl, rfl, railOk_next Hk.out HO.out⟩, by simp [intOf]; omega⟩
        · obtain ⟨j, rfl⟩ : ∃ j, k = j + 1 := ⟨k - 1, by omega⟩
          obtain ⟨b', off', y, e, hby, Hy, hcy⟩ := ha.at_ (k := j) (by omega)
          injection e with e
          injection e with e1 e2 e3
          subst e1 e2
          have hy := (Hk.out j (by omega))
          unfold railOk at hy
          rw [getD_at Hy.out] at hy
          obtain ⟨y0, y9, _⟩ := hy
          have r0 : (0 : Int) ≤ (j : Int) := by omega
          have r1 : (j : Int) < (l.length : Int) := by omega
          by_cases hg : y + 2 ≤ x
          · have HO : Hid (railOk l (j + 1)) := ⟨by rw [getD_at Hx.out]; exact hx.1, by rw [getD_at Hx.out]; exact hx.2, fun h => by rw [getD_at Hx.out, show j + 1 - 1 = j from by omega, getD_at Hy.out]; exact hg⟩
            have hd0 : decide ((0 : Int) < (j : Int) + 1) = true := decide_eq_true (by omega)
            have hd1 : decide (x - y < 2) = false := decide_eq_false (by omega)
            go_wp2_with fail
            go_quiet ((go_at_call 36; exact quiet_add_left (l1In_t _ _ _ _ hx)))
            go_wp2
            exact ⟨⟨j + 2, _, by omega, by go_num, rfl, railOk_next Hk.out HO.out⟩, by simp [intOf]; omega⟩
          · have HO : Hid (¬ railOk l (j + 1)) := fun h => hg (by have := h.2.2 (by omega); rwa [getD_at Hx.out, show j + 1 - 1 = j from by omega, getD_at Hy.out] at this)
            have hd0 : decide ((0 : Int) < (j : Int) + 1) = true := decide_eq_true (by omega)
            have hd1 : decide (x - y < 2) = true := decide_eq_true (by omega)
            go_wp2_with fail
            go_quiet ((go_at_call 36; exact quiet_add_left (l1In_t _ _ _ _ hx)))
            go_wp2
            go_ret
            exact ⟨ret_bool (railV_no hlt HO.out).symm, _, World.drewN_drewN _ _ _⟩
      · have HO : Hid (¬ railOk l k) := fun h => hx (by have h1 := h.1; have h2 := h.2.1; rw [getD_at Hx.out] at h1 h2; exact ⟨h1, h2⟩)
        go_wp2_with fail
        go_quiet ((go_at_call 36; exact quiet_add_left (l1In_f _ _ _ _ hx)))
        go_wp2
        go_ret
        exact ⟨ret_bool (railV_no hlt HO.out).symm, _, World.drewN_drewN _ _ _⟩
    · go_wp2_with (go_at_call 36; refine (l1In_any _ _ _ _).mono ?_; rintro e w' ⟨rfl, rfl⟩)
      go_ret
      exact ⟨ret_bool (by rw [railV_yes Hk.out (by omega), Bool.eq_iff_iff]; simp; omega), _, rfl⟩

theorem rv_is {A : Option Addr} {l : List Int} {c : Nat} {w : World} {r : Bool} (ha : Rd w A l) (hl : l.length ≤ 1048576) (e : railV l = r) :
    Calls Try.prog 13 #[.slice A l.length c] w fun e w' => e = .returned (.bool r) ∧ w = w' := (rv_impl A l c w ha hl).mono fun _ _ ⟨he, hw⟩ => ⟨he.trans (ret_bool e), hw⟩
theorem rs_is {A : Option Addr} {l : List Int} {c : Nat} {w : World} {r : Bool} (ha : Rd w A l) (hl : l.length ≤ 1048576) (e : railV l = r) :
    Calls Try.prog 11 #[.slice A l.length c] w fun e w' => e = .returned (.bool r) ∧ ∃ n, w' = w.drewN n := (rv_spec A l c w ha hl).mono fun _ _ ⟨he, hw⟩ => ⟨he.trans (ret_bool e), hw⟩

set_option maxHeartbeats 800000 in
theorem drive_any (lo hi : Nat) (A : Option Addr) (r : List Int) (c : Nat) (cr t : Int) (w : World) (ha : Own 3 w lo hi A r) (hh : hi ≤ w.heap.size) (hl : r.length ≤ 1048576) :
    Calls Try.prog 39 #[.slice A r.length c, .agg #[.int .i64 cr, .int .i64 t]] w fun e w' => e = .returned (.bool (driveV r cr t)) ∧ Own 3 w' lo hi A (driveTo r cr t) ∧ Chg lo hi w w' := by
  by_cases hc : 0 ≤ cr ∧ cr ≤ (r.length : Int) - 1
  · obtain ⟨i, rfl⟩ := Int.eq_ofNat_of_zero_le hc.1
    have hi1 : i < r.length := by omega
    have g9 := hc.2
    rcases ha with rfl | ⟨g, cs, rfl, g1, g2, hblk, hcs⟩
    · simp at hi1
    · have hx := List.getElem?_eq_getElem hi1
      obtain ⟨x, hx⟩ : ∃ x, r[i]? = some x := ⟨_, hx⟩
      have hc0 := (hblk.cell i).trans (hcs i x hx)
      have hf0 := hblk.frozen i
      have hgl := hblk.lt
      have hne : ¬ g = w.heap.size := by omega
      have HB : Hid (Blk ((w.setCell ⟨g, i, none⟩ (.int .i64 t)).alloc (.cells #[.int .i64 (i : Int), .int .i64 t] 30)) g 3 (cs.setIfInBounds i (.int .i64 t))) := (hblk.set_ i _).alloc _
      have HS : Hid (∀ (k : Nat) (x : Int), (r.set i t)[k]? = some x → (cs.setIfInBounds i (.int .i64 t))[k]? = some (.int .i64 x)) := cells_set t hi1 hcs
      have HRd : Hid (Rd ((w.setCell ⟨g, i, none⟩ (.int .i64 t)).alloc (.cells #[.int .i64 (i : Int), .int .i64 t] 30)) (some ⟨g, 0, none⟩) (r.set i t)) := (Own.of_blk (lo := lo) (hi := hi) HB.out g1 g2 HS.out).rd
      have HC : Hid (Chg lo hi w ((w.setCell ⟨g, i, none⟩ (.int .i64 t)).alloc (.cells #[.int .i64 (i : Int), .int .i64 t] 30))) := ((Chg.refl _ _ _).setCell g1 g2 _).alloc _
      have HRV : Hid (∀ q, railV (r.set i t) = q → Calls Try.prog 13 #[.slice (some ⟨g, 0, none⟩) r.length c] ((w.setCell ⟨g, i, none⟩ (.int .i64 t)).alloc (.cells #[.int .i64 (i : Int), .int .i64 t] 30)) fun e w' => e = .returned (.bool q) ∧ (w.setCell ⟨g, i, none⟩ (.int .i64 t)).alloc (.cells #[.int .i64 (i : Int), .int .i64 t] 30) = w') := fun q e => by
        have h := rv_is (c := c) HRd.out (by simpa using hl) e
        rwa [List.length_set] at h
      have HX : Hid (r.set i x = r) := by
        obtain ⟨h1, h2⟩ := List.getElem?_eq_some_iff.1 hx
        show r.set i x = r
        rw [← h2]; exact List.set_getElem_self h1
      have HI : Hid ((i : Int).toNat = i) := Int.toNat_natCast i
      cases hv : railV (r.set i t)
      · have HV := Lib.hid (p := driveV r i t = false) (by unfold driveV; rw [HI.out, hv, Bool.and_false])
        have HT := Lib.hid (p := driveTo r i t = r) (by unfold driveTo; rw [HV.out]; rfl)
        have HQ := Lib.hid (HRV.out false hv)
        have HS2 : Hid (∀ (k : Nat) (y : Int), r[k]? = some y → ((cs.setIfInBounds i (.int .i64 t)).setIfInBounds i (.int .i64 x))[k]? = some (Value.int .i64 y)) := by
          have h := cells_set x (by simpa using hi1) HS.out
          rw [List.set_set, HX.out] at h
          exact h
        clear hv HRV HX
        go_enter Try.func39, Try.ntmps39
        go_wp2_with (first | (go_at_call 37; refine (within_t _ _ _ _ hc).mono ?_; rintro e w' ⟨rfl, rfl⟩) | (go_at_call 13; refine HQ.out.mono ?_; rintro e w' ⟨rfl, rfl⟩))
        go_ret
        exact ⟨ret_bool HV.out.symm, by rw [HT.out]; exact Own.of_blk (((hblk.set_ i _).set_ i _).alloc _) g1 g2 HS2.out, (((Chg.refl _ _ _).setCell g1 g2 _).setCell g1 g2 _).alloc _⟩
      · have HV := Lib.hid (p := driveV r i t = true) (by unfold driveV; rw [HI.out, hv, Bool.and_true]; simp; omega)
        have HT := Lib.hid (p := driveTo r i t = r.set i t) (by unfold driveTo; rw [if_pos HV.out, HI.out])
        have HQ := Lib.hid (HRV.out true hv)
        clear hv HRV HX
        go_enter Try.func39, Try.ntmps39
        go_wp2_with (first | (go_at_call 37; refine (within_t _ _ _ _ hc).mono ?_; rintro e w' ⟨rfl, rfl⟩) | (go_at_call 13; refine HQ.out.mono ?_; rintro e w' ⟨rfl, rfl⟩))
        go_ret
        exact ⟨ret_bool HV.out.symm, by rw [HT.out]; exact Own.of_blk HB.out g1 g2 HS.out, HC.out⟩
  · have HV := Lib.hid (p := driveV r cr t = false) (by unfold driveV; rw [decide_eq_false (by omega)]; rfl)
    have HT := Lib.hid (p := driveTo r cr t = r) (by unfold driveTo; rw [HV.out]; rfl)
    go_enter Try.func39, Try.ntmps39
    go_wp2_with (go_at_call 37; refine (within_f _ _ _ _ hc).mono ?_; rintro e w' ⟨rfl, rfl⟩)
    go_ret
    exact ⟨ret_bool HV.out.symm, by rw [HT.out]; exact ha.below ((Below.refl _ _).alloc (Nat.le_refl _) _) hh, (Chg.refl _ _ _).alloc _⟩

def DroveDo (r : List Int) (cr t : Int) (w : World) (e : Ending) (w' : World) : Prop :=
  ∃ A m c b, e = .returned (.tuple #[.slice A m c, .bool b]) ∧ ((railV r = true ∧ m = r.length ∧ b = driveV r cr t ∧ Own 3 w' w.heap.size w'.heap.size A (driveTo r cr t)) ∨ (railV r = false ∧ m = 0 ∧ b = false)) ∧ Below w.heap.size w w'

set_option maxHeartbeats 800000 in
theorem dd_impl (A : Option Addr) (r : List Int) (c : Nat) (cr t : Int) (w : World) (ha : Rd w A r) (hl : r.length ≤ 1048576) :
    Calls Try.prog 17 #[.slice A r.length c, .agg #[.int .i64 cr, .int .i64 t]] w (DroveDo r cr t w) := by
  have hw := ha.alloc (.cells #[.int .i64 cr, .int .i64 t] 30)
  cases hv : railV r
  · have HQ := Lib.hid (rv_is (c := c) hw hl hv)
    have HV := Lib.hid hv
    clear hv
    go_enter Try.func17, Try.ntmps17
    go_wp2_with (go_at_call 13; refine HQ.out.mono ?_; rintro e w' ⟨rfl, rfl⟩)
    go_ret2
    exact ⟨none, 0, 0, false, rfl, .inr ⟨HV.out, rfl, rfl⟩, (Below.refl _ _).alloc (Nat.le_refl _) _⟩
  · have HQ := Lib.hid (rv_is (c := c) hw hl hv)
    have HV := Lib.hid hv
    clear hv
    go_enter Try.func17, Try.ntmps17
    go_wp2_with (go_at_call 13; refine HQ.out.mono ?_; rintro e w' ⟨rfl, rfl⟩)
    refine (clone_any A r c _ hw hl).mono ?_
    rintro e w1 ⟨A1, c1, rfl, hc1, o1, b1⟩
    have hc0 : w1.cell? ⟨w.heap.size, 0, none⟩ = some (.int .i64 cr) := (b1.cell (p := ⟨w.heap.size, 0, none⟩) (by simp)).trans (by simp [(Blk.new w 30 #[.int .i64 cr, .int .i64 t]).cell 0])
    have hc2 : w1.cell? ⟨w.heap.size, 1, none⟩ = some (.int .i64 t) := (b1.cell (p := ⟨w.heap.size, 1, none⟩) (by simp)).trans (by simp [(Blk.new w 30 #[.int .i64 cr, .int .i64 t]).cell 1])
    go_wp2_with fail
    refine (drive_any _ _ A1 r c1 cr t w1 o1 (Nat.le_refl _) hl).mono ?_
    rintro e w2 ⟨rfl, o2, g2⟩
    go_wp2_with fail
    go_ret2
    have bb : Below w.heap.size w w2 := (((Below.refl _ _).alloc (Nat.le_refl _) _).trans (b1.mono (by simp))).trans (g2.below (by simp) (by have := b1.size; simp at this; omega))
    exact ⟨A1, r.length, c1, _, rfl, .inl ⟨HV.out, rfl, rfl, o2.wide (by simp) g2.size⟩, bb⟩

theorem Rd.some_ {w : World} {A : Option Addr} {l : List Int} (h : Rd w A l) (hl : 1 ≤ l.length) : ∃ b off, A = some ⟨b, off, none⟩ := by
  obtain ⟨b, off, e, _⟩ := h 0 _ (List.getElem?_eq_getElem (by omega)); exact ⟨b, off, e⟩

set_option maxHeartbeats 1600000 in
theorem dd_spec (A : Option Addr) (r : List Int) (c : Nat) (cr t : Int) (w : World) (ha : Rd w A r) (hl : r.length ≤ 1048576) :
    Calls Try.prog 15 #[.slice A r.length c, .agg #[.int .i64 cr, .int .i64 t]] w (DroveDo r cr t w) := by
  obtain ⟨i0, hi, hz0, hz1, hz2⟩ := info_parts info_int
  have hw := ha.alloc (.cells #[.int .i64 cr, .int .i64 t] 30)
  have hbx := Blk.new w 30 #[.int .i64 cr, .int .i64 t]
  cases hv : railV r
  · have HQ := Lib.hid (rs_is (c := c) hw hl hv)
    have HV := Lib.hid hv
    clear hv
    go_enter Try.func15, Try.ntmps15
    go_wp2_with fail
    refine HQ.out.mono ?_
    rintro e w1 ⟨rfl, n, rfl⟩
    go_wp2_with fail
    go_ret2
    exact ⟨_, 0, 0, false, rfl, .inr ⟨HV.out, rfl, rfl⟩, (below_drewN ((Below.refl _ _).alloc (Nat.le_refl _) _) _).alloc (by simp) _⟩
  · have HQ := Lib.hid (rs_is (c := c) hw hl hv)
    have HV := Lib.hid hv
    obtain ⟨_, l1, l4⟩ := railV_spec hv
    clear hv
    obtain ⟨b, off, rfl⟩ := ha.some_ l1
    go_enter Try.func15, Try.ntmps15
    go_wp2_with fail
    refine HQ.out.mono ?_
    rintro e w1 ⟨rfl, n, rfl⟩
    have hw1 := hw.drewN n
    have hbx1 := hbx.drewN n
    generalize hW : (w.alloc (.cells #[.int .i64 cr, .int .i64 t] 30)).drewN n = W at *
    have BW : Hid (Below w.heap.size w W) := by rw [← hW]; exact below_drewN ((Below.refl _ _).alloc (Nat.le_refl _) _) _
    have BS : w.heap.size + 1 ≤ W.heap.size := by rw [← hW]; simp
    clear hW hw hbx
    go_wp2_with (at_builtin; refine wpList_append_own _ rfl _ _ 22 rfl W.heap.size 3 i0 (.int .i64 0) 1 8 Try.underlying22 hi hz0 hz1 hz2 rfl (by decide) _ 0 [] rfl (World.ownsRow_lit W #[] 0 (Nat.le_refl _) (by unfold maxLen; omega) rfl) ⟨b, off, none⟩ r.length c (r.map (Value.int .i64)) rfl (by simp) (hw1.news (cell_alloc_old _)) (ints_oneCell .i64 r) ?c3 ?c4 ?c5 ?_)
    case c3 => unfold maxLen; omega
    case c4 => omega
    case c5 => simp
    intro v1 w1 hown1 hgrow _
    have K1 : w1.ownsRow W.heap.size 3 1 v1 r.length (r.map (Value.int .i64)) := by simpa using hown1
    have b1 : Below W.heap.size W w1 := ((Below.refl _ _).alloc (Nat.le_refl _) _).grown hgrow (by simp) (fun k e => by simp [Value.ownBlock] at e; omega)
    obtain ⟨A1, c1, rfl, hc1⟩ := own_slice K1
    have o1 : Own 3 w1 W.heap.size w1.heap.size A1 r := Own.of_row K1 (Nat.le_refl _)
    clear hown1 hgrow K1
    rcases o1 with rfl | ⟨g, cs, rfl, g1, g2, hblk, hcs⟩
    · simp at l1
    have hbx2 := hbx1.below b1 (by omega)
    have hc0 := hbx2.cell 0
    have hc2 := hbx2.cell 1
    simp at hc0 hc2
    have hne : ¬ g = w.heap.size := by omega
    by_cases hc : 0 ≤ cr ∧ cr ≤ (r.length : Int) - 1
    · obtain ⟨i, rfl⟩ := Int.eq_ofNat_of_zero_le hc.1
      have hi1 : i < r.length := by omega
      have g9 := hc.2
      obtain ⟨x, hx⟩ : ∃ x, r[i]? = some x := ⟨_, List.getElem?_eq_getElem hi1⟩
      have hci := (hblk.cell i).trans (hcs i x hx)
      have hfi := hblk.frozen i
      clear hx
      go_wp2_with fail
      refine (l1In_t _ _ _ _ hc).mono ?_
      rintro e w' ⟨rfl, rfl⟩
      go_wp2_with fail
      have HS : Hid (∀ (k : Nat) (x : Int), (r.set i t)[k]? = some x → (cs.setIfInBounds i (.int .i64 t))[k]? = some (.int .i64 x)) := cells_set t hi1 hcs
      have hblk2 := hblk.set_ i (.int .i64 t)
      have HRd : Hid (Rd (w1.setCell ⟨g, i, none⟩ (.int .i64 t)) (some ⟨g, 0, none⟩) (r.set i t)) := (Own.of_blk (lo := W.heap.size) (hi := w1.heap.size) hblk2 g1 g2 HS.out).rd
      have B2 : Hid (Below w.heap.size w (w1.setCell ⟨g, i, none⟩ (.int .i64 t))) := (BW.out.trans (b1.mono (by omega))).setCell (by simp; omega) _
      have hs2 : w1.heap.size ≤ (w1.setCell ⟨g, i, none⟩ (.int .i64 t)).heap.size := by simp [World.setCell]
      have ha2 : Hid (Rd (w1.setCell ⟨g, i, none⟩ (.int .i64 t)) (some ⟨b, off, none⟩) r) := (ha.below B2.out)
      have HI : Hid ((i : Int).toNat = i) := Int.toNat_natCast i
      generalize hW2 : w1.setCell ⟨g, i, none⟩ (.int .i64 t) = W2 at *
      clear hW2
      cases hvv : railV (r.set i t)
      · have HQ2 := Lib.hid (rs_is (c := c1) HRd.out (by simpa using hl) hvv)
        rw [List.length_set] at HQ2
        have HVV := Lib.hid (p := driveV r i t = false) (by unfold driveV; rw [HI.out, hvv, Bool.and_false])
        have HT := Lib.hid (p := driveTo r i t = r) (by unfold driveTo; rw [HVV.out]; rfl)
        clear hvv
        refine HQ2.out.mono ?_
        rintro e w' ⟨rfl, n2, rfl⟩
        go_wp2_with (at_builtin; refine wpList_append_own _ rfl _ _ 22 rfl W2.heap.size 3 i0 (.int .i64 0) 1 8 Try.underlying22 hi hz0 hz1 hz2 rfl (by decide) _ 0 [] rfl (World.ownsRow_lit (W2.drewN n2) #[] 0 (Nat.le_refl _) (by unfold maxLen; omega) rfl) ⟨b, off, none⟩ r.length c (r.map (Value.int .i64)) rfl (by simp) ((ha2.out.drewN n2).news (cell_alloc_old _)) (ints_oneCell .i64 r) ?c3 ?c4 ?c5 ?_)
        case c3 => unfold maxLen; omega
        case c4 => omega
        case c5 => simp
        intro v3 w3 hown3 hgrow3 _
        have K3 : w3.ownsRow W2.heap.size 3 1 v3 r.length (r.map (Value.int .i64)) := by simpa using hown3
        have B3 : Hid (Below w.heap.size w w3) := B2.out.trans ((((below_draws n2).alloc (Nat.le_refl _) _).grown hgrow3 (by simp) (fun k e => by simp [Value.ownBlock] at e; omega)).mono B2.out.size)
        obtain ⟨A3, c3, rfl, hc3⟩ := own_slice K3
        have o3 : Hid (Own 3 w3 W2.heap.size w3.heap.size A3 r) := Own.of_row K3 (Nat.le_refl _)
        clear hown3 hgrow3 K3
        go_wp2_with fail
        go_ret2
        exact ⟨_, r.length, c3, false, rfl, .inl ⟨HV.out, rfl, HVV.out.symm, by rw [HT.out]; exact o3.out.wide B2.out.size (Nat.le_refl _)⟩, B3.out⟩
      · have HQ2 := Lib.hid (rs_is (c := c1) HRd.out (by simpa using hl) hvv)
        rw [List.length_set] at HQ2
        have HVV := Lib.hid (p := driveV r i t = true) (by unfold driveV; rw [HI.out, hvv, Bool.and_true]; simp; omega)
        have HT := Lib.hid (p := driveTo r i t = r.set i t) (by unfold driveTo; rw [if_pos HVV.out, HI.out])
        clear hvv
        refine HQ2.out.mono ?_
        rintro e w' ⟨rfl, n2, rfl⟩
        go_wp2_with fail
        go_ret2
        exact ⟨_, r.length, c1, true, rfl, .inl ⟨HV.out, rfl, HVV.out.symm, by rw [HT.out]; exact Own.of_blk (hblk2.drewN n2) (by omega) (by show g < W2.heap.size; omega) HS.out⟩, below_drewN B2.out n2⟩
    · have HVV := Lib.hid (p := driveV r cr t = false) (by unfold driveV; rw [decide_eq_false (by omega)]; rfl)
      have HT := Lib.hid (p := driveTo r cr t = r) (by unfold driveTo; rw [HVV.out]; rfl)
      go_wp2_with fail
      refine (l1In_f _ _ _ _ hc).mono ?_
      rintro e w' ⟨rfl, rfl⟩
      go_wp2_with fail
      go_ret2
      exact ⟨_, r.length, c1, false, rfl, .inl ⟨HV.out, rfl, HVV.out.symm, by rw [HT.out]; exact Own.of_blk hblk (by omega) g2 hcs⟩, BW.out.trans (b1.mono (by omega))⟩
end Go.Proofs.Ytiffcnhmlmblhaa
