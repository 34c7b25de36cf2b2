/- The next slot whose row is lightest, of the program and of the reference. -/
import Derived.Test.YtphncbnnnickhaaRowsW
namespace Go.Proofs.Ytphncbnnnickhaa
open Go.RowKit
set_option linter.unusedVariables false
set_option linter.unusedSimpArgs false

def wRow (Wt : List Int) (t : Nat) (s : Int) : Int := Wt.getD (s.toNat / t) 0
def lightTo (Wt NX : List Int) (t : Nat) : Nat → Int
  | 0 => -1
  | k + 1 => match NX[k]? with
    | some s => if lightTo Wt NX t k < 0 ∨ wRow Wt t s < wRow Wt t (lightTo Wt NX t k) then s else lightTo Wt NX t k
    | none => lightTo Wt NX t k
def lightS (h : HullV) (l : List BoxV) (pl : List Int) : Int := lightTo (rowsS h l pl) (nextS h l pl) (tiersV h) (nextS h l pl).length
theorem lightTo_next {Wt NX : List Int} {t k : Nat} {s : Int} (hx : NX[k]? = some s) : lightTo Wt NX t (k + 1) = if lightTo Wt NX t k < 0 ∨ wRow Wt t s < wRow Wt t (lightTo Wt NX t k) then s else lightTo Wt NX t k := by
  show (match NX[k]? with | some s => _ | none => _) = _
  rw [hx]
theorem lightTo_mem (Wt NX : List Int) (t : Nat) : ∀ k, lightTo Wt NX t k = -1 ∨ lightTo Wt NX t k ∈ NX := by
  intro k
  induction k with
  | zero => exact .inl rfl
  | succ k ih =>
    cases hx : NX[k]? with
    | none =>
      have e : lightTo Wt NX t (k + 1) = lightTo Wt NX t k := by
        show (match NX[k]? with | some s => _ | none => _) = _
        rw [hx]
      rw [e]; exact ih
    | some s =>
      rw [lightTo_next hx]
      split
      · exact .inr (mem_at hx)
      · exact ih
theorem nextTo_mem {T : Int} {pl : List Int} : ∀ {k : Nat} {x : Int}, x ∈ nextTo T pl k → ∃ i : Nat, x = (i : Int) ∧ i < k ∧ i < pl.length ∧ pl[i]? = some 0 ∧ ((i : Int) % T = 0 ∨ pl[i - 1]? ≠ some 0) := by
  intro k
  induction k with
  | zero => intro x hx; simp [nextTo] at hx
  | succ k ih =>
    intro x hx
    cases hp : pl[k]? with
    | none =>
      have e : nextTo T pl (k + 1) = nextTo T pl k := by
        show (match pl[k]? with | some s => _ | none => _) = _
        rw [hp]
      rw [e] at hx
      obtain ⟨i, a, b, c⟩ := ih hx
      exact ⟨i, a, by omega, c⟩
    | some id =>
      by_cases hc : id = 0 ∧ ((k : Int) % T = 0 ∨ pl[k - 1]? ≠ some 0)
      · rw [nextTo_yes hp hc.1 hc.2] at hx
        rcases List.mem_append.1 hx with h1 | h1
        · obtain ⟨i, a, b, c⟩ := ih h1
          exact ⟨i, a, by omega, c⟩
        · rw [List.mem_singleton.1 h1]
          exact ⟨k, rfl, by omega, (List.getElem?_eq_some_iff.1 hp).1, by rw [hp, hc.1], hc.2⟩
      · rw [nextTo_no hp hc] at hx
        obtain ⟨i, a, b, c⟩ := ih hx
        exact ⟨i, a, by omega, c⟩
theorem nextS_mem {h : HullV} {l : List BoxV} {pl : List Int} {x : Int} (hx : x ∈ nextS h l pl) : pvS h l pl = true ∧ ∃ i : Nat, x = (i : Int) ∧ i < pl.length ∧ pl[i]? = some 0 ∧ ((i : Int) % h.tiers = 0 ∨ pl[i - 1]? ≠ some 0) := by
  unfold nextS at hx
  split at hx
  · next hv =>
    obtain ⟨i, a, _, c⟩ := nextTo_mem hx
    exact ⟨hv, i, a, c⟩
  · simp at hx
/-- The row of a slot, and its weight. -/
theorem row_of {h : HullV} {l : List BoxV} {pl : List Int} (hv : pvS h l pl = true) {i : Nat} (hi : i < pl.length) : (i : Int) / h.tiers = ((i / tiersV h : Nat) : Int) ∧ i / tiersV h < (rowsS h l pl).length ∧ (rowsS h l pl)[i / tiersV h]? = some (wRow (rowsS h l pl) (tiersV h) (i : Int)) := by
  obtain ⟨n1, n2, n3, n4, n5, n6, n7⟩ := hull_nat (pv_of hv).1
  have hn : pl.length = rowsV h * tiersV h := by rw [← n3]; exact (pv_of hv).2.2.1
  have e : rowsS h l pl = rowsTo l (tiersV h) pl (rowsV h) pl.length := by unfold rowsS; rw [if_pos hv]
  have hlt : i / tiersV h < rowsV h := (Nat.div_lt_iff_lt_mul (by omega)).2 (by omega)
  have hl : i / tiersV h < (rowsS h l pl).length := by rw [e, rowsTo_length]; exact hlt
  refine ⟨by rw [n1]; exact (Int.natCast_ediv _ _).symm, hl, ?_⟩
  unfold wRow
  rw [Int.toNat_natCast, List.getD_eq_getElem?_getD, List.getElem?_eq_getElem hl]
  rfl
theorem rowsS_short (h : HullV) (l : List BoxV) (pl : List Int) : (rowsS h l pl).length ≤ 12 := by
  unfold rowsS
  split
  · next hv => rw [rowsTo_length]; exact (hull_nat (pv_of hv).1).2.2.2.2.2.2
  · simp
theorem nextS_short (h : HullV) (l : List BoxV) (pl : List Int) : (nextS h l pl).length ≤ 36 := by
  unfold nextS
  split
  · next hv =>
    have := nextTo_length h.tiers pl pl.length
    have := (slots_bd (pv_of hv).1).2.2
    have := (pv_of hv).2.2.1
    omega
  · simp
set_option maxHeartbeats 12800000 in
set_option maxRecDepth 20000 in
theorem light_impl (h : HullV) (A P SA : Option Addr) (l : List BoxV) (pl NX : List Int) (c d e_ : Nat) (w : World) (ha : RdBox w A l) (hl : l.length ≤ 1048576) (hlc : l.length ≤ c) (hp : Rd w P pl) (hpl : pl.length ≤ 1048576) (hpd : pl.length ≤ d) (hs : Rd w SA NX) (hn : nextS h l pl = NX) :
    Calls Try.prog 50 #[.agg #[.int .i64 h.bays, .int .i64 h.rows, .int .i64 h.tiers], .slice A l.length c, .slice P pl.length d, .slice SA NX.length e_] w fun e w' => e = .returned (.int .i64 (lightS h l pl)) ∧ Below w.heap.size w w' := by
  obtain ⟨r, HRES0⟩ : ∃ r, Hid (lightS h l pl = r) := ⟨_, rfl⟩
  rw [HRES0.out]
  obtain ⟨WT, HWT_⟩ : ∃ x, Hid (rowsS h l pl = x) := ⟨_, rfl⟩
  obtain ⟨t, HT_⟩ : ∃ x, Hid (tiersV h = x) := ⟨_, rfl⟩
  have HRES : Hid (lightTo WT NX t NX.length = r) := by show _ = _; rw [← HRES0.out, ← HWT_.out, ← HT_.out, ← hn]; rfl
  have HNXM : Hid (∀ x ∈ NX, pvS h l pl = true ∧ ∃ i : Nat, x = (i : Int) ∧ i < pl.length ∧ pl[i]? = some 0 ∧ ((i : Int) % h.tiers = 0 ∨ pl[i - 1]? ≠ some 0)) := fun x hx => nextS_mem (by rw [hn]; exact hx)
  have hN36 : NX.length ≤ 36 := by rw [← hn]; exact nextS_short h l pl
  have hW12 : WT.length ≤ 12 := by rw [← HWT_.out]; exact rowsS_short h l pl
  clear hn
  have kx := Blk.new w 36 #[.int .i64 h.bays, .int .i64 h.rows, .int .i64 h.tiers]
  have bx : Below w.heap.size w (w.alloc (.cells #[.int .i64 h.bays, .int .i64 h.rows, .int .i64 h.tiers] 36)) := below_one _
  obtain ⟨W0, HW0⟩ : ∃ W0, Hid (w.alloc (.cells #[.int .i64 h.bays, .int .i64 h.rows, .int .i64 h.tiers] 36) = W0) := ⟨_, rfl⟩
  rw [HW0.out] at kx bx
  have HA0 := Lib.hid (ha.below bx)
  have HP0 := Lib.hid (hp.below bx)
  have HN0 := Lib.hid (hs.below bx)
  obtain ⟨X, HX⟩ : ∃ X, Hid (w.heap.size = X) := ⟨_, rfl⟩
  rw [HX.out] at kx
  have hXl := kx.lt
  have HFIN : Hid (∀ W, Below W0.heap.size W0 W → Below w.heap.size w W) := fun W hW => bx.trans (hW.mono bx.size)
  have HZ0 : Hid (w.heap.size ≤ W0.heap.size) := bx.size
  have HZX : Hid (W0.heap.size = X + 1) := by show _ = _; rw [← HW0.out, ← HX.out]; simp
  have HS : Hid (∀ W, Below W0.heap.size W0 W → W.cell? ⟨X, 0, none⟩ = some (.int .i64 h.bays) ∧ W.cell? ⟨X, 1, none⟩ = some (.int .i64 h.rows) ∧ W.cell? ⟨X, 2, none⟩ = some (.int .i64 h.tiers)) := fun W hW => ⟨(kx.below hW hXl).cell 0, (kx.below hW hXl).cell 1, (kx.below hW hXl).cell 2⟩
  have B0 := Below.refl W0.heap.size W0
  obtain ⟨z0, z1, z2⟩ := HS.out W0 B0
  clear kx bx hXl ha hp hs
  have HPV : Hid (∀ W, Below W0.heap.size W0 W → Calls Try.prog 28 #[.agg #[.int .i64 h.bays, .int .i64 h.rows, .int .i64 h.tiers], .slice A l.length c, .slice P pl.length d] W fun e w' => e = .returned (.bool (pvS h l pl)) ∧ Below W0.heap.size W0 w') := fun W hW => (pv_impl h A P l pl c d W (HA0.out.below hW) hl hlc (HP0.out.below hW) hpl hpd).mono fun e w' ⟨h1, h2⟩ => ⟨h1, hW.trans (h2.mono hW.size)⟩
  have HRWS : Hid (Calls Try.prog 77 #[.agg #[.int .i64 h.bays, .int .i64 h.rows, .int .i64 h.tiers], .slice A l.length c, .slice P pl.length d] W0 (AnsC (fun s => s) WT.length WT 3 W0)) := by
    rw [← HWT_.out]; exact rows_impl h A P l pl c d W0 HA0.out hl hlc HP0.out hpl hpd
  go_enter Try.func50, Try.ntmps50
  go_wp2_with fail
  rw [HW0.out, HX.out]
  refine HRWS.out.mono ?_
  rintro e w2 ⟨WA, wc, rfl, hwc, ow, b2⟩
  have HRW := Lib.hid ow.rd
  have HRN := Lib.hid (HN0.out.below b2)
  have HW0W := Lib.hid b2
  clear z0 z1 z2 ow b2
  go_wp2_with fail
  go_loopw [10, 19] (fun bs i wr => ∃ (k : Nat) (v : Int), k ≤ NX.length ∧ i = .int .i64 k ∧ bs = .int .i64 v ∧ -1 ≤ v ∧ v ≤ 40 ∧ Hid (lightTo WT NX t k = v) ∧ Below w2.heap.size w2 wr) (fun _ i _ => NX.length - (intOf i).toNat)
  case atStart => exact ⟨0, -1, by omega, rfl, rfl, by omega, by omega, rfl, Below.refl _ _⟩
  case round =>
    obtain ⟨k, v, hk, rfl, rfl, hv1, hv9, HV, hbw⟩ := hrel
    by_cases hlt : k < NX.length
    · obtain ⟨bn, on, x, eN, hbn, Hx, hx0⟩ := (HRN.out.below hbw).at_ (k := k) hlt
      subst eN
      have q0 : (0 : Int) ≤ (k : Int) := by omega
      have q1 : (k : Int) < (NX.length : Int) := by omega
      obtain ⟨hvd, sx, rfl, hsl, _, _⟩ := HNXM.out x (mem_at Hx.out)
      have hsx36 : sx ≤ 36 := by have h1 := (slots_bd (pv_of hvd).1).2.2; have h2 := (pv_of hvd).2.2.1; omega
      have HVD := Lib.hid hvd
      obtain ⟨hr1, hr2, hr3⟩ := row_of hvd hsl
      rw [HWT_.out] at hr2 hr3
      rw [HT_.out] at hr1 hr2 hr3
      obtain ⟨r1, HR1⟩ : ∃ n, Hid (sx / t = n) := ⟨_, rfl⟩
      rw [HR1.out] at hr1 hr2 hr3
      obtain ⟨y1, HY1⟩ : ∃ y, Hid (wRow WT t (sx : Int) = y) := ⟨_, rfl⟩
      rw [HY1.out] at hr3
      have HRR1 := Lib.hid hr1
      have HRC1 := Lib.hid hr3
      have HS9 := Lib.hid (HW0W.out.trans (hbw.mono HW0W.out.size))
      obtain ⟨z0, z1, z2⟩ := HS.out _ HS9.out
      obtain ⟨_, _, ht1, ht3⟩ := (pv_of hvd).1
      clear hr1 hr3 hvd
      by_cases hvn : v < 0
      · have t0 : decide (v < 0) = true := decide_eq_true hvn
        have HNX : Hid (lightTo WT NX t (k + 1) = (sx : Int)) := by show _ = _; rw [lightTo_next Hx.out, if_pos (.inl (by rw [HV.out]; exact hvn))]
        clear hvn
        go_wp2_with fail
        refine wp_region_held_drew (S := (fun W => W.cell? ⟨X, 0, none⟩ = some (.int .i64 h.bays) ∧ W.cell? ⟨X, 1, none⟩ = some (.int .i64 h.rows) ∧ W.cell? ⟨X, 2, none⟩ = some (.int .i64 h.tiers))) (by kernel_rfl) (by (try dsimp only); exact ⟨z0, z1, z2⟩) (fun hHeld => ?_)
        refine wpAnyH_take (i := 0) (oi := ⟨some 23, _, _, _, _, _⟩) (v := ?_) rfl (by kernel_rfl) (by kernel_rfl) (by kernel_rfl) (fun _ _ _ h => h) (Or.inl ⟨by rfl, ?_⟩) (by assumption) ?_
        rotate_left
        · intro w hSw; (try dsimp only at hSw); go_simp; try rfl
        try simp only [Act.put, List.setIfInBounds_toArray, List.set_cons_zero, List.set_cons_succ]
        refine wpAnyH_take (i := 1) (oi := ⟨some 24, _, _, _, _, _⟩) (v := ?_) rfl (by kernel_rfl) (by kernel_rfl) (by kernel_rfl) (fun _ _ _ h => h) (Or.inl ⟨by rfl, ?_⟩) (by assumption) ?_
        rotate_left
        · intro w hSw; (try dsimp only at hSw); go_simp; try rfl
        try simp only [Act.put, List.setIfInBounds_toArray, List.set_cons_zero, List.set_cons_succ]
        refine wpAnyH_take (i := 2) (oi := ⟨some 25, _, _, _, _, _⟩) (v := ?_) rfl (by kernel_rfl) (by kernel_rfl) (by kernel_rfl) (fun _ _ _ h => h) (Or.inl ⟨by rfl, ?_⟩) (by assumption) ?_
        rotate_left
        · intro w hSw; (try dsimp only at hSw); go_simp; try rfl
        try simp only [Act.put, List.setIfInBounds_toArray, List.set_cons_zero, List.set_cons_succ]
        refine wpAnyH_take (i := 3) (oi := ⟨some 26, _, _, _, _, _⟩) (v := undef) rfl (by kernel_rfl) (by kernel_rfl) (by kernel_rfl) (fun _ _ _ h => h) (Or.inr ⟨by rfl, rfl⟩) (by assumption) ?_
        try simp only [Act.put, List.setIfInBounds_toArray, List.set_cons_zero, List.set_cons_succ]
        refine wpAnyH_take (i := 4) (oi := ⟨some 27, _, _, _, _, _⟩) (v := undef) rfl (by kernel_rfl) (by kernel_rfl) (by kernel_rfl) (fun _ _ _ h => h) (Or.inr ⟨by rfl, rfl⟩) (by assumption) ?_
        try simp only [Act.put, List.setIfInBounds_toArray, List.set_cons_zero, List.set_cons_succ]
        refine wpAnyH_take (i := 5) (oi := ⟨some 28, _, _, _, _, _⟩) (v := undef) rfl (by kernel_rfl) (by kernel_rfl) (by kernel_rfl) (fun _ _ _ h => h) (Or.inr ⟨by rfl, rfl⟩) (by assumption) ?_
        try simp only [Act.put, List.setIfInBounds_toArray, List.set_cons_zero, List.set_cons_succ]
        refine wpAnyH_take (i := 6) (oi := ⟨some 29, _, _, _, _, _⟩) (v := undef) rfl (by kernel_rfl) (by kernel_rfl) (by kernel_rfl) (fun _ _ _ h => h) (Or.inr ⟨by rfl, rfl⟩) (by assumption) ?_
        try simp only [Act.put, List.setIfInBounds_toArray, List.set_cons_zero, List.set_cons_succ]
        refine wpAnyH_take (i := 7) (oi := ⟨some 30, _, _, _, _, _⟩) (v := undef) rfl (by kernel_rfl) (by kernel_rfl) (by kernel_rfl) (fun _ _ _ h => h) (Or.inr ⟨by rfl, rfl⟩) (by assumption) ?_
        try simp only [Act.put, List.setIfInBounds_toArray, List.set_cons_zero, List.set_cons_succ]
        refine wpAnyH_take (i := 8) (oi := ⟨some 31, _, _, _, _, _⟩) (v := undef) rfl (by kernel_rfl) (by kernel_rfl) (by kernel_rfl) (fun _ _ _ h => h) (Or.inr ⟨by rfl, rfl⟩) (by assumption) ?_
        try simp only [Act.put, List.setIfInBounds_toArray, List.set_cons_zero, List.set_cons_succ]
        refine wpAnyH_take (i := 9) (oi := ⟨some 32, _, _, _, _, _⟩) (v := undef) rfl (by kernel_rfl) (by kernel_rfl) (by kernel_rfl) (fun _ _ _ h => h) (Or.inr ⟨by rfl, rfl⟩) (by assumption) ?_
        try simp only [Act.put, List.setIfInBounds_toArray, List.set_cons_zero, List.set_cons_succ]
        refine wpAnyH_take (i := 10) (oi := ⟨some 33, _, _, _, _, _⟩) (v := undef) rfl (by kernel_rfl) (by kernel_rfl) (by kernel_rfl) (fun _ _ _ h => h) (Or.inr ⟨by rfl, rfl⟩) (by assumption) ?_
        try simp only [Act.put, List.setIfInBounds_toArray, List.set_cons_zero, List.set_cons_succ]
        refine wpAnyH_take (i := 11) (oi := ⟨some 34, _, _, _, _, _⟩) (v := undef) rfl (by kernel_rfl) (by kernel_rfl) (by kernel_rfl) (fun _ _ _ h => h) (Or.inr ⟨by rfl, rfl⟩) (by assumption) ?_
        try simp only [Act.put, List.setIfInBounds_toArray, List.set_cons_zero, List.set_cons_succ]
        refine wpAnyH_take (i := 12) (oi := ⟨some 35, _, _, _, _, _⟩) (v := undef) rfl (by kernel_rfl) (by kernel_rfl) (by kernel_rfl) (fun _ _ _ h => h) (Or.inr ⟨by rfl, rfl⟩) (by assumption) ?_
        try simp only [Act.put, List.setIfInBounds_toArray, List.set_cons_zero, List.set_cons_succ]
        refine wpAnyH_take (i := 13) (oi := ⟨some 36, _, _, _, _, _⟩) (v := undef) rfl (by kernel_rfl) (by kernel_rfl) (by kernel_rfl) (fun _ _ _ h => h) (Or.inr ⟨by rfl, rfl⟩) (by assumption) ?_
        try simp only [Act.put, List.setIfInBounds_toArray, List.set_cons_zero, List.set_cons_succ]
        refine wpAnyH_take (i := 14) (oi := ⟨some 37, _, _, _, _, _⟩) (v := undef) rfl (by kernel_rfl) (by kernel_rfl) (by kernel_rfl) (fun _ _ _ h => h) (Or.inr ⟨by rfl, rfl⟩) (by assumption) ?_
        try simp only [Act.put, List.setIfInBounds_toArray, List.set_cons_zero, List.set_cons_succ]
        refine wpAnyH_take (i := 15) (oi := ⟨some 38, _, _, _, _, _⟩) (v := undef) rfl (by kernel_rfl) (by kernel_rfl) (by kernel_rfl) (fun _ _ _ h => h) (Or.inr ⟨by rfl, rfl⟩) (by assumption) ?_
        try simp only [Act.put, List.setIfInBounds_toArray, List.set_cons_zero, List.set_cons_succ]
        refine wpAnyH_take (i := 16) (oi := ⟨some 39, _, _, _, _, _⟩) (v := ?_) rfl (by kernel_rfl) (by kernel_rfl) (by kernel_rfl) (fun _ _ _ h => h) (Or.inl ⟨by rfl, ?_⟩) (by assumption) ?_
        rotate_left
        · intro w hSw; (try dsimp only at hSw); go_simp; try rfl
        try simp only [Act.put, List.setIfInBounds_toArray, List.set_cons_zero, List.set_cons_succ]
        refine wpAnyH_done (by kernel_rfl) ?_ _
        go_wp2_with fail
        exact ⟨⟨k + 1, sx, by omega, by go_num, rfl, by omega, by omega, HNX.out, below_drewN hbw 1⟩, by simp [intOf]; omega⟩
      · have t0 : decide (v < 0) = false := decide_eq_false hvn
        obtain ⟨sv, rfl⟩ := Int.eq_ofNat_of_zero_le (Int.not_lt.1 hvn)
        have hvm : ((sv : Nat) : Int) ∈ NX := by
          rcases lightTo_mem WT NX t k with h1 | h1
          · rw [HV.out] at h1; omega
          · rw [HV.out] at h1; exact h1
        obtain ⟨hvd, sv', esv, hsl2, _, _⟩ := HNXM.out _ hvm
        obtain rfl : sv = sv' := by omega
        obtain ⟨hr1, hr2', hr3⟩ := row_of hvd hsl2
        rw [HWT_.out] at hr2' hr3
        rw [HT_.out] at hr1 hr2' hr3
        obtain ⟨r2, HR2⟩ : ∃ n, Hid (sv / t = n) := ⟨_, rfl⟩
        rw [HR2.out] at hr1 hr2' hr3
        obtain ⟨y2, HY2⟩ : ∃ y, Hid (wRow WT t (sv : Int) = y) := ⟨_, rfl⟩
        rw [HY2.out] at hr3
        have HRR2 := Lib.hid hr1
        have HRC2 := Lib.hid hr3
        obtain ⟨bw_, ow, c1, eW, hbW, hw1⟩ := (HRW.out.below hbw) r1 y1 HRC1.out |>.elim fun a h => h.elim fun b h => (⟨a, b, (), h.1, h.2.1, h.2.2⟩ : ∃ (a b : Nat) (_ : Unit), WA = some ⟨a, b, none⟩ ∧ a < wr.heap.size ∧ wr.cell? ⟨a, b + r1, none⟩ = some (.int .i64 y1))
        subst eW
        obtain ⟨bw2, ow2, eW2, _, hw2⟩ := (HRW.out.below hbw) r2 y2 HRC2.out
        injection eW2 with eW2
        injection eW2 with eW2a eW2b eW2c
        subst eW2a eW2b
        clear eW2c hr1 hr3 hvd hvm hvn
        have p0 : (0 : Int) ≤ (r1 : Int) := by omega
        have p1 : (r1 : Int) < (WT.length : Int) := by omega
        have p2 : (0 : Int) ≤ (r2 : Int) := by omega
        have p3 : (r2 : Int) < (WT.length : Int) := by omega
        have B9 := Below.refl wr.heap.size wr
        have HKS : Hid (∀ W, Below wr.heap.size wr W → W.cell? ⟨X, 0, none⟩ = some (.int .i64 h.bays) ∧ W.cell? ⟨X, 1, none⟩ = some (.int .i64 h.rows) ∧ W.cell? ⟨X, 2, none⟩ = some (.int .i64 h.tiers) ∧ W.cell? ⟨bw_, ow + r1, none⟩ = some (.int .i64 y1) ∧ W.cell? ⟨bw_, ow + r2, none⟩ = some (.int .i64 y2)) := fun W hW => by
          obtain ⟨a0, a1, a2⟩ := HS.out W (HS9.out.trans (hW.mono HS9.out.size))
          exact ⟨a0, a1, a2, (hW.cell (p := ⟨bw_, ow + r1, none⟩) hbW).trans hw1, (hW.cell (p := ⟨bw_, ow + r2, none⟩) hbW).trans hw2⟩
        have HK := Lib.hid (pv_of HVD.out).1
        have HST1 : Hid (∀ W, Calls Try.prog 78 #[.agg #[.int .i64 h.bays, .int .i64 h.rows, .int .i64 h.tiers], .int .i64 sx] W fun e w' => e = .returned (.int .i64 (r1 : Int)) ∧ Below W.heap.size W w') := fun W => by
          have hq := stack_any h sx W HK.out (by omega) (by omega)
          rw [HRR1.out] at hq
          exact hq
        have HST2 : Hid (∀ W, Calls Try.prog 78 #[.agg #[.int .i64 h.bays, .int .i64 h.rows, .int .i64 h.tiers], .int .i64 sv] W fun e w' => e = .returned (.int .i64 (r2 : Int)) ∧ Below W.heap.size W w') := fun W => by
          have hq := stack_any h sv W HK.out (by omega) (by omega)
          rw [HRR2.out] at hq
          exact hq
        by_cases hc : y1 < y2
        · have t5 : decide (y1 < y2) = true := decide_eq_true hc
          have HNX : Hid (lightTo WT NX t (k + 1) = (sx : Int)) := by show _ = _; rw [lightTo_next Hx.out, HV.out, if_pos (.inr (by rw [HY1.out, HY2.out]; exact hc))]
          clear hc
          go_wp2_with fail
          refine wp_region_held_drew (S := (fun W => W.cell? ⟨X, 0, none⟩ = some (.int .i64 h.bays) ∧ W.cell? ⟨X, 1, none⟩ = some (.int .i64 h.rows) ∧ W.cell? ⟨X, 2, none⟩ = some (.int .i64 h.tiers) ∧ W.cell? ⟨bw_, ow + r1, none⟩ = some (.int .i64 y1) ∧ W.cell? ⟨bw_, ow + r2, none⟩ = some (.int .i64 y2))) (by kernel_rfl) (by (try dsimp only); exact HKS.out _ (below_drewN B9 1)) (fun hHeld => ?_)
          refine wpAnyH_take (i := 0) (oi := ⟨some 23, _, _, _, _, _⟩) (v := ?_) rfl (by kernel_rfl) (by kernel_rfl) (by kernel_rfl) (fun _ _ _ h => h) (Or.inl ⟨by rfl, ?_⟩) (by assumption) ?_
          rotate_left
          · intro w hSw; (try dsimp only at hSw); go_simp; try rfl
          try simp only [Act.put, List.setIfInBounds_toArray, List.set_cons_zero, List.set_cons_succ]
          refine wpAnyH_take (i := 1) (oi := ⟨some 24, _, _, _, _, _⟩) (v := ?_) rfl (by kernel_rfl) (by kernel_rfl) (by kernel_rfl) (fun _ _ _ h => h) (Or.inl ⟨by rfl, ?_⟩) (by assumption) ?_
          rotate_left
          · intro w hSw; (try dsimp only at hSw); go_simp; try rfl
          try simp only [Act.put, List.setIfInBounds_toArray, List.set_cons_zero, List.set_cons_succ]
          refine wpAnyH_take (i := 2) (oi := ⟨some 25, _, _, _, _, _⟩) (v := ?_) rfl (by kernel_rfl) (by kernel_rfl) (by kernel_rfl) (fun _ _ _ h => h) (Or.inl ⟨by rfl, ?_⟩) (by assumption) ?_
          rotate_left
          · intro w hSw; (try dsimp only at hSw); go_simp; try rfl
          try simp only [Act.put, List.setIfInBounds_toArray, List.set_cons_zero, List.set_cons_succ]
          refine wpAnyH_take (i := 3) (oi := ⟨some 26, _, _, _, _, _⟩) (v := ?_) rfl (by kernel_rfl) (by kernel_rfl) (by kernel_rfl) (fun _ _ _ h => h) (Or.inl ⟨by rfl, ?_⟩) (by assumption) ?_
          rotate_left
          · intro w hSw; (try dsimp only at hSw); go_simp; try rfl
          try simp only [Act.put, List.setIfInBounds_toArray, List.set_cons_zero, List.set_cons_succ]
          refine wpAnyH_take (i := 4) (oi := ⟨some 27, _, _, _, _, _⟩) (v := ?_) rfl (by kernel_rfl) (by kernel_rfl) (by kernel_rfl) (fun _ _ _ h => h) (Or.inl ⟨by rfl, ?_⟩) (by assumption) ?_
          rotate_left
          · intro w hSw; (try dsimp only at hSw); go_simp; try rfl
          try simp only [Act.put, List.setIfInBounds_toArray, List.set_cons_zero, List.set_cons_succ]
          refine wpAnyH_take (i := 5) (oi := ⟨some 28, _, _, _, _, _⟩) (v := ?_) rfl (by kernel_rfl) (by kernel_rfl) (by kernel_rfl) (fun _ _ _ h => h) (Or.inl ⟨by rfl, ?_⟩) (by assumption) ?_
          rotate_left
          · intro w hSw; (try dsimp only at hSw); go_simp; try rfl
          try simp only [Act.put, List.setIfInBounds_toArray, List.set_cons_zero, List.set_cons_succ]
          refine wpAnyH_take (i := 9) (oi := ⟨some 32, _, _, _, _, _⟩) (v := ?_) rfl (by kernel_rfl) (by kernel_rfl) (by kernel_rfl) (fun _ _ _ h => h) (Or.inl ⟨by rfl, ?_⟩) (by assumption) ?_
          rotate_left
          · intro w hSw; (try dsimp only at hSw); go_simp; try rfl
          try simp only [Act.put, List.setIfInBounds_toArray, List.set_cons_zero, List.set_cons_succ]
          refine wpAnyH_take (i := 10) (oi := ⟨some 33, _, _, _, _, _⟩) (v := ?_) rfl (by kernel_rfl) (by kernel_rfl) (by kernel_rfl) (fun _ _ _ h => h) (Or.inl ⟨by rfl, ?_⟩) (by assumption) ?_
          rotate_left
          · intro w hSw; (try dsimp only at hSw); go_simp; try rfl
          try simp only [Act.put, List.setIfInBounds_toArray, List.set_cons_zero, List.set_cons_succ]
          refine wpAnyH_take (i := 11) (oi := ⟨some 34, _, _, _, _, _⟩) (v := ?_) rfl (by kernel_rfl) (by kernel_rfl) (by kernel_rfl) (fun _ _ _ h => h) (Or.inl ⟨by rfl, ?_⟩) (by assumption) ?_
          rotate_left
          · intro w hSw; (try dsimp only at hSw); go_simp; try rfl
          try simp only [Act.put, List.setIfInBounds_toArray, List.set_cons_zero, List.set_cons_succ]
          refine wpAnyH_ready (rs := [6]) (by kernel_rfl) (by simp) ?_
          refine AllReadyH.cons (o := ⟨some 29, _, _, _, _, _⟩) rfl (fun K hK => ?_) AllReadyH.nil
          go_simp
          refine (HST1.out _).mono ?_
          rintro e w5 ⟨rfl, b5⟩
          dsimp only
          have d5 : Below wr.heap.size wr w5 := (below_drewN B9 1).trans b5
          refine hK.out _ _ ?_ (fun hHeld => ?_)
          · (try dsimp only); (exact HKS.out _ d5)
          clear hK K
          try simp only [Act.put, List.setIfInBounds_toArray, List.set_cons_zero, List.set_cons_succ]
          refine wpAnyH_take (i := 7) (oi := ⟨some 30, _, _, _, _, _⟩) (v := ?_) rfl (by kernel_rfl) (by kernel_rfl) (by kernel_rfl) (fun _ _ _ h => h) (Or.inl ⟨by rfl, ?_⟩) (by assumption) ?_
          rotate_left
          · intro w hSw; (try dsimp only at hSw); go_simp; try rfl
          try simp only [Act.put, List.setIfInBounds_toArray, List.set_cons_zero, List.set_cons_succ]
          refine wpAnyH_take (i := 8) (oi := ⟨some 31, _, _, _, _, _⟩) (v := ?_) rfl (by kernel_rfl) (by kernel_rfl) (by kernel_rfl) (fun _ _ _ h => h) (Or.inl ⟨by rfl, ?_⟩) (by assumption) ?_
          rotate_left
          · intro w hSw; (try dsimp only at hSw); go_simp; try rfl
          try simp only [Act.put, List.setIfInBounds_toArray, List.set_cons_zero, List.set_cons_succ]
          refine wpAnyH_ready (rs := [12]) (by kernel_rfl) (by simp) ?_
          refine AllReadyH.cons (o := ⟨some 35, _, _, _, _, _⟩) rfl (fun K hK => ?_) AllReadyH.nil
          go_simp
          refine (HST2.out _).mono ?_
          rintro e w6 ⟨rfl, b6⟩
          dsimp only
          have d6 : Below wr.heap.size wr w6 := d5.trans (b6.mono d5.size)
          refine hK.out _ _ ?_ (fun hHeld => ?_)
          · (try dsimp only); (exact HKS.out _ d6)
          clear hK K
          try simp only [Act.put, List.setIfInBounds_toArray, List.set_cons_zero, List.set_cons_succ]
          refine wpAnyH_take (i := 13) (oi := ⟨some 36, _, _, _, _, _⟩) (v := ?_) rfl (by kernel_rfl) (by kernel_rfl) (by kernel_rfl) (fun _ _ _ h => h) (Or.inl ⟨by rfl, ?_⟩) (by assumption) ?_
          rotate_left
          · intro w hSw; (try dsimp only at hSw); go_simp; try rfl
          try simp only [Act.put, List.setIfInBounds_toArray, List.set_cons_zero, List.set_cons_succ]
          refine wpAnyH_take (i := 14) (oi := ⟨some 37, _, _, _, _, _⟩) (v := ?_) rfl (by kernel_rfl) (by kernel_rfl) (by kernel_rfl) (fun _ _ _ h => h) (Or.inl ⟨by rfl, ?_⟩) (by assumption) ?_
          rotate_left
          · intro w hSw; (try dsimp only at hSw); go_simp; try rfl
          try simp only [Act.put, List.setIfInBounds_toArray, List.set_cons_zero, List.set_cons_succ]
          refine wpAnyH_take (i := 15) (oi := ⟨some 38, _, _, _, _, _⟩) (v := ?_) rfl (by kernel_rfl) (by kernel_rfl) (by kernel_rfl) (fun _ _ _ h => h) (Or.inl ⟨by rfl, ?_⟩) (by assumption) ?_
          rotate_left
          · intro w hSw; (try dsimp only at hSw); go_simp; try rfl
          try simp only [Act.put, List.setIfInBounds_toArray, List.set_cons_zero, List.set_cons_succ]
          refine wpAnyH_take (i := 16) (oi := ⟨some 39, _, _, _, _, _⟩) (v := ?_) rfl (by kernel_rfl) (by kernel_rfl) (by kernel_rfl) (fun _ _ _ h => h) (Or.inl ⟨by rfl, ?_⟩) (by assumption) ?_
          rotate_left
          · intro w hSw; (try dsimp only at hSw); go_simp; try rfl
          try simp only [Act.put, List.setIfInBounds_toArray, List.set_cons_zero, List.set_cons_succ]
          refine wpAnyH_done (by kernel_rfl) ?_ _
          go_wp2_with fail
          exact ⟨⟨k + 1, sx, by omega, by go_num, rfl, by omega, by omega, HNX.out, hbw.trans (d6.mono hbw.size)⟩, by simp [intOf]; omega⟩
        · have t5 : decide (y1 < y2) = false := decide_eq_false hc
          have HNX : Hid (lightTo WT NX t (k + 1) = (sv : Int)) := by show _ = _; rw [lightTo_next Hx.out, HV.out, if_neg (by rw [HY1.out, HY2.out]; omega)]
          clear hc
          go_wp2_with fail
          refine wp_region_held_drew (S := (fun W => W.cell? ⟨X, 0, none⟩ = some (.int .i64 h.bays) ∧ W.cell? ⟨X, 1, none⟩ = some (.int .i64 h.rows) ∧ W.cell? ⟨X, 2, none⟩ = some (.int .i64 h.tiers) ∧ W.cell? ⟨bw_, ow + r1, none⟩ = some (.int .i64 y1) ∧ W.cell? ⟨bw_, ow + r2, none⟩ = some (.int .i64 y2))) (by kernel_rfl) (by (try dsimp only); exact HKS.out _ (below_drewN B9 1)) (fun hHeld => ?_)
          refine wpAnyH_take (i := 0) (oi := ⟨some 23, _, _, _, _, _⟩) (v := ?_) rfl (by kernel_rfl) (by kernel_rfl) (by kernel_rfl) (fun _ _ _ h => h) (Or.inl ⟨by rfl, ?_⟩) (by assumption) ?_
          rotate_left
          · intro w hSw; (try dsimp only at hSw); go_simp; try rfl
          try simp only [Act.put, List.setIfInBounds_toArray, List.set_cons_zero, List.set_cons_succ]
          refine wpAnyH_take (i := 1) (oi := ⟨some 24, _, _, _, _, _⟩) (v := ?_) rfl (by kernel_rfl) (by kernel_rfl) (by kernel_rfl) (fun _ _ _ h => h) (Or.inl ⟨by rfl, ?_⟩) (by assumption) ?_
          rotate_left
          · intro w hSw; (try dsimp only at hSw); go_simp; try rfl
          try simp only [Act.put, List.setIfInBounds_toArray, List.set_cons_zero, List.set_cons_succ]
          refine wpAnyH_take (i := 2) (oi := ⟨some 25, _, _, _, _, _⟩) (v := ?_) rfl (by kernel_rfl) (by kernel_rfl) (by kernel_rfl) (fun _ _ _ h => h) (Or.inl ⟨by rfl, ?_⟩) (by assumption) ?_
          rotate_left
          · intro w hSw; (try dsimp only at hSw); go_simp; try rfl
          try simp only [Act.put, List.setIfInBounds_toArray, List.set_cons_zero, List.set_cons_succ]
          refine wpAnyH_take (i := 3) (oi := ⟨some 26, _, _, _, _, _⟩) (v := ?_) rfl (by kernel_rfl) (by kernel_rfl) (by kernel_rfl) (fun _ _ _ h => h) (Or.inl ⟨by rfl, ?_⟩) (by assumption) ?_
          rotate_left
          · intro w hSw; (try dsimp only at hSw); go_simp; try rfl
          try simp only [Act.put, List.setIfInBounds_toArray, List.set_cons_zero, List.set_cons_succ]
          refine wpAnyH_take (i := 4) (oi := ⟨some 27, _, _, _, _, _⟩) (v := ?_) rfl (by kernel_rfl) (by kernel_rfl) (by kernel_rfl) (fun _ _ _ h => h) (Or.inl ⟨by rfl, ?_⟩) (by assumption) ?_
          rotate_left
          · intro w hSw; (try dsimp only at hSw); go_simp; try rfl
          try simp only [Act.put, List.setIfInBounds_toArray, List.set_cons_zero, List.set_cons_succ]
          refine wpAnyH_take (i := 5) (oi := ⟨some 28, _, _, _, _, _⟩) (v := ?_) rfl (by kernel_rfl) (by kernel_rfl) (by kernel_rfl) (fun _ _ _ h => h) (Or.inl ⟨by rfl, ?_⟩) (by assumption) ?_
          rotate_left
          · intro w hSw; (try dsimp only at hSw); go_simp; try rfl
          try simp only [Act.put, List.setIfInBounds_toArray, List.set_cons_zero, List.set_cons_succ]
          refine wpAnyH_take (i := 9) (oi := ⟨some 32, _, _, _, _, _⟩) (v := ?_) rfl (by kernel_rfl) (by kernel_rfl) (by kernel_rfl) (fun _ _ _ h => h) (Or.inl ⟨by rfl, ?_⟩) (by assumption) ?_
          rotate_left
          · intro w hSw; (try dsimp only at hSw); go_simp; try rfl
          try simp only [Act.put, List.setIfInBounds_toArray, List.set_cons_zero, List.set_cons_succ]
          refine wpAnyH_take (i := 10) (oi := ⟨some 33, _, _, _, _, _⟩) (v := ?_) rfl (by kernel_rfl) (by kernel_rfl) (by kernel_rfl) (fun _ _ _ h => h) (Or.inl ⟨by rfl, ?_⟩) (by assumption) ?_
          rotate_left
          · intro w hSw; (try dsimp only at hSw); go_simp; try rfl
          try simp only [Act.put, List.setIfInBounds_toArray, List.set_cons_zero, List.set_cons_succ]
          refine wpAnyH_take (i := 11) (oi := ⟨some 34, _, _, _, _, _⟩) (v := ?_) rfl (by kernel_rfl) (by kernel_rfl) (by kernel_rfl) (fun _ _ _ h => h) (Or.inl ⟨by rfl, ?_⟩) (by assumption) ?_
          rotate_left
          · intro w hSw; (try dsimp only at hSw); go_simp; try rfl
          try simp only [Act.put, List.setIfInBounds_toArray, List.set_cons_zero, List.set_cons_succ]
          refine wpAnyH_ready (rs := [6]) (by kernel_rfl) (by simp) ?_
          refine AllReadyH.cons (o := ⟨some 29, _, _, _, _, _⟩) rfl (fun K hK => ?_) AllReadyH.nil
          go_simp
          refine (HST1.out _).mono ?_
          rintro e w5 ⟨rfl, b5⟩
          dsimp only
          have d5 : Below wr.heap.size wr w5 := (below_drewN B9 1).trans b5
          refine hK.out _ _ ?_ (fun hHeld => ?_)
          · (try dsimp only); (exact HKS.out _ d5)
          clear hK K
          try simp only [Act.put, List.setIfInBounds_toArray, List.set_cons_zero, List.set_cons_succ]
          refine wpAnyH_take (i := 7) (oi := ⟨some 30, _, _, _, _, _⟩) (v := ?_) rfl (by kernel_rfl) (by kernel_rfl) (by kernel_rfl) (fun _ _ _ h => h) (Or.inl ⟨by rfl, ?_⟩) (by assumption) ?_
          rotate_left
          · intro w hSw; (try dsimp only at hSw); go_simp; try rfl
          try simp only [Act.put, List.setIfInBounds_toArray, List.set_cons_zero, List.set_cons_succ]
          refine wpAnyH_take (i := 8) (oi := ⟨some 31, _, _, _, _, _⟩) (v := ?_) rfl (by kernel_rfl) (by kernel_rfl) (by kernel_rfl) (fun _ _ _ h => h) (Or.inl ⟨by rfl, ?_⟩) (by assumption) ?_
          rotate_left
          · intro w hSw; (try dsimp only at hSw); go_simp; try rfl
          try simp only [Act.put, List.setIfInBounds_toArray, List.set_cons_zero, List.set_cons_succ]
          refine wpAnyH_ready (rs := [12]) (by kernel_rfl) (by simp) ?_
          refine AllReadyH.cons (o := ⟨some 35, _, _, _, _, _⟩) rfl (fun K hK => ?_) AllReadyH.nil
          go_simp
          refine (HST2.out _).mono ?_
          rintro e w6 ⟨rfl, b6⟩
          dsimp only
          have d6 : Below wr.heap.size wr w6 := d5.trans (b6.mono d5.size)
          refine hK.out _ _ ?_ (fun hHeld => ?_)
          · (try dsimp only); (exact HKS.out _ d6)
          clear hK K
          try simp only [Act.put, List.setIfInBounds_toArray, List.set_cons_zero, List.set_cons_succ]
          refine wpAnyH_take (i := 13) (oi := ⟨some 36, _, _, _, _, _⟩) (v := ?_) rfl (by kernel_rfl) (by kernel_rfl) (by kernel_rfl) (fun _ _ _ h => h) (Or.inl ⟨by rfl, ?_⟩) (by assumption) ?_
          rotate_left
          · intro w hSw; (try dsimp only at hSw); go_simp; try rfl
          try simp only [Act.put, List.setIfInBounds_toArray, List.set_cons_zero, List.set_cons_succ]
          refine wpAnyH_take (i := 14) (oi := ⟨some 37, _, _, _, _, _⟩) (v := ?_) rfl (by kernel_rfl) (by kernel_rfl) (by kernel_rfl) (fun _ _ _ h => h) (Or.inl ⟨by rfl, ?_⟩) (by assumption) ?_
          rotate_left
          · intro w hSw; (try dsimp only at hSw); go_simp; try rfl
          try simp only [Act.put, List.setIfInBounds_toArray, List.set_cons_zero, List.set_cons_succ]
          refine wpAnyH_take (i := 15) (oi := ⟨some 38, _, _, _, _, _⟩) (v := ?_) rfl (by kernel_rfl) (by kernel_rfl) (by kernel_rfl) (fun _ _ _ h => h) (Or.inl ⟨by rfl, ?_⟩) (by assumption) ?_
          rotate_left
          · intro w hSw; (try dsimp only at hSw); go_simp; try rfl
          try simp only [Act.put, List.setIfInBounds_toArray, List.set_cons_zero, List.set_cons_succ]
          refine wpAnyH_take (i := 16) (oi := ⟨some 39, _, _, _, _, _⟩) (v := ?_) rfl (by kernel_rfl) (by kernel_rfl) (by kernel_rfl) (fun _ _ _ h => h) (Or.inl ⟨by rfl, ?_⟩) (by assumption) ?_
          rotate_left
          · intro w hSw; (try dsimp only at hSw); go_simp; try rfl
          try simp only [Act.put, List.setIfInBounds_toArray, List.set_cons_zero, List.set_cons_succ]
          refine wpAnyH_done (by kernel_rfl) ?_ _
          go_wp2_with fail
          exact ⟨⟨k + 1, sv, by omega, by go_num, rfl, by omega, by omega, HNX.out, hbw.trans (d6.mono hbw.size)⟩, by simp [intOf]; omega⟩
    · obtain rfl : k = NX.length := by omega
      have HF : Hid (r = v) := by show _ = _; rw [← HRES.out]; exact HV.out
      go_wp2_with fail
      go_ret
      exact ⟨ret_int HF.out.symm, HFIN.out _ (HW0W.out.trans (hbw.mono HW0W.out.size))⟩
set_option maxHeartbeats 12800000 in
set_option maxRecDepth 20000 in
theorem light_spec (h : HullV) (A P : Option Addr) (l : List BoxV) (pl : List Int) (c d : Nat) (w : World) (ha : RdBox w A l) (hl : l.length ≤ 1048576) (hp : Rd w P pl) (hpl : pl.length ≤ 1048576) (hpd : pl.length ≤ d) :
    Calls Try.prog 47 #[.agg #[.int .i64 h.bays, .int .i64 h.rows, .int .i64 h.tiers], .slice A l.length c, .slice P pl.length d] w fun e w' => e = .returned (.int .i64 (lightS h l pl)) ∧ Below w.heap.size w w' := by
  obtain ⟨r, HRES0⟩ : ∃ r, Hid (lightS h l pl = r) := ⟨_, rfl⟩
  rw [HRES0.out]
  obtain ⟨WT, HWT_⟩ : ∃ x, Hid (rowsS h l pl = x) := ⟨_, rfl⟩
  obtain ⟨NX, HNX_⟩ : ∃ x, Hid (nextS h l pl = x) := ⟨_, rfl⟩
  obtain ⟨t, HT_⟩ : ∃ x, Hid (tiersV h = x) := ⟨_, rfl⟩
  have HRES : Hid (lightTo WT NX t NX.length = r) := by show _ = _; rw [← HRES0.out, ← HWT_.out, ← HT_.out, ← HNX_.out]; rfl
  have HNXM : Hid (∀ x ∈ NX, pvS h l pl = true ∧ ∃ i : Nat, x = (i : Int) ∧ i < pl.length ∧ pl[i]? = some 0 ∧ ((i : Int) % h.tiers = 0 ∨ pl[i - 1]? ≠ some 0)) := fun x hx => nextS_mem (by rw [HNX_.out]; exact hx)
  have hN36 : NX.length ≤ 36 := by rw [← HNX_.out]; exact nextS_short h l pl
  have hW12 : WT.length ≤ 12 := by rw [← HWT_.out]; exact rowsS_short h l pl
  have kx := Blk.new w 36 #[.int .i64 h.bays, .int .i64 h.rows, .int .i64 h.tiers]
  have bx : Below w.heap.size w (w.alloc (.cells #[.int .i64 h.bays, .int .i64 h.rows, .int .i64 h.tiers] 36)) := below_one _
  obtain ⟨W0, HW0⟩ : ∃ W0, Hid (w.alloc (.cells #[.int .i64 h.bays, .int .i64 h.rows, .int .i64 h.tiers] 36) = W0) := ⟨_, rfl⟩
  rw [HW0.out] at kx bx
  have HA0 := Lib.hid (ha.below bx)
  have HP0 := Lib.hid (hp.below bx)
  obtain ⟨X, HX⟩ : ∃ X, Hid (w.heap.size = X) := ⟨_, rfl⟩
  rw [HX.out] at kx
  have hXl := kx.lt
  have HFIN : Hid (∀ W, Below W0.heap.size W0 W → Below w.heap.size w W) := fun W hW => bx.trans (hW.mono bx.size)
  have HZ0 : Hid (w.heap.size ≤ W0.heap.size) := bx.size
  have HZX : Hid (W0.heap.size = X + 1) := by show _ = _; rw [← HW0.out, ← HX.out]; simp
  have HS : Hid (∀ W, Below W0.heap.size W0 W → W.cell? ⟨X, 0, none⟩ = some (.int .i64 h.bays) ∧ W.cell? ⟨X, 1, none⟩ = some (.int .i64 h.rows) ∧ W.cell? ⟨X, 2, none⟩ = some (.int .i64 h.tiers)) := fun W hW => ⟨(kx.below hW hXl).cell 0, (kx.below hW hXl).cell 1, (kx.below hW hXl).cell 2⟩
  have B0 := Below.refl W0.heap.size W0
  obtain ⟨z0, z1, z2⟩ := HS.out W0 B0
  clear kx bx hXl ha hp
  have HPV : Hid (∀ W, Below W0.heap.size W0 W → Calls Try.prog 35 #[.agg #[.int .i64 h.bays, .int .i64 h.rows, .int .i64 h.tiers], .slice A l.length c, .slice P pl.length d] W fun e w' => e = .returned (.bool (pvS h l pl)) ∧ Below W0.heap.size W0 w') := fun W hW => (pv_spec h A P l pl c d W (HA0.out.below hW) hl (HP0.out.below hW) hpl hpd).mono fun e w' ⟨h1, h2⟩ => ⟨h1, hW.trans (h2.mono hW.size)⟩
  have HNXS : Hid (Calls Try.prog 74 #[.agg #[.int .i64 h.bays, .int .i64 h.rows, .int .i64 h.tiers], .slice A l.length c, .slice P pl.length d] W0 (AnsC (fun s => s) NX.length NX 3 W0)) := by
    rw [← HNX_.out]; exact next_spec h A P l pl c d W0 HA0.out hl HP0.out hpl hpd
  have HRWS : Hid (∀ W, Below W0.heap.size W0 W → Calls Try.prog 75 #[.agg #[.int .i64 h.bays, .int .i64 h.rows, .int .i64 h.tiers], .slice A l.length c, .slice P pl.length d] W (AnsC (fun s => s) WT.length WT 3 W)) := fun W hW => by
    rw [← HWT_.out]; exact rows_spec h A P l pl c d W (HA0.out.below hW) hl (HP0.out.below hW) hpl hpd
  go_enter Try.func47, Try.ntmps47
  go_wp2_with fail
  rw [HW0.out, HX.out]
  refine HNXS.out.mono ?_
  rintro e w1 ⟨SA, sc, rfl, hsc, os, b1⟩
  clear z0 z1 z2
  obtain ⟨z0, z1, z2⟩ := HS.out _ b1
  go_wp2_with fail
  refine (HRWS.out _ b1).mono ?_
  rintro e w2 ⟨WA, wc, rfl, hwc, ow, b2⟩
  have HRN := Lib.hid (os.rd.below b2)
  have HRW := Lib.hid ow.rd
  have HW0W := Lib.hid (b1.trans (b2.mono b1.size))
  clear z0 z1 z2 ow os b1 b2
  go_wp2_with fail
  go_loopw [7, 10] (fun bs i wr => ∃ (k : Nat) (v : Int), k ≤ NX.length ∧ i = .int .i64 k ∧ bs = .int .i64 v ∧ -1 ≤ v ∧ v ≤ 40 ∧ Hid (lightTo WT NX t k = v) ∧ Below w2.heap.size w2 wr) (fun _ i _ => NX.length - (intOf i).toNat)
  case atStart => exact ⟨0, -1, by omega, rfl, rfl, by omega, by omega, rfl, Below.refl _ _⟩
  case round =>
    obtain ⟨k, v, hk, rfl, rfl, hv1, hv9, HV, hbw⟩ := hrel
    by_cases hlt : k < NX.length
    · obtain ⟨bn, on, x, eN, hbn, Hx, hx0⟩ := (HRN.out.below hbw).at_ (k := k) hlt
      subst eN
      have q0 : (0 : Int) ≤ (k : Int) := by omega
      have q1 : (k : Int) < (NX.length : Int) := by omega
      obtain ⟨hvd, sx, rfl, hsl, _, _⟩ := HNXM.out x (mem_at Hx.out)
      have hsx36 : sx ≤ 36 := by have h1 := (slots_bd (pv_of hvd).1).2.2; have h2 := (pv_of hvd).2.2.1; omega
      have HVD := Lib.hid hvd
      obtain ⟨hr1, hr2, hr3⟩ := row_of hvd hsl
      rw [HWT_.out] at hr2 hr3
      rw [HT_.out] at hr1 hr2 hr3
      obtain ⟨r1, HR1⟩ : ∃ n, Hid (sx / t = n) := ⟨_, rfl⟩
      rw [HR1.out] at hr1 hr2 hr3
      obtain ⟨y1, HY1⟩ : ∃ y, Hid (wRow WT t (sx : Int) = y) := ⟨_, rfl⟩
      rw [HY1.out] at hr3
      have HRR1 := Lib.hid hr1
      have HRC1 := Lib.hid hr3
      have HS9 := Lib.hid (HW0W.out.trans (hbw.mono HW0W.out.size))
      obtain ⟨z0, z1, z2⟩ := HS.out _ HS9.out
      obtain ⟨_, _, ht1, ht3⟩ := (pv_of hvd).1
      clear hr1 hr3 hvd
      by_cases hvn : v < 0
      · have t0 : decide (v < 0) = true := decide_eq_true hvn
        have HNX : Hid (lightTo WT NX t (k + 1) = (sx : Int)) := by show _ = _; rw [lightTo_next Hx.out, if_pos (.inl (by rw [HV.out]; exact hvn))]
        clear hvn
        go_wp2_with fail
        refine wp_region_held_drew (S := (fun W => W.cell? ⟨X, 0, none⟩ = some (.int .i64 h.bays) ∧ W.cell? ⟨X, 1, none⟩ = some (.int .i64 h.rows) ∧ W.cell? ⟨X, 2, none⟩ = some (.int .i64 h.tiers))) (by kernel_rfl) (by (try dsimp only); exact ⟨z0, z1, z2⟩) (fun hHeld => ?_)
        refine wpAnyH_take (i := 0) (oi := ⟨some 25, _, _, _, _, _⟩) (v := ?_) rfl (by kernel_rfl) (by kernel_rfl) (by kernel_rfl) (fun _ _ _ h => h) (Or.inl ⟨by rfl, ?_⟩) (by assumption) ?_
        rotate_left
        · intro w hSw; (try dsimp only at hSw); go_simp; try rfl
        try simp only [Act.put, List.setIfInBounds_toArray, List.set_cons_zero, List.set_cons_succ]
        refine wpAnyH_take (i := 1) (oi := ⟨some 26, _, _, _, _, _⟩) (v := ?_) rfl (by kernel_rfl) (by kernel_rfl) (by kernel_rfl) (fun _ _ _ h => h) (Or.inl ⟨by rfl, ?_⟩) (by assumption) ?_
        rotate_left
        · intro w hSw; (try dsimp only at hSw); go_simp; try rfl
        try simp only [Act.put, List.setIfInBounds_toArray, List.set_cons_zero, List.set_cons_succ]
        refine wpAnyH_take (i := 2) (oi := ⟨some 27, _, _, _, _, _⟩) (v := ?_) rfl (by kernel_rfl) (by kernel_rfl) (by kernel_rfl) (fun _ _ _ h => h) (Or.inl ⟨by rfl, ?_⟩) (by assumption) ?_
        rotate_left
        · intro w hSw; (try dsimp only at hSw); go_simp; try rfl
        try simp only [Act.put, List.setIfInBounds_toArray, List.set_cons_zero, List.set_cons_succ]
        refine wpAnyH_take (i := 3) (oi := ⟨some 28, _, _, _, _, _⟩) (v := undef) rfl (by kernel_rfl) (by kernel_rfl) (by kernel_rfl) (fun _ _ _ h => h) (Or.inr ⟨by rfl, rfl⟩) (by assumption) ?_
        try simp only [Act.put, List.setIfInBounds_toArray, List.set_cons_zero, List.set_cons_succ]
        refine wpAnyH_take (i := 4) (oi := ⟨some 29, _, _, _, _, _⟩) (v := undef) rfl (by kernel_rfl) (by kernel_rfl) (by kernel_rfl) (fun _ _ _ h => h) (Or.inr ⟨by rfl, rfl⟩) (by assumption) ?_
        try simp only [Act.put, List.setIfInBounds_toArray, List.set_cons_zero, List.set_cons_succ]
        refine wpAnyH_take (i := 5) (oi := ⟨some 30, _, _, _, _, _⟩) (v := undef) rfl (by kernel_rfl) (by kernel_rfl) (by kernel_rfl) (fun _ _ _ h => h) (Or.inr ⟨by rfl, rfl⟩) (by assumption) ?_
        try simp only [Act.put, List.setIfInBounds_toArray, List.set_cons_zero, List.set_cons_succ]
        refine wpAnyH_take (i := 6) (oi := ⟨some 31, _, _, _, _, _⟩) (v := undef) rfl (by kernel_rfl) (by kernel_rfl) (by kernel_rfl) (fun _ _ _ h => h) (Or.inr ⟨by rfl, rfl⟩) (by assumption) ?_
        try simp only [Act.put, List.setIfInBounds_toArray, List.set_cons_zero, List.set_cons_succ]
        refine wpAnyH_take (i := 7) (oi := ⟨some 32, _, _, _, _, _⟩) (v := undef) rfl (by kernel_rfl) (by kernel_rfl) (by kernel_rfl) (fun _ _ _ h => h) (Or.inr ⟨by rfl, rfl⟩) (by assumption) ?_
        try simp only [Act.put, List.setIfInBounds_toArray, List.set_cons_zero, List.set_cons_succ]
        refine wpAnyH_take (i := 8) (oi := ⟨some 33, _, _, _, _, _⟩) (v := undef) rfl (by kernel_rfl) (by kernel_rfl) (by kernel_rfl) (fun _ _ _ h => h) (Or.inr ⟨by rfl, rfl⟩) (by assumption) ?_
        try simp only [Act.put, List.setIfInBounds_toArray, List.set_cons_zero, List.set_cons_succ]
        refine wpAnyH_take (i := 9) (oi := ⟨some 34, _, _, _, _, _⟩) (v := undef) rfl (by kernel_rfl) (by kernel_rfl) (by kernel_rfl) (fun _ _ _ h => h) (Or.inr ⟨by rfl, rfl⟩) (by assumption) ?_
        try simp only [Act.put, List.setIfInBounds_toArray, List.set_cons_zero, List.set_cons_succ]
        refine wpAnyH_take (i := 10) (oi := ⟨some 35, _, _, _, _, _⟩) (v := undef) rfl (by kernel_rfl) (by kernel_rfl) (by kernel_rfl) (fun _ _ _ h => h) (Or.inr ⟨by rfl, rfl⟩) (by assumption) ?_
        try simp only [Act.put, List.setIfInBounds_toArray, List.set_cons_zero, List.set_cons_succ]
        refine wpAnyH_take (i := 11) (oi := ⟨some 36, _, _, _, _, _⟩) (v := undef) rfl (by kernel_rfl) (by kernel_rfl) (by kernel_rfl) (fun _ _ _ h => h) (Or.inr ⟨by rfl, rfl⟩) (by assumption) ?_
        try simp only [Act.put, List.setIfInBounds_toArray, List.set_cons_zero, List.set_cons_succ]
        refine wpAnyH_take (i := 12) (oi := ⟨some 37, _, _, _, _, _⟩) (v := undef) rfl (by kernel_rfl) (by kernel_rfl) (by kernel_rfl) (fun _ _ _ h => h) (Or.inr ⟨by rfl, rfl⟩) (by assumption) ?_
        try simp only [Act.put, List.setIfInBounds_toArray, List.set_cons_zero, List.set_cons_succ]
        refine wpAnyH_take (i := 13) (oi := ⟨some 38, _, _, _, _, _⟩) (v := undef) rfl (by kernel_rfl) (by kernel_rfl) (by kernel_rfl) (fun _ _ _ h => h) (Or.inr ⟨by rfl, rfl⟩) (by assumption) ?_
        try simp only [Act.put, List.setIfInBounds_toArray, List.set_cons_zero, List.set_cons_succ]
        refine wpAnyH_take (i := 14) (oi := ⟨some 39, _, _, _, _, _⟩) (v := undef) rfl (by kernel_rfl) (by kernel_rfl) (by kernel_rfl) (fun _ _ _ h => h) (Or.inr ⟨by rfl, rfl⟩) (by assumption) ?_
        try simp only [Act.put, List.setIfInBounds_toArray, List.set_cons_zero, List.set_cons_succ]
        refine wpAnyH_take (i := 15) (oi := ⟨some 40, _, _, _, _, _⟩) (v := undef) rfl (by kernel_rfl) (by kernel_rfl) (by kernel_rfl) (fun _ _ _ h => h) (Or.inr ⟨by rfl, rfl⟩) (by assumption) ?_
        try simp only [Act.put, List.setIfInBounds_toArray, List.set_cons_zero, List.set_cons_succ]
        refine wpAnyH_take (i := 16) (oi := ⟨some 41, _, _, _, _, _⟩) (v := undef) rfl (by kernel_rfl) (by kernel_rfl) (by kernel_rfl) (fun _ _ _ h => h) (Or.inr ⟨by rfl, rfl⟩) (by assumption) ?_
        try simp only [Act.put, List.setIfInBounds_toArray, List.set_cons_zero, List.set_cons_succ]
        refine wpAnyH_take (i := 17) (oi := ⟨some 42, _, _, _, _, _⟩) (v := undef) rfl (by kernel_rfl) (by kernel_rfl) (by kernel_rfl) (fun _ _ _ h => h) (Or.inr ⟨by rfl, rfl⟩) (by assumption) ?_
        try simp only [Act.put, List.setIfInBounds_toArray, List.set_cons_zero, List.set_cons_succ]
        refine wpAnyH_take (i := 18) (oi := ⟨some 43, _, _, _, _, _⟩) (v := undef) rfl (by kernel_rfl) (by kernel_rfl) (by kernel_rfl) (fun _ _ _ h => h) (Or.inr ⟨by rfl, rfl⟩) (by assumption) ?_
        try simp only [Act.put, List.setIfInBounds_toArray, List.set_cons_zero, List.set_cons_succ]
        refine wpAnyH_take (i := 19) (oi := ⟨some 44, _, _, _, _, _⟩) (v := undef) rfl (by kernel_rfl) (by kernel_rfl) (by kernel_rfl) (fun _ _ _ h => h) (Or.inr ⟨by rfl, rfl⟩) (by assumption) ?_
        try simp only [Act.put, List.setIfInBounds_toArray, List.set_cons_zero, List.set_cons_succ]
        refine wpAnyH_take (i := 20) (oi := ⟨some 45, _, _, _, _, _⟩) (v := undef) rfl (by kernel_rfl) (by kernel_rfl) (by kernel_rfl) (fun _ _ _ h => h) (Or.inr ⟨by rfl, rfl⟩) (by assumption) ?_
        try simp only [Act.put, List.setIfInBounds_toArray, List.set_cons_zero, List.set_cons_succ]
        refine wpAnyH_take (i := 21) (oi := ⟨some 46, _, _, _, _, _⟩) (v := ?_) rfl (by kernel_rfl) (by kernel_rfl) (by kernel_rfl) (fun _ _ _ h => h) (Or.inl ⟨by rfl, ?_⟩) (by assumption) ?_
        rotate_left
        · intro w hSw; (try dsimp only at hSw); go_simp; try rfl
        try simp only [Act.put, List.setIfInBounds_toArray, List.set_cons_zero, List.set_cons_succ]
        refine wpAnyH_done (by kernel_rfl) ?_ _
        go_wp2_with fail
        exact ⟨⟨k + 1, sx, by omega, by go_num, rfl, by omega, by omega, HNX.out, below_drewN hbw 1⟩, by simp [intOf]; omega⟩
      · have t0 : decide (v < 0) = false := decide_eq_false hvn
        obtain ⟨sv, rfl⟩ := Int.eq_ofNat_of_zero_le (Int.not_lt.1 hvn)
        have hvm : ((sv : Nat) : Int) ∈ NX := by
          rcases lightTo_mem WT NX t k with h1 | h1
          · rw [HV.out] at h1; omega
          · rw [HV.out] at h1; exact h1
        obtain ⟨hvd, sv', esv, hsl2, _, _⟩ := HNXM.out _ hvm
        obtain rfl : sv = sv' := by omega
        obtain ⟨hr1, hr2', hr3⟩ := row_of hvd hsl2
        rw [HWT_.out] at hr2' hr3
        rw [HT_.out] at hr1 hr2' hr3
        obtain ⟨r2, HR2⟩ : ∃ n, Hid (sv / t = n) := ⟨_, rfl⟩
        rw [HR2.out] at hr1 hr2' hr3
        obtain ⟨y2, HY2⟩ : ∃ y, Hid (wRow WT t (sv : Int) = y) := ⟨_, rfl⟩
        rw [HY2.out] at hr3
        have HRR2 := Lib.hid hr1
        have HRC2 := Lib.hid hr3
        obtain ⟨bw_, ow, c1, eW, hbW, hw1⟩ := (HRW.out.below hbw) r1 y1 HRC1.out |>.elim fun a h => h.elim fun b h => (⟨a, b, (), h.1, h.2.1, h.2.2⟩ : ∃ (a b : Nat) (_ : Unit), WA = some ⟨a, b, none⟩ ∧ a < wr.heap.size ∧ wr.cell? ⟨a, b + r1, none⟩ = some (.int .i64 y1))
        subst eW
        obtain ⟨bw2, ow2, eW2, _, hw2⟩ := (HRW.out.below hbw) r2 y2 HRC2.out
        injection eW2 with eW2
        injection eW2 with eW2a eW2b eW2c
        subst eW2a eW2b
        clear eW2c hr1 hr3 hvd hvm hvn
        have p0 : (0 : Int) ≤ (r1 : Int) := by omega
        have p1 : (r1 : Int) < (WT.length : Int) := by omega
        have p2 : (0 : Int) ≤ (r2 : Int) := by omega
        have p3 : (r2 : Int) < (WT.length : Int) := by omega
        have g1_ : (sx : Int) / h.tiers = (r1 : Int) := HRR1.out
        have g2_ : (sv : Int) / h.tiers = (r2 : Int) := HRR2.out
        have g3_ : (0 : Int) ≤ (sx : Int) := by omega
        have g4_ : (sx : Int) ≤ 40 := by omega
        have g5_ : (0 : Int) ≤ (sv : Int) := by omega
        have g6_ : 0 < h.tiers := by omega
        have g7_ : ¬ h.tiers = 0 := by omega
        have gw1_ : IntKind.i64.wrap (r1 : Int) = (r1 : Int) := IntWalk.i64_in _ (by omega)
        have gw2_ : IntKind.i64.wrap (r2 : Int) = (r2 : Int) := IntWalk.i64_in _ (by omega)
        by_cases hc : y1 < y2
        · have t5 : decide (y1 < y2) = true := decide_eq_true hc
          have HNX : Hid (lightTo WT NX t (k + 1) = (sx : Int)) := by show _ = _; rw [lightTo_next Hx.out, HV.out, if_pos (.inr (by rw [HY1.out, HY2.out]; exact hc))]
          clear hc
          go_wp2_with fail
          refine wp_region_held_drew (S := (fun W => W.cell? ⟨X, 2, none⟩ = some (.int .i64 h.tiers) ∧ W.cell? ⟨bn, on + k, none⟩ = some (.int .i64 (sx : Int)) ∧ W.cell? ⟨bw_, ow + r1, none⟩ = some (.int .i64 y1) ∧ W.cell? ⟨bw_, ow + r2, none⟩ = some (.int .i64 y2))) (by kernel_rfl) (by (try dsimp only); exact ⟨z2, hx0, hw1, hw2⟩) (fun hHeld => ?_)
          refine wpAnyH_take (i := 0) (oi := ⟨some 25, _, _, _, _, _⟩) (v := ?_) rfl (by kernel_rfl) (by kernel_rfl) (by kernel_rfl) (fun _ _ _ h => h) (Or.inl ⟨by rfl, ?_⟩) (by assumption) ?_
          rotate_left
          · intro w hSw; (try dsimp only at hSw); go_simp; try rfl
          try simp only [Act.put, List.setIfInBounds_toArray, List.set_cons_zero, List.set_cons_succ]
          refine wpAnyH_take (i := 1) (oi := ⟨some 26, _, _, _, _, _⟩) (v := ?_) rfl (by kernel_rfl) (by kernel_rfl) (by kernel_rfl) (fun _ _ _ h => h) (Or.inl ⟨by rfl, ?_⟩) (by assumption) ?_
          rotate_left
          · intro w hSw; (try dsimp only at hSw); go_simp; try rfl
          try simp only [Act.put, List.setIfInBounds_toArray, List.set_cons_zero, List.set_cons_succ]
          refine wpAnyH_take (i := 2) (oi := ⟨some 27, _, _, _, _, _⟩) (v := ?_) rfl (by kernel_rfl) (by kernel_rfl) (by kernel_rfl) (fun _ _ _ h => h) (Or.inl ⟨by rfl, ?_⟩) (by assumption) ?_
          rotate_left
          · intro w hSw; (try dsimp only at hSw); go_simp; try rfl
          try simp only [Act.put, List.setIfInBounds_toArray, List.set_cons_zero, List.set_cons_succ]
          refine wpAnyH_take (i := 3) (oi := ⟨some 28, _, _, _, _, _⟩) (v := ?_) rfl (by kernel_rfl) (by kernel_rfl) (by kernel_rfl) (fun _ _ _ h => h) (Or.inl ⟨by rfl, ?_⟩) (by assumption) ?_
          rotate_left
          · intro w hSw; (try dsimp only at hSw); go_simp; try rfl
          try simp only [Act.put, List.setIfInBounds_toArray, List.set_cons_zero, List.set_cons_succ]
          refine wpAnyH_take (i := 4) (oi := ⟨some 29, _, _, _, _, _⟩) (v := ?_) rfl (by kernel_rfl) (by kernel_rfl) (by kernel_rfl) (fun _ _ _ h => h) (Or.inl ⟨by rfl, ?_⟩) (by assumption) ?_
          rotate_left
          · intro w hSw; (try dsimp only at hSw); go_simp; try rfl
          try simp only [Act.put, List.setIfInBounds_toArray, List.set_cons_zero, List.set_cons_succ]
          refine wpAnyH_take (i := 5) (oi := ⟨some 30, _, _, _, _, _⟩) (v := ?_) rfl (by kernel_rfl) (by kernel_rfl) (by kernel_rfl) (fun _ _ _ h => h) (Or.inl ⟨by rfl, ?_⟩) (by assumption) ?_
          rotate_left
          · intro w hSw; (try dsimp only at hSw); go_simp; try rfl
          try simp only [Act.put, List.setIfInBounds_toArray, List.set_cons_zero, List.set_cons_succ]
          refine wpAnyH_take (i := 6) (oi := ⟨some 31, _, _, _, _, _⟩) (v := ?_) rfl (by kernel_rfl) (by kernel_rfl) (by kernel_rfl) (fun _ _ _ h => h) (Or.inl ⟨by rfl, ?_⟩) (by assumption) ?_
          rotate_left
          · intro w hSw; (try dsimp only at hSw); go_simp; try rfl
          try simp only [Act.put, List.setIfInBounds_toArray, List.set_cons_zero, List.set_cons_succ]
          refine wpAnyH_take (i := 7) (oi := ⟨some 32, _, _, _, _, _⟩) (v := ?_) rfl (by kernel_rfl) (by kernel_rfl) (by kernel_rfl) (fun _ _ _ h => h) (Or.inl ⟨by rfl, ?_⟩) (by assumption) ?_
          rotate_left
          · intro w hSw; (try dsimp only at hSw); go_simp; try rfl
          try simp only [Act.put, List.setIfInBounds_toArray, List.set_cons_zero, List.set_cons_succ]
          refine wpAnyH_take (i := 8) (oi := ⟨some 33, _, _, _, _, _⟩) (v := ?_) rfl (by kernel_rfl) (by kernel_rfl) (by kernel_rfl) (fun _ _ _ h => h) (Or.inl ⟨by rfl, ?_⟩) (by assumption) ?_
          rotate_left
          · intro w hSw; (try dsimp only at hSw); go_simp; try rfl
          try simp only [Act.put, List.setIfInBounds_toArray, List.set_cons_zero, List.set_cons_succ]
          refine wpAnyH_take (i := 9) (oi := ⟨some 34, _, _, _, _, _⟩) (v := ?_) rfl (by kernel_rfl) (by kernel_rfl) (by kernel_rfl) (fun _ _ _ h => h) (Or.inl ⟨by rfl, ?_⟩) (by assumption) ?_
          rotate_left
          · intro w hSw; (try dsimp only at hSw); go_simp; try rfl
          try simp only [Act.put, List.setIfInBounds_toArray, List.set_cons_zero, List.set_cons_succ]
          refine wpAnyH_take (i := 10) (oi := ⟨some 35, _, _, _, _, _⟩) (v := ?_) rfl (by kernel_rfl) (by kernel_rfl) (by kernel_rfl) (fun _ _ _ h => h) (Or.inl ⟨by rfl, ?_⟩) (by assumption) ?_
          rotate_left
          · intro w hSw; (try dsimp only at hSw); go_simp; try rfl
          try simp only [Act.put, List.setIfInBounds_toArray, List.set_cons_zero, List.set_cons_succ]
          refine wpAnyH_take (i := 11) (oi := ⟨some 36, _, _, _, _, _⟩) (v := ?_) rfl (by kernel_rfl) (by kernel_rfl) (by kernel_rfl) (fun _ _ _ h => h) (Or.inl ⟨by rfl, ?_⟩) (by assumption) ?_
          rotate_left
          · intro w hSw; (try dsimp only at hSw); go_simp; try rfl
          try simp only [Act.put, List.setIfInBounds_toArray, List.set_cons_zero, List.set_cons_succ]
          refine wpAnyH_take (i := 12) (oi := ⟨some 37, _, _, _, _, _⟩) (v := ?_) rfl (by kernel_rfl) (by kernel_rfl) (by kernel_rfl) (fun _ _ _ h => h) (Or.inl ⟨by rfl, ?_⟩) (by assumption) ?_
          rotate_left
          · intro w hSw; (try dsimp only at hSw); go_simp; try rfl
          try simp only [Act.put, List.setIfInBounds_toArray, List.set_cons_zero, List.set_cons_succ]
          refine wpAnyH_take (i := 13) (oi := ⟨some 38, _, _, _, _, _⟩) (v := ?_) rfl (by kernel_rfl) (by kernel_rfl) (by kernel_rfl) (fun _ _ _ h => h) (Or.inl ⟨by rfl, ?_⟩) (by assumption) ?_
          rotate_left
          · intro w hSw; (try dsimp only at hSw); go_simp; try rfl
          try simp only [Act.put, List.setIfInBounds_toArray, List.set_cons_zero, List.set_cons_succ]
          refine wpAnyH_take (i := 14) (oi := ⟨some 39, _, _, _, _, _⟩) (v := ?_) rfl (by kernel_rfl) (by kernel_rfl) (by kernel_rfl) (fun _ _ _ h => h) (Or.inl ⟨by rfl, ?_⟩) (by assumption) ?_
          rotate_left
          · intro w hSw; (try dsimp only at hSw); go_simp; try rfl
          try simp only [Act.put, List.setIfInBounds_toArray, List.set_cons_zero, List.set_cons_succ]
          refine wpAnyH_take (i := 15) (oi := ⟨some 40, _, _, _, _, _⟩) (v := ?_) rfl (by kernel_rfl) (by kernel_rfl) (by kernel_rfl) (fun _ _ _ h => h) (Or.inl ⟨by rfl, ?_⟩) (by assumption) ?_
          rotate_left
          · intro w hSw; (try dsimp only at hSw); go_simp; try rfl
          try simp only [Act.put, List.setIfInBounds_toArray, List.set_cons_zero, List.set_cons_succ]
          refine wpAnyH_take (i := 16) (oi := ⟨some 41, _, _, _, _, _⟩) (v := ?_) rfl (by kernel_rfl) (by kernel_rfl) (by kernel_rfl) (fun _ _ _ h => h) (Or.inl ⟨by rfl, ?_⟩) (by assumption) ?_
          rotate_left
          · intro w hSw; (try dsimp only at hSw); go_simp; try rfl
          try simp only [Act.put, List.setIfInBounds_toArray, List.set_cons_zero, List.set_cons_succ]
          refine wpAnyH_take (i := 17) (oi := ⟨some 42, _, _, _, _, _⟩) (v := ?_) rfl (by kernel_rfl) (by kernel_rfl) (by kernel_rfl) (fun _ _ _ h => h) (Or.inl ⟨by rfl, ?_⟩) (by assumption) ?_
          rotate_left
          · intro w hSw; (try dsimp only at hSw); go_simp; try rfl
          try simp only [Act.put, List.setIfInBounds_toArray, List.set_cons_zero, List.set_cons_succ]
          refine wpAnyH_take (i := 18) (oi := ⟨some 43, _, _, _, _, _⟩) (v := ?_) rfl (by kernel_rfl) (by kernel_rfl) (by kernel_rfl) (fun _ _ _ h => h) (Or.inl ⟨by rfl, ?_⟩) (by assumption) ?_
          rotate_left
          · intro w hSw; (try dsimp only at hSw); go_simp; try rfl
          try simp only [Act.put, List.setIfInBounds_toArray, List.set_cons_zero, List.set_cons_succ]
          refine wpAnyH_take (i := 19) (oi := ⟨some 44, _, _, _, _, _⟩) (v := ?_) rfl (by kernel_rfl) (by kernel_rfl) (by kernel_rfl) (fun _ _ _ h => h) (Or.inl ⟨by rfl, ?_⟩) (by assumption) ?_
          rotate_left
          · intro w hSw; (try dsimp only at hSw); go_simp; try rfl
          try simp only [Act.put, List.setIfInBounds_toArray, List.set_cons_zero, List.set_cons_succ]
          refine wpAnyH_take (i := 20) (oi := ⟨some 45, _, _, _, _, _⟩) (v := ?_) rfl (by kernel_rfl) (by kernel_rfl) (by kernel_rfl) (fun _ _ _ h => h) (Or.inl ⟨by rfl, ?_⟩) (by assumption) ?_
          rotate_left
          · intro w hSw; (try dsimp only at hSw); go_simp; try rfl
          try simp only [Act.put, List.setIfInBounds_toArray, List.set_cons_zero, List.set_cons_succ]
          refine wpAnyH_take (i := 21) (oi := ⟨some 46, _, _, _, _, _⟩) (v := ?_) rfl (by kernel_rfl) (by kernel_rfl) (by kernel_rfl) (fun _ _ _ h => h) (Or.inl ⟨by rfl, ?_⟩) (by assumption) ?_
          rotate_left
          · intro w hSw; (try dsimp only at hSw); go_simp; try rfl
          try simp only [Act.put, List.setIfInBounds_toArray, List.set_cons_zero, List.set_cons_succ]
          refine wpAnyH_done (by kernel_rfl) ?_ _
          clear gw1_ gw2_
          go_wp2_with fail
          exact ⟨⟨k + 1, sx, by omega, by go_num, rfl, by omega, by omega, HNX.out, below_drewN hbw 1⟩, by simp [intOf]; omega⟩
        · have t5 : decide (y1 < y2) = false := decide_eq_false hc
          have HNX : Hid (lightTo WT NX t (k + 1) = (sv : Int)) := by show _ = _; rw [lightTo_next Hx.out, HV.out, if_neg (by rw [HY1.out, HY2.out]; omega)]
          clear hc
          go_wp2_with fail
          refine wp_region_held_drew (S := (fun W => W.cell? ⟨X, 2, none⟩ = some (.int .i64 h.tiers) ∧ W.cell? ⟨bn, on + k, none⟩ = some (.int .i64 (sx : Int)) ∧ W.cell? ⟨bw_, ow + r1, none⟩ = some (.int .i64 y1) ∧ W.cell? ⟨bw_, ow + r2, none⟩ = some (.int .i64 y2))) (by kernel_rfl) (by (try dsimp only); exact ⟨z2, hx0, hw1, hw2⟩) (fun hHeld => ?_)
          refine wpAnyH_take (i := 0) (oi := ⟨some 25, _, _, _, _, _⟩) (v := ?_) rfl (by kernel_rfl) (by kernel_rfl) (by kernel_rfl) (fun _ _ _ h => h) (Or.inl ⟨by rfl, ?_⟩) (by assumption) ?_
          rotate_left
          · intro w hSw; (try dsimp only at hSw); go_simp; try rfl
          try simp only [Act.put, List.setIfInBounds_toArray, List.set_cons_zero, List.set_cons_succ]
          refine wpAnyH_take (i := 1) (oi := ⟨some 26, _, _, _, _, _⟩) (v := ?_) rfl (by kernel_rfl) (by kernel_rfl) (by kernel_rfl) (fun _ _ _ h => h) (Or.inl ⟨by rfl, ?_⟩) (by assumption) ?_
          rotate_left
          · intro w hSw; (try dsimp only at hSw); go_simp; try rfl
          try simp only [Act.put, List.setIfInBounds_toArray, List.set_cons_zero, List.set_cons_succ]
          refine wpAnyH_take (i := 2) (oi := ⟨some 27, _, _, _, _, _⟩) (v := ?_) rfl (by kernel_rfl) (by kernel_rfl) (by kernel_rfl) (fun _ _ _ h => h) (Or.inl ⟨by rfl, ?_⟩) (by assumption) ?_
          rotate_left
          · intro w hSw; (try dsimp only at hSw); go_simp; try rfl
          try simp only [Act.put, List.setIfInBounds_toArray, List.set_cons_zero, List.set_cons_succ]
          refine wpAnyH_take (i := 3) (oi := ⟨some 28, _, _, _, _, _⟩) (v := ?_) rfl (by kernel_rfl) (by kernel_rfl) (by kernel_rfl) (fun _ _ _ h => h) (Or.inl ⟨by rfl, ?_⟩) (by assumption) ?_
          rotate_left
          · intro w hSw; (try dsimp only at hSw); go_simp; try rfl
          try simp only [Act.put, List.setIfInBounds_toArray, List.set_cons_zero, List.set_cons_succ]
          refine wpAnyH_take (i := 4) (oi := ⟨some 29, _, _, _, _, _⟩) (v := ?_) rfl (by kernel_rfl) (by kernel_rfl) (by kernel_rfl) (fun _ _ _ h => h) (Or.inl ⟨by rfl, ?_⟩) (by assumption) ?_
          rotate_left
          · intro w hSw; (try dsimp only at hSw); go_simp; try rfl
          try simp only [Act.put, List.setIfInBounds_toArray, List.set_cons_zero, List.set_cons_succ]
          refine wpAnyH_take (i := 5) (oi := ⟨some 30, _, _, _, _, _⟩) (v := ?_) rfl (by kernel_rfl) (by kernel_rfl) (by kernel_rfl) (fun _ _ _ h => h) (Or.inl ⟨by rfl, ?_⟩) (by assumption) ?_
          rotate_left
          · intro w hSw; (try dsimp only at hSw); go_simp; try rfl
          try simp only [Act.put, List.setIfInBounds_toArray, List.set_cons_zero, List.set_cons_succ]
          refine wpAnyH_take (i := 6) (oi := ⟨some 31, _, _, _, _, _⟩) (v := ?_) rfl (by kernel_rfl) (by kernel_rfl) (by kernel_rfl) (fun _ _ _ h => h) (Or.inl ⟨by rfl, ?_⟩) (by assumption) ?_
          rotate_left
          · intro w hSw; (try dsimp only at hSw); go_simp; try rfl
          try simp only [Act.put, List.setIfInBounds_toArray, List.set_cons_zero, List.set_cons_succ]
          refine wpAnyH_take (i := 7) (oi := ⟨some 32, _, _, _, _, _⟩) (v := ?_) rfl (by kernel_rfl) (by kernel_rfl) (by kernel_rfl) (fun _ _ _ h => h) (Or.inl ⟨by rfl, ?_⟩) (by assumption) ?_
          rotate_left
          · intro w hSw; (try dsimp only at hSw); go_simp; try rfl
          try simp only [Act.put, List.setIfInBounds_toArray, List.set_cons_zero, List.set_cons_succ]
          refine wpAnyH_take (i := 8) (oi := ⟨some 33, _, _, _, _, _⟩) (v := ?_) rfl (by kernel_rfl) (by kernel_rfl) (by kernel_rfl) (fun _ _ _ h => h) (Or.inl ⟨by rfl, ?_⟩) (by assumption) ?_
          rotate_left
          · intro w hSw; (try dsimp only at hSw); go_simp; try rfl
          try simp only [Act.put, List.setIfInBounds_toArray, List.set_cons_zero, List.set_cons_succ]
          refine wpAnyH_take (i := 9) (oi := ⟨some 34, _, _, _, _, _⟩) (v := ?_) rfl (by kernel_rfl) (by kernel_rfl) (by kernel_rfl) (fun _ _ _ h => h) (Or.inl ⟨by rfl, ?_⟩) (by assumption) ?_
          rotate_left
          · intro w hSw; (try dsimp only at hSw); go_simp; try rfl
          try simp only [Act.put, List.setIfInBounds_toArray, List.set_cons_zero, List.set_cons_succ]
          refine wpAnyH_take (i := 10) (oi := ⟨some 35, _, _, _, _, _⟩) (v := ?_) rfl (by kernel_rfl) (by kernel_rfl) (by kernel_rfl) (fun _ _ _ h => h) (Or.inl ⟨by rfl, ?_⟩) (by assumption) ?_
          rotate_left
          · intro w hSw; (try dsimp only at hSw); go_simp; try rfl
          try simp only [Act.put, List.setIfInBounds_toArray, List.set_cons_zero, List.set_cons_succ]
          refine wpAnyH_take (i := 11) (oi := ⟨some 36, _, _, _, _, _⟩) (v := ?_) rfl (by kernel_rfl) (by kernel_rfl) (by kernel_rfl) (fun _ _ _ h => h) (Or.inl ⟨by rfl, ?_⟩) (by assumption) ?_
          rotate_left
          · intro w hSw; (try dsimp only at hSw); go_simp; try rfl
          try simp only [Act.put, List.setIfInBounds_toArray, List.set_cons_zero, List.set_cons_succ]
          refine wpAnyH_take (i := 12) (oi := ⟨some 37, _, _, _, _, _⟩) (v := ?_) rfl (by kernel_rfl) (by kernel_rfl) (by kernel_rfl) (fun _ _ _ h => h) (Or.inl ⟨by rfl, ?_⟩) (by assumption) ?_
          rotate_left
          · intro w hSw; (try dsimp only at hSw); go_simp; try rfl
          try simp only [Act.put, List.setIfInBounds_toArray, List.set_cons_zero, List.set_cons_succ]
          refine wpAnyH_take (i := 13) (oi := ⟨some 38, _, _, _, _, _⟩) (v := ?_) rfl (by kernel_rfl) (by kernel_rfl) (by kernel_rfl) (fun _ _ _ h => h) (Or.inl ⟨by rfl, ?_⟩) (by assumption) ?_
          rotate_left
          · intro w hSw; (try dsimp only at hSw); go_simp; try rfl
          try simp only [Act.put, List.setIfInBounds_toArray, List.set_cons_zero, List.set_cons_succ]
          refine wpAnyH_take (i := 14) (oi := ⟨some 39, _, _, _, _, _⟩) (v := ?_) rfl (by kernel_rfl) (by kernel_rfl) (by kernel_rfl) (fun _ _ _ h => h) (Or.inl ⟨by rfl, ?_⟩) (by assumption) ?_
          rotate_left
          · intro w hSw; (try dsimp only at hSw); go_simp; try rfl
          try simp only [Act.put, List.setIfInBounds_toArray, List.set_cons_zero, List.set_cons_succ]
          refine wpAnyH_take (i := 15) (oi := ⟨some 40, _, _, _, _, _⟩) (v := ?_) rfl (by kernel_rfl) (by kernel_rfl) (by kernel_rfl) (fun _ _ _ h => h) (Or.inl ⟨by rfl, ?_⟩) (by assumption) ?_
          rotate_left
          · intro w hSw; (try dsimp only at hSw); go_simp; try rfl
          try simp only [Act.put, List.setIfInBounds_toArray, List.set_cons_zero, List.set_cons_succ]
          refine wpAnyH_take (i := 16) (oi := ⟨some 41, _, _, _, _, _⟩) (v := ?_) rfl (by kernel_rfl) (by kernel_rfl) (by kernel_rfl) (fun _ _ _ h => h) (Or.inl ⟨by rfl, ?_⟩) (by assumption) ?_
          rotate_left
          · intro w hSw; (try dsimp only at hSw); go_simp; try rfl
          try simp only [Act.put, List.setIfInBounds_toArray, List.set_cons_zero, List.set_cons_succ]
          refine wpAnyH_take (i := 17) (oi := ⟨some 42, _, _, _, _, _⟩) (v := ?_) rfl (by kernel_rfl) (by kernel_rfl) (by kernel_rfl) (fun _ _ _ h => h) (Or.inl ⟨by rfl, ?_⟩) (by assumption) ?_
          rotate_left
          · intro w hSw; (try dsimp only at hSw); go_simp; try rfl
          try simp only [Act.put, List.setIfInBounds_toArray, List.set_cons_zero, List.set_cons_succ]
          refine wpAnyH_take (i := 18) (oi := ⟨some 43, _, _, _, _, _⟩) (v := ?_) rfl (by kernel_rfl) (by kernel_rfl) (by kernel_rfl) (fun _ _ _ h => h) (Or.inl ⟨by rfl, ?_⟩) (by assumption) ?_
          rotate_left
          · intro w hSw; (try dsimp only at hSw); go_simp; try rfl
          try simp only [Act.put, List.setIfInBounds_toArray, List.set_cons_zero, List.set_cons_succ]
          refine wpAnyH_take (i := 19) (oi := ⟨some 44, _, _, _, _, _⟩) (v := ?_) rfl (by kernel_rfl) (by kernel_rfl) (by kernel_rfl) (fun _ _ _ h => h) (Or.inl ⟨by rfl, ?_⟩) (by assumption) ?_
          rotate_left
          · intro w hSw; (try dsimp only at hSw); go_simp; try rfl
          try simp only [Act.put, List.setIfInBounds_toArray, List.set_cons_zero, List.set_cons_succ]
          refine wpAnyH_take (i := 20) (oi := ⟨some 45, _, _, _, _, _⟩) (v := ?_) rfl (by kernel_rfl) (by kernel_rfl) (by kernel_rfl) (fun _ _ _ h => h) (Or.inl ⟨by rfl, ?_⟩) (by assumption) ?_
          rotate_left
          · intro w hSw; (try dsimp only at hSw); go_simp; try rfl
          try simp only [Act.put, List.setIfInBounds_toArray, List.set_cons_zero, List.set_cons_succ]
          refine wpAnyH_take (i := 21) (oi := ⟨some 46, _, _, _, _, _⟩) (v := ?_) rfl (by kernel_rfl) (by kernel_rfl) (by kernel_rfl) (fun _ _ _ h => h) (Or.inl ⟨by rfl, ?_⟩) (by assumption) ?_
          rotate_left
          · intro w hSw; (try dsimp only at hSw); go_simp; try rfl
          try simp only [Act.put, List.setIfInBounds_toArray, List.set_cons_zero, List.set_cons_succ]
          refine wpAnyH_done (by kernel_rfl) ?_ _
          clear gw1_ gw2_
          go_wp2_with fail
          exact ⟨⟨k + 1, sv, by omega, by go_num, rfl, by omega, by omega, HNX.out, below_drewN hbw 1⟩, by simp [intOf]; omega⟩
    · obtain rfl : k = NX.length := by omega
      have HF : Hid (r = v) := by show _ = _; rw [← HRES.out]; exact HV.out
      go_wp2_with fail
      go_ret
      exact ⟨ret_int HF.out.symm, HFIN.out _ (HW0W.out.trans (hbw.mono HW0W.out.size))⟩
end Go.Proofs.Ytphncbnnnickhaa
