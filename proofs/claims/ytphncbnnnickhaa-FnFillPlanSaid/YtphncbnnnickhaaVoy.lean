/- Overstowage: what a plan whose later ports are below needs; portAt, Overstows. -/
import Derived.Test.YtphncbnnnickhaaPut
namespace Go.Proofs.Ytphncbnnnickhaa
open Go.RowKit
set_option linter.unusedVariables false
set_option linter.unusedSimpArgs false

theorem mod_le {T : Int} (h : 0 ≤ T) (k : Nat) : (k : Int) % T ≤ k := by
  have e := Int.emod_add_mul_ediv (k : Int) T
  have := Int.mul_nonneg h (Int.ediv_nonneg (a := (k : Int)) (by omega) h)
  omega
def portV (l : List BoxV) (id : Int) : Int := match l[(atTo l id l.length).toNat]? with
  | some x => x.port
  | none => 0
def idAt (l : List BoxV) (id : Int) : Prop := 0 ≤ atTo l id l.length ∧ ∃ x, l[(atTo l id l.length).toNat]? = some x ∧ 0 ≤ x.port ∧ x.port ≤ 6
/-- In a row no box is above one of an earlier port, nor above none. -/
def Desc (l : List BoxV) (T : Int) (pl : List Int) : Prop := ∀ (i k : Nat) (y : Int), i < k → (k : Int) - (k : Int) % T ≤ i → pl[k]? = some y → y ≠ 0 → ∃ x, pl[i]? = some x ∧ x ≠ 0 ∧ portV l y ≤ portV l x
theorem id_at {h : HullV} {l : List BoxV} {pl : List Int} (hv : pvS h l pl = true) {i : Nat} {id : Int} (hx : pl[i]? = some id) (h0 : id ≠ 0) : idAt l id := by
  rcases pv_id hv hx with h1 | ⟨j, x, e, hj, hi⟩
  · exact absurd h1 h0
  · refine ⟨by omega, x, by rw [e, Int.toNat_natCast]; exact hj, ?_⟩
    have := (bvS_spec (pv_of hv).2.1).ok x (mem_at hj)
    unfold boxOk at this
    omega
theorem port_bd {l : List BoxV} {id : Int} (h : idAt l id) : 0 ≤ portV l id ∧ portV l id ≤ 6 := by
  obtain ⟨_, x, hx, h1, h2⟩ := h
  unfold portV
  rw [hx]
  exact ⟨h1, h2⟩
set_option maxHeartbeats 1600000 in
theorem portAt_any (A : Option Addr) (l : List BoxV) (c : Nat) (id : Int) (w : World) (ha : RdBox w A l) (hl : l.length ≤ 1048576) (ho : idAt l id) :
    Calls Try.prog 63 #[.slice A l.length c, .int .i64 id] w fun e w' => e = .returned (.int .i64 (portV l id)) ∧ Below w.heap.size w w' := by
  obtain ⟨h1, x, hx, _, _⟩ := ho
  have HB := Lib.hid (boxAt_any A l l.length c id w ha (Nat.le_refl _) hl)
  have HV : Hid (portV l id = x.port) := by show _ = _; unfold portV; rw [hx]
  rw [HV.out]
  obtain ⟨j, HJ⟩ : ∃ j : Nat, Hid (atTo l id l.length = j) := ⟨_, (Int.toNat_of_nonneg h1).symm⟩
  rw [HJ.out] at HB hx
  have hj : j < l.length := by rw [Int.toNat_natCast] at hx; exact (List.getElem?_eq_some_iff.1 hx).1
  obtain ⟨b, off, e, hb, _, _, _, hw, _⟩ := ha j x (by rw [Int.toNat_natCast] at hx; exact hx)
  subst e
  have p0 : (0 : Int) ≤ (j : Int) := by omega
  have p1 : (j : Int) < (l.length : Int) := by omega
  clear h1 hx
  go_enter Try.func63, Try.ntmps63
  go_wp2_with fail
  refine HB.out.mono ?_
  rintro e w1 ⟨rfl, b1⟩
  have hw := (b1.cell (p := ⟨b, off + j * 5 + 3, none⟩) hb).trans hw
  go_wp2_with fail
  go_ret
  exact ⟨rfl, b1⟩
set_option maxHeartbeats 6400000 in
set_option maxRecDepth 20000 in
theorem over_impl (h : HullV) (A P : Option Addr) (l : List BoxV) (pl : List Int) (c d : Nat) (hv : pvS h l pl = true) (hd : Desc l h.tiers pl) (w : World) (ha : RdBox w A l) (hl : l.length ≤ 1048576) (hlc : l.length ≤ c) (hp : Rd w P pl) (hpl : pl.length ≤ 1048576) (hpd : pl.length ≤ d) :
    Calls Try.prog 29 #[.agg #[.int .i64 h.bays, .int .i64 h.rows, .int .i64 h.tiers], .slice A l.length c, .slice P pl.length d] w (fun e w' => e = .returned (.int .i64 0) ∧ Below w.heap.size w w') := by
  have kx := Blk.new w 36 #[.int .i64 h.bays, .int .i64 h.rows, .int .i64 h.tiers]
  have bx : Below w.heap.size w (w.alloc (.cells #[.int .i64 h.bays, .int .i64 h.rows, .int .i64 h.tiers] 36)) := below_one _
  obtain ⟨W0, HW0⟩ : ∃ W0, Hid (w.alloc (.cells #[.int .i64 h.bays, .int .i64 h.rows, .int .i64 h.tiers] 36) = W0) := ⟨_, rfl⟩
  rw [HW0.out] at kx bx
  have HA0 := Lib.hid (ha.below bx)
  have HP0 := Lib.hid (hp.below bx)
  obtain ⟨X, HX⟩ : ∃ X, Hid (w.heap.size = X) := ⟨_, rfl⟩
  rw [HX.out] at kx
  have hXl := kx.lt
  have HFIN : Hid (∀ W, Below W0.heap.size W0 W → Below w.heap.size w W) := fun W hW => bx.trans (hW.mono bx.size)
  have HZ0 : Hid (w.heap.size ≤ W0.heap.size) := bx.size
  have HZX : Hid (W0.heap.size = X + 1) := by show _ = _; rw [← HW0.out, ← HX.out]; simp
  have HS : Hid (∀ W, Below W0.heap.size W0 W → W.cell? ⟨X, 0, none⟩ = some (.int .i64 h.bays) ∧ W.cell? ⟨X, 1, none⟩ = some (.int .i64 h.rows) ∧ W.cell? ⟨X, 2, none⟩ = some (.int .i64 h.tiers)) := fun W hW => ⟨(kx.below hW hXl).cell 0, (kx.below hW hXl).cell 1, (kx.below hW hXl).cell 2⟩
  have B0 := Below.refl W0.heap.size W0
  obtain ⟨z0, z1, z2⟩ := HS.out W0 B0
  clear kx bx hXl ha hp
  have HPV : Hid (∀ W, Below W0.heap.size W0 W → Calls Try.prog 28 #[.agg #[.int .i64 h.bays, .int .i64 h.rows, .int .i64 h.tiers], .slice A l.length c, .slice P pl.length d] W fun e w' => e = .returned (.bool (pvS h l pl)) ∧ Below W0.heap.size W0 w') := fun W hW => (pv_impl h A P l pl c d W (HA0.out.below hW) hl hlc (HP0.out.below hW) hpl hpd).mono fun e w' ⟨h1, h2⟩ => ⟨h1, hW.trans (h2.mono hW.size)⟩
  have HPT := Lib.hid (bool_to' (HPV.out W0 B0) hv)
  have HK := Lib.hid (pv_of hv).1
  have HNL := Lib.hid (pv_of hv).2.2.1
  have HID := Lib.hid (fun (i : Nat) (id : Int) (hx : pl[i]? = some id) (h0 : id ≠ 0) => id_at hv hx h0)
  have HDE := Lib.hid hd
  have hn36 : pl.length ≤ 36 := by have := (slots_bd HK.out).2.2; have := HNL.out; omega
  clear hv hd
  have HPO : Hid (∀ (W : World) (i : Nat) (id : Int), Below W0.heap.size W0 W → pl[i]? = some id → id ≠ 0 → Calls Try.prog 63 #[.slice A l.length c, .int .i64 id] W fun e w' => e = .returned (.int .i64 (portV l id)) ∧ Below W.heap.size W w') := fun W i id hW hx h0 => portAt_any A l c id W (HA0.out.below hW) hl (HID.out i id hx h0)
  go_enter Try.func29, Try.ntmps29
  go_wp2_with fail
  rw [HW0.out, HX.out]
  refine HPT.out.mono ?_
  rintro e w1 ⟨rfl, b1⟩
  clear z0 z1 z2
  go_wp2_with fail
  go_loopw [7, 18] (fun mn i wr => mn = .int .i64 0 ∧ ∃ k : Nat, k ≤ pl.length ∧ i = .int .i64 k ∧ Below W0.heap.size W0 wr) (fun _ i _ => pl.length - (intOf i).toNat)
  case atStart => exact ⟨rfl, 0, by omega, rfl, b1⟩
  case round =>
    clear b1
    obtain ⟨rfl, k, hk, rfl, hbw⟩ := hrel
    by_cases hlt : k < pl.length
    · obtain ⟨b, off, x, rfl, hbx, Hx, hx0⟩ := (HP0.out.below hbw).at_ (k := k) hlt
      have q0 : (0 : Int) ≤ (k : Int) := by omega
      have q1 : (k : Int) < (pl.length : Int) := by omega
      by_cases h0 : x = 0
      · have t1 : (x == 0) = true := beq_iff_eq.2 h0
        clear h0
        go_wp2_with fail
        exact ⟨⟨rfl, k + 1, by omega, by go_num, hbw⟩, by simp [intOf]; omega⟩
      · have t1 : (x == 0) = false := beq_eq_false_iff_ne.2 h0
        have HX0 := Lib.hid h0
        clear h0
        obtain ⟨m, HMM⟩ : ∃ m, Hid ((k : Int) % h.tiers = m) := ⟨_, rfl⟩
        have hm0 : 0 ≤ m := by rw [← HMM.out]; exact Int.emod_nonneg _ (by have := HK.out.2.2.1; omega)
        have hmk : m ≤ k := by rw [← HMM.out]; exact mod_le (by have := HK.out.2.2.1; omega) k
        have HT : Hid (∀ W, Below W0.heap.size W0 W → Calls Try.prog 62 #[.agg #[.int .i64 h.bays, .int .i64 h.rows, .int .i64 h.tiers], .int .i64 k] W fun e w' => e = .returned (.int .i64 m) ∧ Below W.heap.size W w') := fun W hW => by
          rw [← HMM.out]
          exact tier_any h k W HK.out (by omega) (by omega)
        obtain ⟨z0, z1, z2⟩ := HS.out _ hbw
        go_wp2_with fail
        refine (HT.out _ hbw).mono ?_
        rintro e w4 ⟨rfl, b4⟩
        have hb4 := hbw.trans (b4.mono hbw.size)
        clear z0 z1 z2 b4 hx0
        go_wp2_with fail
        go_loopw [7, 10] (fun mn i wr => mn = .int .i64 0 ∧ ∃ j : Nat, (k : Int) - m ≤ j ∧ j ≤ k ∧ i = .int .i64 j ∧ Below W0.heap.size W0 wr) (fun _ i _ => k - (intOf i).toNat)
        case atStart => exact ⟨rfl, ((k : Int) - m).toNat, by omega, by omega, by rw [Int.toNat_of_nonneg (by omega)], hb4⟩
        case round =>
          clear hb4
          obtain ⟨rfl, j, hj1, hj2, rfl, hbw⟩ := hrel
          by_cases hjk : j < k
          · obtain ⟨b2, off2, y, e2, hb2, Hy, hy0⟩ := (HP0.out.below hbw).at_ (k := j) (by omega)
            injection e2 with e2
            injection e2 with e2a e2b e2c
            subst e2a e2b
            clear e2c
            have p0 : (0 : Int) ≤ (j : Int) := by omega
            have p1 : (j : Int) < (pl.length : Int) := by omega
            have p2 : (j : Int) < (k : Int) := by omega
            obtain ⟨u, HU⟩ : ∃ u, Hid (portV l x = u) := ⟨_, rfl⟩
            obtain ⟨v, HV⟩ : ∃ v, Hid (portV l y = v) := ⟨_, rfl⟩
            have HYY : Hid (y ≠ 0 ∧ u ≤ v) := by
              obtain ⟨y', e1, e2, e3⟩ := HDE.out j k x hjk (by rw [HMM.out]; exact hj1) Hx.out HX0.out
              rw [Hy.out] at e1
              injection e1 with e1
              subst e1
              rw [HU.out, HV.out] at e3
              exact ⟨e2, e3⟩
            have HP1 : Hid (∀ W, Below W0.heap.size W0 W → _) := fun W hW => HPO.out W j y hW Hy.out HYY.out.1
            have HP2 : Hid (∀ W, Below W0.heap.size W0 W → _) := fun W hW => HPO.out W k x hW Hx.out HX0.out
            rw [HV.out] at HP1
            rw [HU.out] at HP2
            have t3 : decide (v < u) = false := by have := HYY.out.2; simp; omega
            go_wp2_with fail
            refine (HP1.out _ hbw).mono ?_
            rintro e w5 ⟨rfl, b5⟩
            have hb5 := hbw.trans (b5.mono hbw.size)
            go_wp2_with fail
            refine (HP2.out _ hb5).mono ?_
            rintro e w6 ⟨rfl, b6⟩
            have hb6 := hb5.trans (b6.mono hb5.size)
            go_wp2_with fail
            exact ⟨⟨rfl, j + 1, by omega, by omega, by go_num, hb6⟩, by simp [intOf]; omega⟩
          · have p2 : ¬ (j : Int) < (k : Int) := by omega
            go_wp2_with fail
            exact ⟨⟨rfl, k + 1, by omega, by go_num, hbw⟩, by simp [intOf]; omega⟩
    · obtain rfl : k = pl.length := by omega
      go_wp2_with fail
      go_ret
      exact ⟨rfl, HFIN.out _ hbw⟩
end Go.Proofs.Ytphncbnnnickhaa
