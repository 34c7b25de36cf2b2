/- VoyageMoves of the program, at plans whose later ports are below. -/
import Derived.Test.YtphncbnnnickhaaVoy2
import Derived.Test.YtphncbnnnickhaaLeft
import Derived.Test.YtphncbnnnickhaaFillP
namespace Go.Proofs.Ytphncbnnnickhaa
open Go.RowKit
set_option linter.unusedVariables false
set_option linter.unusedSimpArgs false

/-- The plan with the boxes for port p and later. -/
def keepL (l : List BoxV) (p : Int) (pl : List Int) : List Int := pl.map fun id => if id ≠ 0 ∧ p ≤ portV l id then id else 0
/-- How many boxes are for a port before p, in the first k slots. -/
def lowTo (l : List BoxV) (p : Int) (pl : List Int) : Nat → Nat
  | 0 => 0
  | k + 1 => match pl[k]? with
    | some id => if id ≠ 0 ∧ portV l id < p then lowTo l p pl k + 1 else lowTo l p pl k
    | none => lowTo l p pl k
section
variable {l : List BoxV} {T p : Int} {pl : List Int} {k : Nat} {x : Int}
theorem keep_length : (keepL l p pl).length = pl.length := List.length_map _
theorem keep_at (hx : pl[k]? = some x) : (keepL l p pl)[k]? = some (if x ≠ 0 ∧ p ≤ portV l x then x else 0) := by rw [keepL, List.getElem?_map, hx]; rfl
theorem keep_inv (hx : (keepL l p pl)[k]? = some x) (h0 : x ≠ 0) : pl[k]? = some x ∧ p ≤ portV l x := by
  rw [keepL, List.getElem?_map] at hx
  cases hy : pl[k]? with
  | none => rw [hy] at hx; cases hx
  | some y =>
    rw [hy] at hx
    injection hx with hx
    simp only at hx
    split at hx
    · next h => subst hx; exact ⟨rfl, h.2⟩
    · exact absurd hx.symm h0
theorem keep_zero (hp : ∀ (i : Nat) (id : Int), pl[i]? = some id → id ≠ 0 → 0 ≤ portV l id) : keepL l 0 pl = pl := by
  apply List.ext_getElem?
  intro i
  cases hx : pl[i]? with
  | none => rw [keepL, List.getElem?_map, hx]; rfl
  | some x =>
    rw [keep_at hx]
    by_cases h0 : x = 0
    · simp [h0]
    · rw [if_pos ⟨h0, hp i x hx h0⟩]
theorem keep_after : afterS l p (keepL l p pl) = keepL l (p + 1) pl := by
  unfold afterS keepL
  rw [List.map_map]
  apply List.map_congr_left
  intro id _
  show (if keepQ l p (if id ≠ 0 ∧ p ≤ portV l id then id else 0) then (if id ≠ 0 ∧ p ≤ portV l id then id else 0) else 0) = _
  by_cases h0 : id = 0
  · simp [h0]
  · by_cases h1 : p ≤ portV l id
    · have e : (if id ≠ 0 ∧ p ≤ portV l id then id else 0) = id := if_pos ⟨h0, h1⟩
      rw [e]
      by_cases h2 : portV l id = p
      · rw [if_neg (fun h => h.2 h2), if_neg (fun h => by have := h.2; omega)]
      · rw [if_pos ⟨h0, h2⟩, if_pos ⟨h0, by omega⟩]
    · have e : (if id ≠ 0 ∧ p ≤ portV l id then id else 0) = 0 := if_neg (fun h => h1 h.2)
      rw [e, if_neg (fun h => h.1 rfl), if_neg (fun h => by have := h.2; omega)]
theorem keep_desc (hd : Desc l T pl) : Desc l T (keepL l p pl) := by
  intro i k y hik hc hy h0
  obtain ⟨hy1, hp⟩ := keep_inv hy h0
  obtain ⟨x, hx, hx0, hpx⟩ := hd i k y hik hc hy1 h0
  exact ⟨x, by rw [keep_at hx, if_pos ⟨hx0, by omega⟩], hx0, hpx⟩
theorem keep_pv {h : HullV} (hv : pvS h l pl = true) (hd : Desc l h.tiers pl) : pvS h l (keepL l p pl) = true := by
  obtain ⟨v1, v2, v3, v4⟩ := pv_of hv
  rw [pvS_rest v1 v2 (by rw [keep_length]; exact v3)]
  refine pvTo_all (Nat.le_refl _) fun k y hk hy => ?_
  by_cases h0 : y = 0
  · exact .inl h0
  · obtain ⟨hy1, hp⟩ := keep_inv hy h0
    rcases pvTo_at v4 k y (by rw [keep_length] at hk; exact hk) hy1 with h1 | h1
    · exact .inl h1
    · right
      rintro (hb | hb | ⟨hb1, hb2⟩)
      · exact h1 (.inl hb)
      · obtain ⟨i, hi⟩ := List.getElem?_of_mem hb
        rw [List.getElem?_take] at hi
        split at hi
        · next hik =>
          exact h1 (.inr (.inl (List.mem_of_getElem? (i := i) (by rw [List.getElem?_take, if_pos hik]; exact (keep_inv hi h0).1))))
        · cases hi
      · have hk1 : 1 ≤ k := by
          rcases Nat.eq_zero_or_pos k with e | e
          · subst e; simp at hb1
          · exact e
        obtain ⟨x, hx, hx0, hpx⟩ := hd (k - 1) k y (by omega) (by omega) hy1 h0
        rw [keep_at hx, if_pos ⟨hx0, by omega⟩] at hb2
        injection hb2 with hb2
        exact hx0 hb2
theorem low_next : lowTo l (p + 1) pl k = lowTo l p pl k + (movesTo l p (keepL l p pl) k).length := by
  induction k with
  | zero => rfl
  | succ k ih =>
    cases hx : pl[k]? with
    | none =>
      have e : (keepL l p pl)[k]? = none := by rw [keepL, List.getElem?_map, hx]; rfl
      simp only [lowTo, movesTo, hx, e]
      exact ih
    | some x =>
      have e := keep_at (l := l) (p := p) hx
      by_cases h0 : x = 0
      · rw [if_neg (fun h => h.1 h0)] at e
        rw [movesTo_no e (fun h => h.1 rfl)]
        simp only [lowTo, hx, h0]
        simpa using ih
      · by_cases h1 : p ≤ portV l x
        · rw [if_pos ⟨h0, h1⟩] at e
          by_cases h2 : portV l x = p
          · rw [movesTo_yes e h0 h2, List.length_append, List.length_singleton]
            simp only [lowTo, hx]
            rw [if_pos ⟨h0, by omega⟩, if_neg (fun h => by have := h.2; omega), ih]
            omega
          · rw [movesTo_no e (fun h => h2 h.2)]
            simp only [lowTo, hx]
            rw [if_neg (fun h => by have := h.2; omega), if_neg (fun h => by have := h.2; omega), ih]
        · rw [if_neg (fun h => h1 h.2)] at e
          rw [movesTo_no e (fun h => h.1 rfl)]
          simp only [lowTo, hx]
          rw [if_pos ⟨h0, by omega⟩, if_pos ⟨h0, by omega⟩, ih]
          omega
theorem low_zero (hp : ∀ (i : Nat) (id : Int), pl[i]? = some id → id ≠ 0 → 0 ≤ portV l id) : ∀ k, lowTo l 0 pl k = 0 := by
  intro k
  induction k with
  | zero => rfl
  | succ k ih =>
    cases hx : pl[k]? with
    | none => simp only [lowTo, hx]; exact ih
    | some x =>
      simp only [lowTo, hx]
      rw [if_neg (fun h => by have := hp k x hx h.1; have := h.2; omega)]
      exact ih
theorem low_end (hp : ∀ (i : Nat) (id : Int), pl[i]? = some id → id ≠ 0 → portV l id ≤ 6) : ∀ k, lowTo l 7 pl k = (idsTo pl k).length := by
  intro k
  induction k with
  | zero => rfl
  | succ k ih =>
    cases hx : pl[k]? with
    | none => simp only [lowTo, idsTo, hx]; exact ih
    | some x =>
      by_cases h0 : x = 0
      · rw [idsTo_zero hx h0]
        simp only [lowTo, hx]
        rw [if_neg (fun h => h.1 h0)]
        exact ih
      · rw [idsTo_id hx h0, List.length_append, List.length_singleton]
        simp only [lowTo, hx]
        rw [if_pos ⟨h0, by have := hp k x hx h0; omega⟩, ih]
theorem low_le : ∀ k, lowTo l p pl k ≤ k := by
  intro k
  induction k with
  | zero => exact Nat.le_refl _
  | succ k ih =>
    simp only [lowTo]
    split
    · split <;> omega
    · omega
end
set_option maxHeartbeats 12800000 in
set_option maxRecDepth 20000 in
theorem voy_impl (h : HullV) (A P : Option Addr) (l : List BoxV) (pl : List Int) (c d : Nat) (hv : pvS h l pl = true) (hd : Desc l h.tiers pl) (N : Nat) (HN : Hid ((idsTo pl pl.length).length = N)) (w : World) (ha : RdBox w A l) (hl : l.length ≤ 1048576) (hlc : l.length ≤ c) (hp : Rd w P pl) (hpl : pl.length ≤ 1048576) (hpd : pl.length ≤ d) :
    Calls Try.prog 30 #[.agg #[.int .i64 h.bays, .int .i64 h.rows, .int .i64 h.tiers], .slice A l.length c, .slice P pl.length d] w (fun e w' => e = .returned (.int .i64 (N : Int)) ∧ Below w.heap.size w w') := by
  have HV := Lib.hid hv
  have HD := Lib.hid hd
  have kx := Blk.new w 36 #[.int .i64 h.bays, .int .i64 h.rows, .int .i64 h.tiers]
  have bx : Below w.heap.size w (w.alloc (.cells #[.int .i64 h.bays, .int .i64 h.rows, .int .i64 h.tiers] 36)) := below_one _
  obtain ⟨W0, HW0⟩ : ∃ W0, Hid (w.alloc (.cells #[.int .i64 h.bays, .int .i64 h.rows, .int .i64 h.tiers] 36) = W0) := ⟨_, rfl⟩
  rw [HW0.out] at kx bx
  have HA0 := Lib.hid (ha.below bx)
  have HP0 := Lib.hid (hp.below bx)
  obtain ⟨X, HX⟩ : ∃ X, Hid (w.heap.size = X) := ⟨_, rfl⟩
  rw [HX.out] at kx
  have hXl := kx.lt
  have HFIN : Hid (∀ W, Below W0.heap.size W0 W → Below w.heap.size w W) := fun W hW => bx.trans (hW.mono bx.size)
  have HZ0 : Hid (w.heap.size ≤ W0.heap.size) := bx.size
  have HZX : Hid (W0.heap.size = X + 1) := by show _ = _; rw [← HW0.out, ← HX.out]; simp
  have HS : Hid (∀ W, Below W0.heap.size W0 W → W.cell? ⟨X, 0, none⟩ = some (.int .i64 h.bays) ∧ W.cell? ⟨X, 1, none⟩ = some (.int .i64 h.rows) ∧ W.cell? ⟨X, 2, none⟩ = some (.int .i64 h.tiers)) := fun W hW => ⟨(kx.below hW hXl).cell 0, (kx.below hW hXl).cell 1, (kx.below hW hXl).cell 2⟩
  have B0 := Below.refl W0.heap.size W0
  obtain ⟨z0, z1, z2⟩ := HS.out W0 B0
  clear kx bx hXl ha hp
  have HPV : Hid (∀ W, Below W0.heap.size W0 W → Calls Try.prog 28 #[.agg #[.int .i64 h.bays, .int .i64 h.rows, .int .i64 h.tiers], .slice A l.length c, .slice P pl.length d] W fun e w' => e = .returned (.bool (pvS h l pl)) ∧ Below W0.heap.size W0 w') := fun W hW => (pv_impl h A P l pl c d W (HA0.out.below hW) hl hlc (HP0.out.below hW) hpl hpd).mono fun e w' ⟨h1, h2⟩ => ⟨h1, hW.trans (h2.mono hW.size)⟩
  have HPT := Lib.hid (bool_to' (HPV.out W0 B0) hv)
  have HK := Lib.hid (pv_of hv).1
  have HNL := Lib.hid (pv_of hv).2.2.1
  have HID := Lib.hid (fun (i : Nat) (id : Int) (hx : pl[i]? = some id) (h0 : id ≠ 0) => id_at hv hx h0)
  have HDE := Lib.hid hd
  have hn36 : pl.length ≤ 36 := by have := (slots_bd HK.out).2.2; have := HNL.out; omega
  have HB0 : Hid (∀ (i : Nat) (id : Int), pl[i]? = some id → id ≠ 0 → 0 ≤ portV l id) := fun i id hx h0 => (port_bd (HID.out i id hx h0)).1
  have HB6 : Hid (∀ (i : Nat) (id : Int), pl[i]? = some id → id ≠ 0 → portV l id ≤ 6) := fun i id hx h0 => (port_bd (HID.out i id hx h0)).2
  clear hv hd
  obtain ⟨F, HF⟩ : ∃ F : Nat → Nat, Hid (∀ p : Nat, lowTo l (p : Int) pl pl.length = F p) := ⟨fun p => lowTo l (p : Int) pl pl.length, fun _ => rfl⟩
  have HF0 : Hid (F 0 = 0) := by show _ = _; rw [← HF.out]; exact low_zero HB0.out _
  have HF7 : Hid (F 7 = N) := by show _ = _; rw [← HF.out, ← HN.out]; exact low_end HB6.out _
  have HFL : Hid (∀ p, F p ≤ 36) := fun p => by rw [← HF.out]; have := low_le (l := l) (p := (p : Int)) (pl := pl) pl.length; omega
  have HFN : Hid (∀ p : Nat, F (p + 1) = F p + (movesTo l (p : Int) (keepL l p pl) pl.length).length) := fun p => by
    rw [← HF.out, ← HF.out, show ((p + 1 : Nat) : Int) = (p : Int) + 1 from by omega]
    exact low_next
  have HR0 : Hid (Rd W0 P (keepL l ((0 : Nat) : Int) pl)) := by show Rd _ _ _; rw [show (((0 : Nat) : Int)) = 0 from rfl, keep_zero HB0.out]; exact HP0.out
  go_enter Try.func30, Try.ntmps30
  go_wp2_with fail
  rw [HW0.out, HX.out]
  refine HPT.out.mono ?_
  rintro e w1 ⟨rfl, b1⟩
  clear z0 z1 z2
  go_wp2_with fail
  go_loopw [2, 7, 14] (fun pv mn i wr => ∃ (p : Nat) (P' : Option Addr) (d' : Nat), p ≤ 7 ∧ i = .int .i64 p ∧ mn = .int .i64 (F p : Int) ∧ pv = .slice P' pl.length d' ∧ pl.length ≤ d' ∧ Hid (Rd wr P' (keepL l (p : Int) pl)) ∧ Below W0.heap.size W0 wr) (fun _ _ i _ => 7 - (intOf i).toNat)
  case atStart => exact ⟨0, P, d, by omega, rfl, by rw [HF0.out]; rfl, rfl, hpd, HR0.out.below b1, b1⟩
  case round =>
    clear b1
    obtain ⟨p, P', d', hp7, rfl, rfl, rfl, hd', HR, hbw⟩ := hrel
    by_cases hlt : p < 7
    · have q0 : (0 : Int) ≤ (p : Int) := by omega
      have q1 : (p : Int) < 7 := by omega
      obtain ⟨n, HNN⟩ : ∃ n, Hid ((movesTo l (p : Int) (keepL l p pl) pl.length).length = n) := ⟨_, rfl⟩
      have HFS : Hid (F (p + 1) = F p + n) := by show _ = _; rw [HFN.out, HNN.out]
      have hf1 : F p + n ≤ 36 := by rw [← HFS.out]; exact HFL.out _
      have HGE : Hid (∀ (i : Nat) (id : Int), (keepL l (p : Int) pl)[i]? = some id → id ≠ 0 → (p : Int) ≤ portV l id) := fun i id hx h0 => (keep_inv hx h0).2
      have HMV : Hid (∀ W, Below wr.heap.size wr W → Calls Try.prog 64 #[.agg #[.int .i64 h.bays, .int .i64 h.rows, .int .i64 h.tiers], .slice A l.length c, .slice P' pl.length d', .int .i64 p] W fun e w' => (∃ SA sc, e = .returned (.slice SA n sc)) ∧ Below W.heap.size W w') := fun W hW => by
        have hq := moves_impl h A P' l (keepL l (p : Int) pl) c d' (p : Int) q0 (by omega) (keep_pv HV.out HD.out) (keep_desc HD.out) HGE.out W (HA0.out.below (hbw.trans (hW.mono hbw.size))) hl hlc (HR.out.below hW) (by rw [keep_length]; exact hpl) (by rw [keep_length]; exact hd')
        rw [keep_length, HNN.out] at hq
        exact hq.mono fun e w' ⟨SA, sc, h1, _, _, h4⟩ => ⟨⟨SA, sc, h1⟩, h4⟩
      have HAF : Hid (∀ W, Below wr.heap.size wr W → Calls Try.prog 65 #[.agg #[.int .i64 h.bays, .int .i64 h.rows, .int .i64 h.tiers], .slice A l.length c, .slice P' pl.length d', .int .i64 p] W fun e w' => ∃ SA sc, e = .returned (.slice SA pl.length sc) ∧ pl.length ≤ sc ∧ Rd w' SA (keepL l ((p + 1 : Nat) : Int) pl) ∧ Below W.heap.size W w') := fun W hW => by
        have hq := after_impl h A P' l (keepL l (p : Int) pl) c d' (p : Int) q0 (by omega) (keep_pv HV.out HD.out) (keep_desc HD.out) HGE.out W (HA0.out.below (hbw.trans (hW.mono hbw.size))) hl hlc (HR.out.below hW) (by rw [keep_length]; exact hpl) (by rw [keep_length]; exact hd')
        rw [keep_after, keep_length, keep_length] at hq
        exact hq.mono fun e w' ⟨SA, sc, h1, h2, h3, h4⟩ => ⟨SA, sc, h1, h2, h3.rd, h4⟩
      obtain ⟨z0, z1, z2⟩ := HS.out _ hbw
      go_wp2_with fail
      refine (HMV.out _ (Below.refl _ _)).mono ?_
      rintro e w4 ⟨⟨SA, sc, rfl⟩, b4⟩
      clear z0 z1 z2
      obtain ⟨z0, z1, z2⟩ := HS.out _ (hbw.trans (b4.mono hbw.size))
      go_wp2_with fail
      refine (HAF.out _ b4).mono ?_
      rintro e w5 ⟨SB, sd, rfl, hsd, rd5, b5⟩
      have hb5 := (hbw.trans (b4.mono hbw.size)).trans (b5.mono (hbw.trans (b4.mono hbw.size)).size)
      clear z0 z1 z2 b4 b5
      have HRD := Lib.hid rd5
      clear rd5
      go_wp2_with fail
      exact ⟨⟨p + 1, SB, sd, by omega, by go_num, by rw [HFS.out]; go_num, rfl, hsd, HRD.out, hb5⟩, by simp [intOf]; omega⟩
    · have HP7 : Hid (p = 7) := by show _ = _; omega
      have q1 : ¬ ((p : Int) < 7) := by omega
      have HFE : Hid (F p = N) := by show _ = _; rw [HP7.out]; exact HF7.out
      go_wp2_with fail
      go_ret
      exact ⟨by rw [HFE.out]; rfl, HFIN.out _ hbw⟩
end Go.Proofs.Ytphncbnnnickhaa
