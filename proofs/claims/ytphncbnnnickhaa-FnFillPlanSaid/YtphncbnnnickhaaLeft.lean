/- LeftOver of the program and of the reference; PlanIds of the program. -/
import Derived.Test.YtphncbnnnickhaaNext
namespace Go.Proofs.Ytphncbnnnickhaa
open Go.RowKit
set_option linter.unusedVariables false
set_option linter.unusedSimpArgs false

/-- The ids of the first k boxes that are not in the plan. -/
def leftTo (l : List BoxV) (pl : List Int) : Nat → List Int
  | 0 => []
  | k + 1 => match l[k]? with
    | some x => if x.id ∈ pl then leftTo l pl k else leftTo l pl k ++ [x.id]
    | none => leftTo l pl k
def leftS (h : HullV) (l : List BoxV) (pl : List Int) : List Int := if pvS h l pl = true then leftTo l pl l.length else []
def idsTo (pl : List Int) : Nat → List Int
  | 0 => []
  | k + 1 => match pl[k]? with
    | some id => if id = 0 then idsTo pl k else idsTo pl k ++ [id]
    | none => idsTo pl k
def idsS (h : HullV) (l : List BoxV) (pl : List Int) : List Int := if pvS h l pl = true then idsTo pl pl.length else []
theorem leftTo_length (l : List BoxV) (pl : List Int) : ∀ k, (leftTo l pl k).length ≤ k := by
  intro k
  induction k with
  | zero => simp [leftTo]
  | succ k ih =>
    unfold leftTo
    split
    · split
      · omega
      · rw [List.length_append, List.length_singleton]; omega
    · omega
theorem idsTo_length (pl : List Int) : ∀ k, (idsTo pl k).length ≤ k := by
  intro k
  induction k with
  | zero => simp [idsTo]
  | succ k ih =>
    unfold idsTo
    split
    · split
      · omega
      · rw [List.length_append, List.length_singleton]; omega
    · omega
theorem leftTo_in {l : List BoxV} {pl : List Int} {k : Nat} {x : BoxV} (hx : l[k]? = some x) (h : x.id ∈ pl) : leftTo l pl (k + 1) = leftTo l pl k := by
  show (match l[k]? with | some x => _ | none => _) = _
  rw [hx]
  show (if _ then _ else _) = _
  rw [if_pos h]
theorem leftTo_out {l : List BoxV} {pl : List Int} {k : Nat} {x : BoxV} (hx : l[k]? = some x) (h : x.id ∉ pl) : leftTo l pl (k + 1) = leftTo l pl k ++ [x.id] := by
  show (match l[k]? with | some x => _ | none => _) = _
  rw [hx]
  show (if _ then _ else _) = _
  rw [if_neg h]
theorem idsTo_zero {pl : List Int} {k : Nat} {id : Int} (hx : pl[k]? = some id) (h : id = 0) : idsTo pl (k + 1) = idsTo pl k := by
  show (match pl[k]? with | some x => _ | none => _) = _
  rw [hx]
  show (if _ then _ else _) = _
  rw [if_pos h]
theorem idsTo_id {pl : List Int} {k : Nat} {id : Int} (hx : pl[k]? = some id) (h : id ≠ 0) : idsTo pl (k + 1) = idsTo pl k ++ [id] := by
  show (match pl[k]? with | some x => _ | none => _) = _
  rw [hx]
  show (if _ then _ else _) = _
  rw [if_neg h]
set_option maxHeartbeats 6400000 in
set_option maxRecDepth 20000 in
theorem left_impl (h : HullV) (A P : Option Addr) (l : List BoxV) (pl : List Int) (c d : Nat) (w : World) (ha : RdBox w A l) (hl : l.length ≤ 1048576) (hlc : l.length ≤ c) (hp : Rd w P pl) (hpl : pl.length ≤ 1048576) (hpd : pl.length ≤ d) :
    Calls Try.prog 32 #[.agg #[.int .i64 h.bays, .int .i64 h.rows, .int .i64 h.tiers], .slice A l.length c, .slice P pl.length d] w (AnsC (fun s => s) (leftS h l pl).length (leftS h l pl) 3 w) := by
  obtain ⟨i0, hi, hz0, hz1, hz2⟩ := info_parts info_int
  obtain ⟨N, HN⟩ : ∃ N, Hid (leftS h l pl = N) := ⟨_, rfl⟩
  rw [HN.out]
  have kx := Blk.new w 36 #[.int .i64 h.bays, .int .i64 h.rows, .int .i64 h.tiers]
  have bx : Below w.heap.size w (w.alloc (.cells #[.int .i64 h.bays, .int .i64 h.rows, .int .i64 h.tiers] 36)) := below_one _
  obtain ⟨W0, HW0⟩ : ∃ W0, Hid (w.alloc (.cells #[.int .i64 h.bays, .int .i64 h.rows, .int .i64 h.tiers] 36) = W0) := ⟨_, rfl⟩
  rw [HW0.out] at kx bx
  have HA0 := Lib.hid (ha.below bx)
  have HP0 := Lib.hid (hp.below bx)
  obtain ⟨X, HX⟩ : ∃ X, Hid (w.heap.size = X) := ⟨_, rfl⟩
  rw [HX.out] at kx
  have hXl := kx.lt
  have HFIN : Hid (∀ W, Below W0.heap.size W0 W → Below w.heap.size w W) := fun W hW => bx.trans (hW.mono bx.size)
  have HZ0 : Hid (w.heap.size ≤ W0.heap.size) := bx.size
  have HZX : Hid (W0.heap.size = X + 1) := by show _ = _; rw [← HW0.out, ← HX.out]; simp
  have HS : Hid (∀ W, Below W0.heap.size W0 W → W.cell? ⟨X, 0, none⟩ = some (.int .i64 h.bays) ∧ W.cell? ⟨X, 1, none⟩ = some (.int .i64 h.rows) ∧ W.cell? ⟨X, 2, none⟩ = some (.int .i64 h.tiers)) := fun W hW => ⟨(kx.below hW hXl).cell 0, (kx.below hW hXl).cell 1, (kx.below hW hXl).cell 2⟩
  have B0 := Below.refl W0.heap.size W0
  obtain ⟨z0, z1, z2⟩ := HS.out W0 B0
  clear kx bx hXl ha hp
  have HPV : Hid (∀ W, Below W0.heap.size W0 W → Calls Try.prog 28 #[.agg #[.int .i64 h.bays, .int .i64 h.rows, .int .i64 h.tiers], .slice A l.length c, .slice P pl.length d] W fun e w' => e = .returned (.bool (pvS h l pl)) ∧ Below W0.heap.size W0 w') := fun W hW => (pv_impl h A P l pl c d W (HA0.out.below hW) hl hlc (HP0.out.below hW) hpl hpd).mono fun e w' ⟨h1, h2⟩ => ⟨h1, hW.trans (h2.mono hW.size)⟩
  cases hv : pvS h l pl with
  | false =>
    have HO : Hid (N = []) := by show _ = _; rw [← HN.out]; unfold leftS; rw [hv]; rfl
    have HPF := Lib.hid (bool_to' (HPV.out W0 B0) hv)
    clear hv
    go_enter Try.func32, Try.ntmps32
    go_wp2_with fail
    rw [HW0.out, HX.out]
    refine HPF.out.mono ?_
    rintro e w1 ⟨rfl, b1⟩
    go_wp2_with fail
    go_ret
    rw [HO.out]
    exact ⟨none, 0, rfl, Nat.le_refl _, Own.nil_, HFIN.out _ b1⟩
  | true =>
    have HO : Hid (N = leftTo l pl l.length) := by show _ = _; rw [← HN.out]; unfold leftS; rw [hv]; rfl
    have HPT := Lib.hid (bool_to' (HPV.out W0 B0) hv)
    have HNL := Lib.hid (pv_of hv).2.2.1
    have hn36 : pl.length ≤ 36 := by have := (slots_bd (pv_of hv).1).2.2; have := HNL.out; omega
    have hl10 : l.length ≤ 10 := (bvS_spec (pv_of hv).2.1).len
    clear hv
    go_enter Try.func32, Try.ntmps32
    go_wp2_with fail
    rw [HW0.out, HX.out]
    refine HPT.out.mono ?_
    rintro e w1 ⟨rfl, b1⟩
    clear z0 z1 z2
    go_wp2_with fail
    go_loopw [7, 17] (fun v i wr => ∃ (k : Nat) (L : List Int), k ≤ l.length ∧ i = .int .i64 k ∧ L.length ≤ k ∧ Hid (leftTo l pl k = L) ∧ wr.ownsRow W0.heap.size 3 1 v L.length (L.map (Value.int .i64)) ∧ Below W0.heap.size W0 wr) (fun _ i _ => l.length - (intOf i).toNat)
    case atStart => exact ⟨0, [], by omega, rfl, by simp, rfl, World.ownsRow_nil _ _ _ _, b1⟩
    case round =>
      obtain ⟨k, L, hk, rfl, hLk, HL, hown, hbw⟩ := hrel
      by_cases hlt : k < l.length
      · obtain ⟨b, off, x, rfl, hbx, Hx, hx0, hx1, hx2, hx3, hx4⟩ := (HA0.out.below hbw).at_ (k := k) hlt
        have q0 : (0 : Int) ≤ (k : Int) := by omega
        have q1 : (k : Int) < (l.length : Int) := by omega
        obtain ⟨r, HR⟩ : ∃ r, Hid (decide (x.id ∈ pl) = r) := ⟨_, rfl⟩
        have HCON : Hid (∀ W, Below W0.heap.size W0 W → Calls Try.prog 61 #[.slice P pl.length d, .int .i64 x.id] W fun e w' => e = .returned (.bool r) ∧ W = w') := fun W hW => by
          rw [← HR.out]; exact contains_any P pl d x.id W (HP0.out.below hW) hpl
        have hown1 := hown.alloc (.cells #[.int .i64 x.id, .int .i64 x.weight, .int .i64 x.class_, .int .i64 x.port, .bool x.cold] 45)
        have bw1 := hbw.alloc hbw.size (.cells #[.int .i64 x.id, .int .i64 x.weight, .int .i64 x.class_, .int .i64 x.port, .bool x.cold] 45)
        have kb := Blk.new wr 45 #[.int .i64 x.id, .int .i64 x.weight, .int .i64 x.class_, .int .i64 x.port, .bool x.cold]
        clear hown hbw
        go_wp2_with fail
        refine (HCON.out _ bw1).mono ?_
        rintro e w' ⟨rfl, rfl⟩
        obtain ⟨W1, HW1⟩ : ∃ W, Hid (wr.alloc (.cells #[.int .i64 x.id, .int .i64 x.weight, .int .i64 x.class_, .int .i64 x.port, .bool x.cold] 45) = W) := ⟨_, rfl⟩
        obtain ⟨Y, HY⟩ : ∃ Y, Hid (wr.heap.size = Y) := ⟨_, rfl⟩
        rw [HW1.out] at hown1 bw1 kb ⊢
        rw [HY.out] at kb ⊢
        have y0 := kb.cell 0
        simp only [List.getElem?_toArray, List.getElem?_cons_zero] at y0
        clear kb hx0 hx1 hx2 hx3 hx4
        cases r with
        | true =>
          have HNX : Hid (leftTo l pl (k + 1) = L) := by show _ = _; rw [← HL.out]; exact leftTo_in Hx.out (of_decide_eq_true HR.out)
          go_wp2_with fail
          exact ⟨⟨k + 1, L, by omega, by go_num, by omega, HNX.out, hown1, bw1⟩, by simp [intOf]; omega⟩
        | false =>
          have HNX : Hid (leftTo l pl (k + 1) = L ++ [x.id]) := by show _ = _; rw [← HL.out]; exact leftTo_out Hx.out (of_decide_eq_false HR.out)
          have hone : ∀ u ∈ [Value.int .i64 x.id], u.oneCell' = true := fun u hu => by rw [List.mem_singleton.1 hu]; rfl
          have hbk := hown1.lt
          have hsz := bw1.size
          go_wp2_with (at_builtin; refine wpList_append_own _ rfl _ _ 24 rfl W0.heap.size 3 i0 (.int .i64 0) 1 8 Try.underlying24 hi hz0 hz1 hz2 rfl (by decide) _ _ _ rfl (hown1.alloc _) ⟨_, 0, none⟩ 1 1 [.int .i64 x.id] rfl rfl (cell_one_new _ _ _) hone ?c3 ?c4 ?c5 ?_)
          case c3 => unfold maxLen; omega
          case c4 => omega
          case c5 => simp; omega
          intro v' w9 hown9 hgrow _
          have hb5 := Lib.hid ((bw1.alloc hsz (.cells #[.int .i64 x.id] 3)).grown hgrow (by simp; omega) (fun b e => (hbk b e).1))
          have hown5 : Hid (w9.ownsRow W0.heap.size 3 1 v' (L ++ [x.id]).length ((L ++ [x.id]).map (Value.int .i64))) := by
            show World.ownsRow _ _ _ _ _ _ _
            rw [List.length_append, List.length_singleton]
            exact row_more hown9 rfl
          clear hown9 hgrow
          go_wp2_with fail
          exact ⟨⟨k + 1, L ++ [x.id], by omega, by go_num, by simp; omega, HNX.out, hown5.out, hb5.out⟩, by simp [intOf]; omega⟩
      · obtain rfl : k = l.length := by omega
        have HNE : Hid (N = L) := HO.out.trans HL.out
        have HROW := Lib.hid hown
        clear hown
        go_wp2_with fail
        go_ret
        rw [HNE.out]
        exact row_ans HROW.out HZ0.out (HFIN.out _ hbw)
set_option maxHeartbeats 6400000 in
set_option maxRecDepth 20000 in
theorem ids_impl (h : HullV) (A P : Option Addr) (l : List BoxV) (pl : List Int) (c d : Nat) (w : World) (ha : RdBox w A l) (hl : l.length ≤ 1048576) (hlc : l.length ≤ c) (hp : Rd w P pl) (hpl : pl.length ≤ 1048576) (hpd : pl.length ≤ d) :
    Calls Try.prog 27 #[.agg #[.int .i64 h.bays, .int .i64 h.rows, .int .i64 h.tiers], .slice A l.length c, .slice P pl.length d] w (AnsC (fun s => s) (idsS h l pl).length (idsS h l pl) 3 w) := by
  obtain ⟨i0, hi, hz0, hz1, hz2⟩ := info_parts info_int
  obtain ⟨N, HN⟩ : ∃ N, Hid (idsS h l pl = N) := ⟨_, rfl⟩
  rw [HN.out]
  have kx := Blk.new w 36 #[.int .i64 h.bays, .int .i64 h.rows, .int .i64 h.tiers]
  have bx : Below w.heap.size w (w.alloc (.cells #[.int .i64 h.bays, .int .i64 h.rows, .int .i64 h.tiers] 36)) := below_one _
  obtain ⟨W0, HW0⟩ : ∃ W0, Hid (w.alloc (.cells #[.int .i64 h.bays, .int .i64 h.rows, .int .i64 h.tiers] 36) = W0) := ⟨_, rfl⟩
  rw [HW0.out] at kx bx
  have HA0 := Lib.hid (ha.below bx)
  have HP0 := Lib.hid (hp.below bx)
  obtain ⟨X, HX⟩ : ∃ X, Hid (w.heap.size = X) := ⟨_, rfl⟩
  rw [HX.out] at kx
  have hXl := kx.lt
  have HFIN : Hid (∀ W, Below W0.heap.size W0 W → Below w.heap.size w W) := fun W hW => bx.trans (hW.mono bx.size)
  have HZ0 : Hid (w.heap.size ≤ W0.heap.size) := bx.size
  have HZX : Hid (W0.heap.size = X + 1) := by show _ = _; rw [← HW0.out, ← HX.out]; simp
  have HS : Hid (∀ W, Below W0.heap.size W0 W → W.cell? ⟨X, 0, none⟩ = some (.int .i64 h.bays) ∧ W.cell? ⟨X, 1, none⟩ = some (.int .i64 h.rows) ∧ W.cell? ⟨X, 2, none⟩ = some (.int .i64 h.tiers)) := fun W hW => ⟨(kx.below hW hXl).cell 0, (kx.below hW hXl).cell 1, (kx.below hW hXl).cell 2⟩
  have B0 := Below.refl W0.heap.size W0
  obtain ⟨z0, z1, z2⟩ := HS.out W0 B0
  clear kx bx hXl ha hp
  have HPV : Hid (∀ W, Below W0.heap.size W0 W → Calls Try.prog 28 #[.agg #[.int .i64 h.bays, .int .i64 h.rows, .int .i64 h.tiers], .slice A l.length c, .slice P pl.length d] W fun e w' => e = .returned (.bool (pvS h l pl)) ∧ Below W0.heap.size W0 w') := fun W hW => (pv_impl h A P l pl c d W (HA0.out.below hW) hl hlc (HP0.out.below hW) hpl hpd).mono fun e w' ⟨h1, h2⟩ => ⟨h1, hW.trans (h2.mono hW.size)⟩
  cases hv : pvS h l pl with
  | false =>
    have HO : Hid (N = []) := by show _ = _; rw [← HN.out]; unfold idsS; rw [hv]; rfl
    have HPF := Lib.hid (bool_to' (HPV.out W0 B0) hv)
    clear hv
    go_enter Try.func27, Try.ntmps27
    go_wp2_with fail
    rw [HW0.out, HX.out]
    refine HPF.out.mono ?_
    rintro e w1 ⟨rfl, b1⟩
    go_wp2_with fail
    go_ret
    rw [HO.out]
    exact ⟨none, 0, rfl, Nat.le_refl _, Own.nil_, HFIN.out _ b1⟩
  | true =>
    have HO : Hid (N = idsTo pl pl.length) := by show _ = _; rw [← HN.out]; unfold idsS; rw [hv]; rfl
    have HPT := Lib.hid (bool_to' (HPV.out W0 B0) hv)
    have HNL := Lib.hid (pv_of hv).2.2.1
    have hn36 : pl.length ≤ 36 := by have := (slots_bd (pv_of hv).1).2.2; have := HNL.out; omega
    have hl10 : l.length ≤ 10 := (bvS_spec (pv_of hv).2.1).len
    clear hv
    go_enter Try.func27, Try.ntmps27
    go_wp2_with fail
    rw [HW0.out, HX.out]
    refine HPT.out.mono ?_
    rintro e w1 ⟨rfl, b1⟩
    clear z0 z1 z2
    go_wp2_with fail
    go_loopw [7, 17] (fun v i wr => ∃ (k : Nat) (L : List Int), k ≤ pl.length ∧ i = .int .i64 k ∧ L.length ≤ k ∧ Hid (idsTo pl k = L) ∧ wr.ownsRow W0.heap.size 3 1 v L.length (L.map (Value.int .i64)) ∧ Below W0.heap.size W0 wr) (fun _ i _ => pl.length - (intOf i).toNat)
    case atStart => exact ⟨0, [], by omega, rfl, by simp, rfl, World.ownsRow_nil _ _ _ _, b1⟩
    case round =>
      obtain ⟨k, L, hk, rfl, hLk, HL, hown, hbw⟩ := hrel
      by_cases hlt : k < pl.length
      · obtain ⟨b, off, x, rfl, hbx, Hx, hx0⟩ := (HP0.out.below hbw).at_ (k := k) hlt
        have q0 : (0 : Int) ≤ (k : Int) := by omega
        have q1 : (k : Int) < (pl.length : Int) := by omega
        by_cases h0 : x = 0
        · have t1 : (x != 0) = false := by simp [h0]
          have HNX : Hid (idsTo pl (k + 1) = L) := by show _ = _; rw [← HL.out]; exact idsTo_zero Hx.out h0
          clear h0
          go_wp2_with fail
          exact ⟨⟨k + 1, L, by omega, by go_num, by omega, HNX.out, hown, hbw⟩, by simp [intOf]; omega⟩
        · have t1 : (x != 0) = true := by simp [h0]
          have HNX : Hid (idsTo pl (k + 1) = L ++ [x]) := by show _ = _; rw [← HL.out]; exact idsTo_id Hx.out h0
          clear h0
          have hone : ∀ u ∈ [Value.int .i64 x], u.oneCell' = true := fun u hu => by rw [List.mem_singleton.1 hu]; rfl
          have hbk := hown.lt
          have hsz := hbw.size
          go_wp2_with (at_builtin; refine wpList_append_own _ rfl _ _ 24 rfl W0.heap.size 3 i0 (.int .i64 0) 1 8 Try.underlying24 hi hz0 hz1 hz2 rfl (by decide) _ _ _ rfl (hown.alloc _) ⟨_, 0, none⟩ 1 1 [.int .i64 x] rfl rfl (cell_one_new _ _ _) hone ?c3 ?c4 ?c5 ?_)
          case c3 => unfold maxLen; omega
          case c4 => omega
          case c5 => simp; omega
          intro v' w9 hown9 hgrow _
          have hb5 := Lib.hid ((hbw.alloc hsz (.cells #[.int .i64 x] 3)).grown hgrow (by simp; omega) (fun b e => (hbk b e).1))
          have hown5 : Hid (w9.ownsRow W0.heap.size 3 1 v' (L ++ [x]).length ((L ++ [x]).map (Value.int .i64))) := by
            show World.ownsRow _ _ _ _ _ _ _
            rw [List.length_append, List.length_singleton]
            exact row_more hown9 rfl
          clear hown9 hgrow
          go_wp2_with fail
          exact ⟨⟨k + 1, L ++ [x], by omega, by go_num, by simp; omega, HNX.out, hown5.out, hb5.out⟩, by simp [intOf]; omega⟩
      · obtain rfl : k = pl.length := by omega
        have HNE : Hid (N = L) := HO.out.trans HL.out
        have HROW := Lib.hid hown
        clear hown
        go_wp2_with fail
        go_ret
        rw [HNE.out]
        exact row_ans HROW.out HZ0.out (HFIN.out _ hbw)
set_option maxHeartbeats 6400000 in
set_option maxRecDepth 20000 in
theorem left_spec (h : HullV) (A P : Option Addr) (l : List BoxV) (pl : List Int) (c d : Nat) (w : World) (ha : RdBox w A l) (hl : l.length ≤ 1048576) (hp : Rd w P pl) (hpl : pl.length ≤ 1048576) (hpd : pl.length ≤ d) :
    Calls Try.prog 34 #[.agg #[.int .i64 h.bays, .int .i64 h.rows, .int .i64 h.tiers], .slice A l.length c, .slice P pl.length d] w (AnsC (fun s => s) (leftS h l pl).length (leftS h l pl) 3 w) := by
  obtain ⟨i0, hi, hz0, hz1, hz2⟩ := info_parts info_int
  obtain ⟨N, HN⟩ : ∃ N, Hid (leftS h l pl = N) := ⟨_, rfl⟩
  rw [HN.out]
  have kx := Blk.new w 36 #[.int .i64 h.bays, .int .i64 h.rows, .int .i64 h.tiers]
  have bx : Below w.heap.size w (w.alloc (.cells #[.int .i64 h.bays, .int .i64 h.rows, .int .i64 h.tiers] 36)) := below_one _
  obtain ⟨W0, HW0⟩ : ∃ W0, Hid (w.alloc (.cells #[.int .i64 h.bays, .int .i64 h.rows, .int .i64 h.tiers] 36) = W0) := ⟨_, rfl⟩
  rw [HW0.out] at kx bx
  have HA0 := Lib.hid (ha.below bx)
  have HP0 := Lib.hid (hp.below bx)
  obtain ⟨X, HX⟩ : ∃ X, Hid (w.heap.size = X) := ⟨_, rfl⟩
  rw [HX.out] at kx
  have hXl := kx.lt
  have HFIN : Hid (∀ W, Below W0.heap.size W0 W → Below w.heap.size w W) := fun W hW => bx.trans (hW.mono bx.size)
  have HZ0 : Hid (w.heap.size ≤ W0.heap.size) := bx.size
  have HZX : Hid (W0.heap.size = X + 1) := by show _ = _; rw [← HW0.out, ← HX.out]; simp
  have HS : Hid (∀ W, Below W0.heap.size W0 W → W.cell? ⟨X, 0, none⟩ = some (.int .i64 h.bays) ∧ W.cell? ⟨X, 1, none⟩ = some (.int .i64 h.rows) ∧ W.cell? ⟨X, 2, none⟩ = some (.int .i64 h.tiers)) := fun W hW => ⟨(kx.below hW hXl).cell 0, (kx.below hW hXl).cell 1, (kx.below hW hXl).cell 2⟩
  have B0 := Below.refl W0.heap.size W0
  obtain ⟨z0, z1, z2⟩ := HS.out W0 B0
  clear kx bx hXl ha hp
  have HPV : Hid (∀ W, Below W0.heap.size W0 W → Calls Try.prog 35 #[.agg #[.int .i64 h.bays, .int .i64 h.rows, .int .i64 h.tiers], .slice A l.length c, .slice P pl.length d] W fun e w' => e = .returned (.bool (pvS h l pl)) ∧ Below W0.heap.size W0 w') := fun W hW => (pv_spec h A P l pl c d W (HA0.out.below hW) hl (HP0.out.below hW) hpl hpd).mono fun e w' ⟨h1, h2⟩ => ⟨h1, hW.trans (h2.mono hW.size)⟩
  have bl : Below W0.heap.size W0 (W0.alloc (.cells #[] 3)) := below_one _
  have hown0 : (W0.alloc (.cells #[] 3)).ownsRow W0.heap.size 3 1 (.slice (some ⟨W0.heap.size, 0, none⟩) 0 0) ([] : List Int).length (([] : List Int).map (Value.int .i64)) := World.ownsRow_lit W0 #[] 0 (Nat.le_refl _) (by unfold maxLen; omega) rfl
  have HBL := Lib.hid bl
  cases hv : pvS h l pl with
  | false =>
    have HO : Hid (N = []) := by show _ = _; rw [← HN.out]; unfold leftS; rw [hv]; rfl
    have HPF : Hid (∀ W, Below W0.heap.size W0 W → Calls Try.prog 35 #[.agg #[.int .i64 h.bays, .int .i64 h.rows, .int .i64 h.tiers], .slice A l.length c, .slice P pl.length d] W fun e w' => e = .returned (.bool false) ∧ Below W0.heap.size W0 w') := fun W hW => bool_to' (HPV.out W hW) hv
    clear hv
    clear z0 z1 z2
    obtain ⟨z0, z1, z2⟩ := HS.out _ bl
    obtain ⟨W1, HW1⟩ : ∃ W, Hid (W0.alloc (.cells #[] 3) = W) := ⟨_, rfl⟩
    rw [HW1.out] at bl HBL z0 z1 z2
    go_enter Try.func34, Try.ntmps34
    go_wp2_with fail
    rw [HW0.out, HX.out, HW1.out]
    go_loopw [7, 8] (fun v i wr => i = .int .i64 0 ∧ v = .slice (some ⟨X + 1, 0, none⟩) 0 0 ∧ wr = W1) (fun _ i _ => 0)
    case atStart => exact ⟨rfl, rfl, rfl⟩
    case round =>
      obtain ⟨rfl, rfl, rfl⟩ := hrel
      by_cases h0 : 0 < l.length
      · have q1 : (0 : Int) < (l.length : Int) := by omega
        go_wp2_with fail
        refine (HPF.out _ HBL.out).mono ?_
        rintro e w1 ⟨rfl, b1⟩
        go_wp2_with fail
        go_ret
        rw [HO.out]
        exact ⟨_, _, rfl, Nat.le_refl _, Own.nil_, HFIN.out _ b1⟩
      · have q1 : ¬ (0 : Int) < (l.length : Int) := by omega
        go_wp2_with fail
        go_ret
        rw [HO.out]
        exact ⟨_, _, rfl, Nat.le_refl _, Own.nil_, HFIN.out _ HBL.out⟩
  | true =>
    have HO : Hid (N = leftTo l pl l.length) := by show _ = _; rw [← HN.out]; unfold leftS; rw [hv]; rfl
    have HPT : Hid (∀ W, Below W0.heap.size W0 W → Calls Try.prog 35 #[.agg #[.int .i64 h.bays, .int .i64 h.rows, .int .i64 h.tiers], .slice A l.length c, .slice P pl.length d] W fun e w' => e = .returned (.bool true) ∧ Below W.heap.size W w') := fun W hW => bool_to (pv_spec h A P l pl c d W (HA0.out.below hW) hl (HP0.out.below hW) hpl hpd) hv
    have hl10 : l.length ≤ 10 := (bvS_spec (pv_of hv).2.1).len
    clear hv
    clear z0 z1 z2
    go_enter Try.func34, Try.ntmps34
    go_wp2_with fail
    rw [HW0.out, HX.out]
    go_loopw [7, 8] (fun v i wr => ∃ (k : Nat) (L : List Int), k ≤ l.length ∧ i = .int .i64 k ∧ L.length ≤ k ∧ Hid (leftTo l pl k = L) ∧ wr.ownsRow W0.heap.size 3 1 v L.length (L.map (Value.int .i64)) ∧ Below W0.heap.size W0 wr) (fun _ i _ => l.length - (intOf i).toNat)
    case atStart => exact ⟨0, [], by omega, rfl, by simp, rfl, by rw [← HZX.out]; exact hown0, bl⟩
    case round =>
      clear hown0 bl
      obtain ⟨k, L, hk, rfl, hLk, HL, hown, hbw⟩ := hrel
      by_cases hlt : k < l.length
      · have q0 : (0 : Int) ≤ (k : Int) := by omega
        have q1 : (k : Int) < (l.length : Int) := by omega
        obtain ⟨z0, z1, z2⟩ := HS.out _ hbw
        go_wp2_with fail
        refine (HPT.out _ hbw).mono ?_
        rintro e w2 ⟨rfl, b2⟩
        have hown := row_chg hown (Chg.of_below (lo := 0) (hi := 0) b2 (Nat.le_refl _)) (Nat.zero_le _)
        have hbw := hbw.trans (b2.mono hbw.size)
        clear z0 z1 z2 b2
        obtain ⟨b, off, x, rfl, hbx, Hx, hx0, hx1, hx2, hx3, hx4⟩ := (HA0.out.below hbw).at_ (k := k) hlt
        obtain ⟨r, HR⟩ : ∃ r, Hid (decide (x.id ∈ pl) = r) := ⟨_, rfl⟩
        have HCON : Hid (∀ W, Below W0.heap.size W0 W → Calls Try.prog 36 #[.slice P pl.length d, .int .i64 x.id] W fun e w' => e = .returned (.bool r) ∧ W = w') := fun W hW => by
          rw [← HR.out]; exact l1Has_any P pl d x.id W (HP0.out.below hW) hpl
        go_wp2_with fail
        refine (HCON.out _ hbw).mono ?_
        rintro e w' ⟨rfl, rfl⟩
        cases r with
        | true =>
          have HNX : Hid (leftTo l pl (k + 1) = L) := by show _ = _; rw [← HL.out]; exact leftTo_in Hx.out (of_decide_eq_true HR.out)
          go_wp2_with fail
          exact ⟨⟨k + 1, L, by omega, by go_num, by omega, HNX.out, hown, hbw⟩, by simp [intOf]; omega⟩
        | false =>
          have HNX : Hid (leftTo l pl (k + 1) = L ++ [x.id]) := by show _ = _; rw [← HL.out]; exact leftTo_out Hx.out (of_decide_eq_false HR.out)
          have hone : ∀ u ∈ [Value.int .i64 x.id], u.oneCell' = true := fun u hu => by rw [List.mem_singleton.1 hu]; rfl
          have hbk := hown.lt
          have hsz := hbw.size
          go_wp2_with (at_builtin; refine wpList_append_own _ rfl _ _ 24 rfl W0.heap.size 3 i0 (.int .i64 0) 1 8 Try.underlying24 hi hz0 hz1 hz2 rfl (by decide) _ _ _ rfl (hown.alloc _) ⟨_, 0, none⟩ 1 1 [.int .i64 x.id] rfl rfl (cell_one_new _ _ _) hone ?c3 ?c4 ?c5 ?_)
          case c3 => unfold maxLen; omega
          case c4 => omega
          case c5 => simp; omega
          intro v' w9 hown9 hgrow _
          have hb5 := Lib.hid ((hbw.alloc hsz (.cells #[.int .i64 x.id] 3)).grown hgrow (by simp; omega) (fun b e => (hbk b e).1))
          have hown5 : Hid (w9.ownsRow W0.heap.size 3 1 v' (L ++ [x.id]).length ((L ++ [x.id]).map (Value.int .i64))) := by
            show World.ownsRow _ _ _ _ _ _ _
            rw [List.length_append, List.length_singleton]
            exact row_more hown9 rfl
          clear hown9 hgrow
          go_wp2_with fail
          exact ⟨⟨k + 1, L ++ [x.id], by omega, by go_num, by simp; omega, HNX.out, hown5.out, hb5.out⟩, by simp [intOf]; omega⟩
      · obtain rfl : k = l.length := by omega
        have HNE : Hid (N = L) := HO.out.trans HL.out
        have HROW := Lib.hid hown
        clear hown
        go_wp2_with fail
        go_ret
        rw [HNE.out]
        exact row_ans HROW.out HZ0.out (HFIN.out _ hbw)
end Go.Proofs.Ytphncbnnnickhaa
