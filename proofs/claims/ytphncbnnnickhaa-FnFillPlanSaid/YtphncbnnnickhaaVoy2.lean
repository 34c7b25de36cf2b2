/- PortMoves and AfterPort of the program, at plans whose later ports are below. -/
import Derived.Test.YtphncbnnnickhaaVoy
import Derived.Test.YtphncbnnnickhaaWts
namespace Go.Proofs.Ytphncbnnnickhaa
open Go.RowKit
set_option linter.unusedVariables false
set_option linter.unusedSimpArgs false

def colOf (T : Int) (k : Nat) : Int := (k : Int) - (k : Int) % T
theorem col_le {T : Int} (h1 : 1 ≤ T) (k : Nat) : colOf T k ≤ k := by
  have := Int.emod_nonneg (k : Int) (b := T) (by omega)
  unfold colOf
  omega
theorem col_up {T : Int} (h1 : 1 ≤ T) (h3 : T ≤ 3) {k : Nat} (h : (k : Int) % T ≠ 0) : colOf T (k - 1) = colOf T k ∧ 1 ≤ k := by
  have hk : 1 ≤ k := by
    rcases Nat.eq_zero_or_pos k with e | e
    · subst e; simp at h
    · exact e
  have e : ((k - 1 : Nat) : Int) = (k : Int) - 1 := by omega
  refine ⟨?_, hk⟩
  unfold colOf
  rw [e]
  rcases (by omega : T = 1 ∨ T = 2 ∨ T = 3) with rfl | rfl | rfl <;> omega
/-- The slots whose boxes are for this port. -/
def movesTo (l : List BoxV) (p : Int) (pl : List Int) : Nat → List Int
  | 0 => []
  | k + 1 => match pl[k]? with
    | some id => if id ≠ 0 ∧ portV l id = p then movesTo l p pl k ++ [(k : Int)] else movesTo l p pl k
    | none => movesTo l p pl k
/-- A box for this port is below, in the row. -/
def Mv (l : List BoxV) (T : Int) (p : Int) (pl : List Int) (k : Nat) : Prop := ∃ (j : Nat) (x : Int), j < k ∧ colOf T (k - 1) ≤ j ∧ pl[j]? = some x ∧ x ≠ 0 ∧ portV l x = p
def keepQ (l : List BoxV) (p id : Int) : Prop := id ≠ 0 ∧ portV l id ≠ p
instance (l : List BoxV) (p id : Int) : Decidable (keepQ l p id) := by unfold keepQ; infer_instance
def aftTo (l : List BoxV) (p : Int) (pl : List Int) : Nat → List Int
  | 0 => zeros pl.length
  | k + 1 => match pl[k]? with
    | some id => if keepQ l p id then (aftTo l p pl k).set k id else aftTo l p pl k
    | none => aftTo l p pl k
/-- The plan behind the port. -/
def afterS (l : List BoxV) (p : Int) (pl : List Int) : List Int := pl.map fun id => if keepQ l p id then id else 0
def Kp (l : List BoxV) (T : Int) (p : Int) (pl : List Int) (k : Nat) : Prop := ∀ j : Nat, j < k → colOf T (k - 1) ≤ j → ∃ x, pl[j]? = some x ∧ keepQ l p x
section
variable {l : List BoxV} {T p : Int} {pl : List Int} {k : Nat} {x : Int}
theorem movesTo_yes (hx : pl[k]? = some x) (h0 : x ≠ 0) (hp : portV l x = p) : movesTo l p pl (k + 1) = movesTo l p pl k ++ [(k : Int)] := by
  show (match pl[k]? with | some id => _ | none => _) = _
  rw [hx]; show (if _ then _ else _) = _; rw [if_pos ⟨h0, hp⟩]
theorem movesTo_no (hx : pl[k]? = some x) (hn : ¬ (x ≠ 0 ∧ portV l x = p)) : movesTo l p pl (k + 1) = movesTo l p pl k := by
  show (match pl[k]? with | some id => _ | none => _) = _
  rw [hx]; show (if _ then _ else _) = _; rw [if_neg hn]
theorem aftTo_yes (hx : pl[k]? = some x) (hq : keepQ l p x) : aftTo l p pl (k + 1) = (aftTo l p pl k).set k x := by
  show (match pl[k]? with | some id => _ | none => _) = _
  rw [hx]; show (if _ then _ else _) = _; rw [if_pos hq]
theorem aftTo_no (hx : pl[k]? = some x) (hq : ¬ keepQ l p x) : aftTo l p pl (k + 1) = aftTo l p pl k := by
  show (match pl[k]? with | some id => _ | none => _) = _
  rw [hx]; show (if _ then _ else _) = _; rw [if_neg hq]
theorem aftTo_length : ∀ k, (aftTo l p pl k).length = pl.length := by
  intro k
  induction k with
  | zero => exact zeros_length _
  | succ k ih =>
    unfold aftTo
    split
    · split
      · rw [List.length_set]; exact ih
      · exact ih
    · exact ih
theorem aftTo_at : ∀ (k : Nat) (i : Nat) (x : Int), k ≤ pl.length → pl[i]? = some x → (aftTo l p pl k)[i]? = some (if i < k ∧ keepQ l p x then x else 0) := by
  intro k
  induction k with
  | zero =>
    intro i x _ hx
    have hi := (List.getElem?_eq_some_iff.1 hx).1
    rw [if_neg (by omega)]
    show (zeros pl.length)[i]? = _
    simp [zeros, hi]
  | succ k ih =>
    intro i x hk hx
    have hi := (List.getElem?_eq_some_iff.1 hx).1
    have hy : pl[k]? = some pl[k] := List.getElem?_eq_getElem (by omega)
    by_cases hq : keepQ l p pl[k]
    · rw [aftTo_yes hy hq]
      by_cases e : k = i
      · subst e
        rw [List.getElem?_set_self (by rw [aftTo_length]; exact hi)]
        rw [hx] at hy
        injection hy with hy
        rw [if_pos ⟨by omega, by rw [hy]; exact hq⟩, hy]
      · rw [List.getElem?_set_ne e, ih i x (by omega) hx]
        by_cases h2 : i < k
        · simp [h2, show i < k + 1 from by omega]
        · simp [h2, show ¬ i < k + 1 from by omega]
    · rw [aftTo_no hy hq, ih i x (by omega) hx]
      by_cases e : k = i
      · subst e
        rw [hx] at hy
        injection hy with hy
        rw [if_neg (by omega), if_neg (fun h => hq (by rw [← hy]; exact h.2))]
      · by_cases h2 : i < k
        · simp [h2, show i < k + 1 from by omega]
        · simp [h2, show ¬ i < k + 1 from by omega]
theorem aftTo_all : aftTo l p pl pl.length = afterS l p pl := by
  apply List.ext_getElem?
  intro i
  by_cases hi : i < pl.length
  · have hx : pl[i]? = some pl[i] := List.getElem?_eq_getElem hi
    rw [aftTo_at _ i _ (Nat.le_refl _) hx, afterS, List.getElem?_map, hx]
    simp [hi]
  · rw [List.getElem?_eq_none (by rw [aftTo_length]; omega), List.getElem?_eq_none (by rw [afterS, List.length_map]; omega)]
theorem mv_here (h1 : 1 ≤ T) (hx : pl[k]? = some x) (h0 : x ≠ 0) (hp : portV l x = p) : Mv l T p pl (k + 1) := ⟨k, x, by omega, col_le h1 k, hx, h0, hp⟩
theorem mv_up (h1 : 1 ≤ T) (h3 : T ≤ 3) (hm : (k : Int) % T ≠ 0) (h : Mv l T p pl k) : Mv l T p pl (k + 1) := by
  obtain ⟨j, y, a, b, c⟩ := h
  rw [(col_up h1 h3 hm).1] at b
  exact ⟨j, y, by omega, b, c⟩
theorem mv_port (h1 : 1 ≤ T) (h3 : T ≤ 3) (hd : Desc l T pl) (hm : (k : Int) % T ≠ 0) (h : Mv l T p pl k) (hx : pl[k]? = some x) (h0 : x ≠ 0) (hg : p ≤ portV l x) : portV l x = p := by
  obtain ⟨j, y, a, b, c, _, e⟩ := h
  rw [(col_up h1 h3 hm).1] at b
  obtain ⟨z, hz, _, hp⟩ := hd j k x a b hx h0
  rw [c] at hz
  injection hz with hz
  subst hz
  omega
theorem kp_of (h1 : 1 ≤ T) (h3 : T ≤ 3) (hd : Desc l T pl) (hm : (k : Int) % T ≠ 0) (hx : pl[k]? = some x) (hq : keepQ l p x) (hg : p ≤ portV l x) : Kp l T p pl k := by
  intro j hj hc
  rw [(col_up h1 h3 hm).1] at hc
  obtain ⟨z, hz, hz0, hp⟩ := hd j k x hj hc hx hq.1
  exact ⟨z, hz, hz0, by have := hq.2; omega⟩
theorem kp_not (h1 : 1 ≤ T) (hx : pl[k]? = some x) (hq : ¬ keepQ l p x) : ¬ Kp l T p pl (k + 1) := by
  intro h
  obtain ⟨y, hy, hk⟩ := h k (by omega) (col_le h1 k)
  rw [hx] at hy
  injection hy with hy
  subst hy
  exact hq hk
end
set_option maxHeartbeats 12800000 in
set_option maxRecDepth 20000 in
theorem moves_impl (h : HullV) (A P : Option Addr) (l : List BoxV) (pl : List Int) (c d : Nat) (p : Int) (hp0 : 0 ≤ p) (hp6 : p ≤ 6) (hv : pvS h l pl = true) (hd : Desc l h.tiers pl) (hge : ∀ (i : Nat) (id : Int), pl[i]? = some id → id ≠ 0 → p ≤ portV l id) (w : World) (ha : RdBox w A l) (hl : l.length ≤ 1048576) (hlc : l.length ≤ c) (hp : Rd w P pl) (hpl : pl.length ≤ 1048576) (hpd : pl.length ≤ d) :
    Calls Try.prog 64 #[.agg #[.int .i64 h.bays, .int .i64 h.rows, .int .i64 h.tiers], .slice A l.length c, .slice P pl.length d, .int .i64 p] w (AnsC (fun s => s) (movesTo l p pl pl.length).length (movesTo l p pl pl.length) 3 w) := by
  obtain ⟨i0, hi, hz0, hz1, hz2⟩ := info_parts info_int
  obtain ⟨N, HN⟩ : ∃ N, Hid (movesTo l p pl pl.length = N) := ⟨_, rfl⟩
  rw [HN.out]
  have kx := Blk.new w 36 #[.int .i64 h.bays, .int .i64 h.rows, .int .i64 h.tiers]
  have bx : Below w.heap.size w (w.alloc (.cells #[.int .i64 h.bays, .int .i64 h.rows, .int .i64 h.tiers] 36)) := below_one _
  obtain ⟨W0, HW0⟩ : ∃ W0, Hid (w.alloc (.cells #[.int .i64 h.bays, .int .i64 h.rows, .int .i64 h.tiers] 36) = W0) := ⟨_, rfl⟩
  rw [HW0.out] at kx bx
  have HA0 := Lib.hid (ha.below bx)
  have HP0 := Lib.hid (hp.below bx)
  obtain ⟨X, HX⟩ : ∃ X, Hid (w.heap.size = X) := ⟨_, rfl⟩
  rw [HX.out] at kx
  have hXl := kx.lt
  have HFIN : Hid (∀ W, Below W0.heap.size W0 W → Below w.heap.size w W) := fun W hW => bx.trans (hW.mono bx.size)
  have HZ0 : Hid (w.heap.size ≤ W0.heap.size) := bx.size
  have HZX : Hid (W0.heap.size = X + 1) := by show _ = _; rw [← HW0.out, ← HX.out]; simp
  have HS : Hid (∀ W, Below W0.heap.size W0 W → W.cell? ⟨X, 0, none⟩ = some (.int .i64 h.bays) ∧ W.cell? ⟨X, 1, none⟩ = some (.int .i64 h.rows) ∧ W.cell? ⟨X, 2, none⟩ = some (.int .i64 h.tiers)) := fun W hW => ⟨(kx.below hW hXl).cell 0, (kx.below hW hXl).cell 1, (kx.below hW hXl).cell 2⟩
  have B0 := Below.refl W0.heap.size W0
  obtain ⟨z0, z1, z2⟩ := HS.out W0 B0
  clear kx bx hXl ha hp
  have HPV : Hid (∀ W, Below W0.heap.size W0 W → Calls Try.prog 28 #[.agg #[.int .i64 h.bays, .int .i64 h.rows, .int .i64 h.tiers], .slice A l.length c, .slice P pl.length d] W fun e w' => e = .returned (.bool (pvS h l pl)) ∧ Below W0.heap.size W0 w') := fun W hW => (pv_impl h A P l pl c d W (HA0.out.below hW) hl hlc (HP0.out.below hW) hpl hpd).mono fun e w' ⟨h1, h2⟩ => ⟨h1, hW.trans (h2.mono hW.size)⟩
  have HPT := Lib.hid (bool_to' (HPV.out W0 B0) hv)
  have HK := Lib.hid (pv_of hv).1
  have HNL := Lib.hid (pv_of hv).2.2.1
  have HID := Lib.hid (fun (i : Nat) (id : Int) (hx : pl[i]? = some id) (h0 : id ≠ 0) => id_at hv hx h0)
  have HDE := Lib.hid hd
  have hn36 : pl.length ≤ 36 := by have := (slots_bd HK.out).2.2; have := HNL.out; omega
  clear hv hd
  have HGE := Lib.hid hge
  have HT3 : Hid (1 ≤ h.tiers ∧ h.tiers ≤ 3) := ⟨HK.out.2.2.1, HK.out.2.2.2⟩
  have HWI : Hid (∀ W, Calls Try.prog 88 #[.int .i64 p, .int .i64 0, .int .i64 6] W fun e w' => e = .returned (.bool true) ∧ W = w') := fun W => within_t p 0 6 W ⟨hp0, hp6⟩
  clear hge
  have HPO : Hid (∀ (W : World) (i : Nat) (id : Int), Below W0.heap.size W0 W → pl[i]? = some id → id ≠ 0 → Calls Try.prog 63 #[.slice A l.length c, .int .i64 id] W fun e w' => e = .returned (.int .i64 (portV l id)) ∧ Below W.heap.size W w') := fun W i id hW hx h0 => portAt_any A l c id W (HA0.out.below hW) hl (HID.out i id hx h0)
  go_enter Try.func64, Try.ntmps64
  go_wp2_with fail
  rw [HW0.out, HX.out]
  refine HPT.out.mono ?_
  rintro e w1 ⟨rfl, b1⟩
  clear z0 z1 z2
  go_wp2_with fail
  refine (HWI.out _).mono ?_
  rintro e w' ⟨rfl, rfl⟩
  go_wp2_with fail
  go_loopw [9, 10, 25] (fun v mv i wr => ∃ (k : Nat) (L : List Int) (b : Bool), k ≤ pl.length ∧ i = .int .i64 k ∧ mv = .bool b ∧ L.length ≤ k ∧ Hid (movesTo l p pl k = L) ∧ Hid (b = true → Mv l h.tiers p pl k) ∧ wr.ownsRow W0.heap.size 3 1 v L.length (L.map (Value.int .i64)) ∧ Below W0.heap.size W0 wr) (fun _ _ i _ => pl.length - (intOf i).toNat)
  case atStart => exact ⟨0, [], false, by omega, rfl, rfl, by simp, rfl, (fun hb => by cases hb), World.ownsRow_nil _ _ _ _, b1⟩
  case round =>
    clear b1
    obtain ⟨k, L, b, hk, rfl, rfl, hLk, HL, HB, hown, hbw⟩ := hrel
    by_cases hlt : k < pl.length
    · obtain ⟨bb, off, x, rfl, hbx, Hx, hx0⟩ := (HP0.out.below hbw).at_ (k := k) hlt
      have q0 : (0 : Int) ≤ (k : Int) := by omega
      have q1 : (k : Int) < (pl.length : Int) := by omega
      obtain ⟨m, HMM⟩ : ∃ m, Hid ((k : Int) % h.tiers = m) := ⟨_, rfl⟩
      have hm0 : 0 ≤ m := by rw [← HMM.out]; exact Int.emod_nonneg _ (by have := HK.out.2.2.1; omega)
      have hmk : m ≤ k := by rw [← HMM.out]; exact mod_le (by have := HK.out.2.2.1; omega) k
      have HT : Hid (∀ W, Below W0.heap.size W0 W → Calls Try.prog 62 #[.agg #[.int .i64 h.bays, .int .i64 h.rows, .int .i64 h.tiers], .int .i64 k] W fun e w' => e = .returned (.int .i64 m) ∧ Below W.heap.size W w') := fun W hW => by
        rw [← HMM.out]
        exact tier_any h k W HK.out (by omega) (by omega)
      obtain ⟨z0, z1, z2⟩ := HS.out _ hbw
      go_wp2_with fail
      refine (HT.out _ hbw).mono ?_
      rintro e w4 ⟨rfl, b4⟩
      have hown := row_chg hown (Chg.of_below (lo := 0) (hi := 0) b4 (Nat.le_refl _)) (Nat.zero_le _)
      have hbw := hbw.trans (b4.mono hbw.size)
      clear z0 z1 z2 b4 hx0
      by_cases hm : m = 0
      · have t2 : (m == 0) = true := beq_iff_eq.2 hm
        clear hm
        by_cases h0 : x = 0
        · have t1 : (x == 0) = true := beq_iff_eq.2 h0
          have HNX : Hid (movesTo l p pl (k + 1) = L) := by show _ = _; rw [← HL.out]; exact movesTo_no Hx.out (fun hb => hb.1 h0)
          clear h0
          go_wp2_with fail
          exact ⟨⟨k + 1, L, false, by omega, by go_num, rfl, (by first | omega | (simp; omega)), HNX.out, (fun hb => by cases hb), hown, hbw⟩, by simp [intOf]; omega⟩
        · have t1 : (x == 0) = false := beq_eq_false_iff_ne.2 h0
          have HX0 := Lib.hid h0
          have HP2 : Hid (∀ W, Below W0.heap.size W0 W → _) := fun W hW => HPO.out W k x hW Hx.out HX0.out
          obtain ⟨u, HU⟩ : ∃ u, Hid (portV l x = u) := ⟨_, rfl⟩
          rw [HU.out] at HP2
          clear h0
          go_wp2_with fail
          refine (HP2.out _ hbw).mono ?_
          rintro e w6 ⟨rfl, b6⟩
          have hown := row_chg hown (Chg.of_below (lo := 0) (hi := 0) b6 (Nat.le_refl _)) (Nat.zero_le _)
          have hbw := hbw.trans (b6.mono hbw.size)
          clear b6
          by_cases hp : u = p
          · have t4 : (u == p) = true := beq_iff_eq.2 hp
            have HNX : Hid (movesTo l p pl (k + 1) = L ++ [(k : Int)]) := by show _ = _; rw [← HL.out]; exact movesTo_yes Hx.out HX0.out (HU.out.trans hp)
            have HB2 : Hid (Mv l h.tiers p pl (k + 1)) := mv_here HT3.out.1 Hx.out HX0.out (HU.out.trans hp)
            clear hp
            have hone : ∀ u ∈ [Value.int .i64 (k : Int)], u.oneCell' = true := fun u hu => by rw [List.mem_singleton.1 hu]; rfl
            have hbk := hown.lt
            have hsz := hbw.size
            go_wp2_with (at_builtin; refine wpList_append_own _ rfl _ _ 24 rfl W0.heap.size 3 i0 (.int .i64 0) 1 8 Try.underlying24 hi hz0 hz1 hz2 rfl (by decide) _ _ _ rfl (hown.alloc _) ⟨_, 0, none⟩ 1 1 [.int .i64 (k : Int)] rfl rfl (cell_one_new _ _ _) hone ?c3 ?c4 ?c5 ?_)
            case c3 => unfold maxLen; omega
            case c4 => omega
            case c5 => simp; omega
            intro v' w9 hown9 hgrow _
            have hb5 := Lib.hid ((hbw.alloc hsz (.cells #[.int .i64 (k : Int)] 3)).grown hgrow (by simp; omega) (fun b e => (hbk b e).1))
            have hown5 : Hid (w9.ownsRow W0.heap.size 3 1 v' (L ++ [(k : Int)]).length ((L ++ [(k : Int)]).map (Value.int .i64))) := by
              show World.ownsRow _ _ _ _ _ _ _
              rw [List.length_append, List.length_singleton]
              exact row_more hown9 rfl
            clear hown9 hgrow
            go_wp2_with fail
            exact ⟨⟨k + 1, L ++ [(k : Int)], true, by omega, by go_num, rfl, (by first | omega | (simp; omega)), HNX.out, (fun _ => HB2.out), hown5.out, hb5.out⟩, by simp [intOf]; omega⟩
          · have t4 : (u == p) = false := beq_eq_false_iff_ne.2 hp
            have HNX : Hid (movesTo l p pl (k + 1) = L) := by show _ = _; rw [← HL.out]; exact movesTo_no Hx.out (fun hb => hp (HU.out.symm.trans hb.2))
            clear hp
            go_wp2_with fail
            exact ⟨⟨k + 1, L, false, by omega, by go_num, rfl, (by first | omega | (simp; omega)), HNX.out, (fun hb => by cases hb), hown, hbw⟩, by simp [intOf]; omega⟩
      · have t2 : (m == 0) = false := beq_eq_false_iff_ne.2 hm
        have HM0 : Hid ((k : Int) % h.tiers ≠ 0) := by show _ ≠ _; rw [HMM.out]; exact hm
        clear hm
        by_cases h0 : x = 0
        · have t1 : (x == 0) = true := beq_iff_eq.2 h0
          have HNX : Hid (movesTo l p pl (k + 1) = L) := by show _ = _; rw [← HL.out]; exact movesTo_no Hx.out (fun hb => hb.1 h0)
          clear h0
          go_wp2_with fail
          exact ⟨⟨k + 1, L, b, by omega, by go_num, rfl, (by first | omega | (simp; omega)), HNX.out, (fun hb => mv_up HT3.out.1 HT3.out.2 HM0.out (HB.out hb)), hown, hbw⟩, by simp [intOf]; omega⟩
        · have t1 : (x == 0) = false := beq_eq_false_iff_ne.2 h0
          have HX0 := Lib.hid h0
          have HP2 : Hid (∀ W, Below W0.heap.size W0 W → _) := fun W hW => HPO.out W k x hW Hx.out HX0.out
          obtain ⟨u, HU⟩ : ∃ u, Hid (portV l x = u) := ⟨_, rfl⟩
          rw [HU.out] at HP2
          clear h0
          cases b with
          | true =>
            have HPX : Hid (portV l x = p) := mv_port HT3.out.1 HT3.out.2 HDE.out HM0.out (HB.out rfl) Hx.out HX0.out (HGE.out k x Hx.out HX0.out)
            have HNX : Hid (movesTo l p pl (k + 1) = L ++ [(k : Int)]) := by show _ = _; rw [← HL.out]; exact movesTo_yes Hx.out HX0.out HPX.out
            have HB2 : Hid (Mv l h.tiers p pl (k + 1)) := mv_here HT3.out.1 Hx.out HX0.out HPX.out
            have hone : ∀ u ∈ [Value.int .i64 (k : Int)], u.oneCell' = true := fun u hu => by rw [List.mem_singleton.1 hu]; rfl
            have hbk := hown.lt
            have hsz := hbw.size
            go_wp2_with (at_builtin; refine wpList_append_own _ rfl _ _ 24 rfl W0.heap.size 3 i0 (.int .i64 0) 1 8 Try.underlying24 hi hz0 hz1 hz2 rfl (by decide) _ _ _ rfl (hown.alloc _) ⟨_, 0, none⟩ 1 1 [.int .i64 (k : Int)] rfl rfl (cell_one_new _ _ _) hone ?c3 ?c4 ?c5 ?_)
            case c3 => unfold maxLen; omega
            case c4 => omega
            case c5 => simp; omega
            intro v' w9 hown9 hgrow _
            have hb5 := Lib.hid ((hbw.alloc hsz (.cells #[.int .i64 (k : Int)] 3)).grown hgrow (by simp; omega) (fun b e => (hbk b e).1))
            have hown5 : Hid (w9.ownsRow W0.heap.size 3 1 v' (L ++ [(k : Int)]).length ((L ++ [(k : Int)]).map (Value.int .i64))) := by
              show World.ownsRow _ _ _ _ _ _ _
              rw [List.length_append, List.length_singleton]
              exact row_more hown9 rfl
            clear hown9 hgrow
            go_wp2_with fail
            exact ⟨⟨k + 1, L ++ [(k : Int)], true, by omega, by go_num, rfl, (by first | omega | (simp; omega)), HNX.out, (fun _ => HB2.out), hown5.out, hb5.out⟩, by simp [intOf]; omega⟩
          | false =>
            go_wp2_with fail
            refine (HP2.out _ hbw).mono ?_
            rintro e w6 ⟨rfl, b6⟩
            have hown := row_chg hown (Chg.of_below (lo := 0) (hi := 0) b6 (Nat.le_refl _)) (Nat.zero_le _)
            have hbw := hbw.trans (b6.mono hbw.size)
            clear b6
            by_cases hp : u = p
            · have t4 : (u == p) = true := beq_iff_eq.2 hp
              have HNX : Hid (movesTo l p pl (k + 1) = L ++ [(k : Int)]) := by show _ = _; rw [← HL.out]; exact movesTo_yes Hx.out HX0.out (HU.out.trans hp)
              have HB2 : Hid (Mv l h.tiers p pl (k + 1)) := mv_here HT3.out.1 Hx.out HX0.out (HU.out.trans hp)
              clear hp
              have hone : ∀ u ∈ [Value.int .i64 (k : Int)], u.oneCell' = true := fun u hu => by rw [List.mem_singleton.1 hu]; rfl
              have hbk := hown.lt
              have hsz := hbw.size
              go_wp2_with (at_builtin; refine wpList_append_own _ rfl _ _ 24 rfl W0.heap.size 3 i0 (.int .i64 0) 1 8 Try.underlying24 hi hz0 hz1 hz2 rfl (by decide) _ _ _ rfl (hown.alloc _) ⟨_, 0, none⟩ 1 1 [.int .i64 (k : Int)] rfl rfl (cell_one_new _ _ _) hone ?c3 ?c4 ?c5 ?_)
              case c3 => unfold maxLen; omega
              case c4 => omega
              case c5 => simp; omega
              intro v' w9 hown9 hgrow _
              have hb5 := Lib.hid ((hbw.alloc hsz (.cells #[.int .i64 (k : Int)] 3)).grown hgrow (by simp; omega) (fun b e => (hbk b e).1))
              have hown5 : Hid (w9.ownsRow W0.heap.size 3 1 v' (L ++ [(k : Int)]).length ((L ++ [(k : Int)]).map (Value.int .i64))) := by
                show World.ownsRow _ _ _ _ _ _ _
                rw [List.length_append, List.length_singleton]
                exact row_more hown9 rfl
              clear hown9 hgrow
              go_wp2_with fail
              exact ⟨⟨k + 1, L ++ [(k : Int)], true, by omega, by go_num, rfl, (by first | omega | (simp; omega)), HNX.out, (fun _ => HB2.out), hown5.out, hb5.out⟩, by simp [intOf]; omega⟩
            · have t4 : (u == p) = false := beq_eq_false_iff_ne.2 hp
              have HNX : Hid (movesTo l p pl (k + 1) = L) := by show _ = _; rw [← HL.out]; exact movesTo_no Hx.out (fun hb => hp (HU.out.symm.trans hb.2))
              clear hp
              go_wp2_with fail
              exact ⟨⟨k + 1, L, false, by omega, by go_num, rfl, (by first | omega | (simp; omega)), HNX.out, (fun hb => by cases hb), hown, hbw⟩, by simp [intOf]; omega⟩
    · obtain rfl : k = pl.length := by omega
      have HNE : Hid (N = L) := HN.out.symm.trans HL.out
      have HROW := Lib.hid hown
      clear hown
      go_wp2_with fail
      go_ret
      rw [HNE.out]
      exact row_ans HROW.out HZ0.out (HFIN.out _ hbw)
theorem zeros_at' {n k : Nat} {x : Int} (h : (zeros n)[k]? = some x) : x = 0 := List.eq_of_mem_replicate (List.mem_of_getElem? h)
set_option maxHeartbeats 12800000 in
set_option maxRecDepth 20000 in
theorem after_impl (h : HullV) (A P : Option Addr) (l : List BoxV) (pl : List Int) (c d : Nat) (p : Int) (hp0 : 0 ≤ p) (hp6 : p ≤ 6) (hv : pvS h l pl = true) (hd : Desc l h.tiers pl) (hge : ∀ (i : Nat) (id : Int), pl[i]? = some id → id ≠ 0 → p ≤ portV l id) (w : World) (ha : RdBox w A l) (hl : l.length ≤ 1048576) (hlc : l.length ≤ c) (hp : Rd w P pl) (hpl : pl.length ≤ 1048576) (hpd : pl.length ≤ d) :
    Calls Try.prog 65 #[.agg #[.int .i64 h.bays, .int .i64 h.rows, .int .i64 h.tiers], .slice A l.length c, .slice P pl.length d, .int .i64 p] w (AnsC (fun s => s) (afterS l p pl).length (afterS l p pl) 3 w) := by
  obtain ⟨i0, hi, hz0, hz1, hz2⟩ := info_parts info_int
  obtain ⟨N, HN⟩ : ∃ N, Hid (afterS l p pl = N) := ⟨_, rfl⟩
  rw [HN.out]
  have kx := Blk.new w 36 #[.int .i64 h.bays, .int .i64 h.rows, .int .i64 h.tiers]
  have bx : Below w.heap.size w (w.alloc (.cells #[.int .i64 h.bays, .int .i64 h.rows, .int .i64 h.tiers] 36)) := below_one _
  obtain ⟨W0, HW0⟩ : ∃ W0, Hid (w.alloc (.cells #[.int .i64 h.bays, .int .i64 h.rows, .int .i64 h.tiers] 36) = W0) := ⟨_, rfl⟩
  rw [HW0.out] at kx bx
  have HA0 := Lib.hid (ha.below bx)
  have HP0 := Lib.hid (hp.below bx)
  obtain ⟨X, HX⟩ : ∃ X, Hid (w.heap.size = X) := ⟨_, rfl⟩
  rw [HX.out] at kx
  have hXl := kx.lt
  have HFIN : Hid (∀ W, Below W0.heap.size W0 W → Below w.heap.size w W) := fun W hW => bx.trans (hW.mono bx.size)
  have HZ0 : Hid (w.heap.size ≤ W0.heap.size) := bx.size
  have HZX : Hid (W0.heap.size = X + 1) := by show _ = _; rw [← HW0.out, ← HX.out]; simp
  have HS : Hid (∀ W, Below W0.heap.size W0 W → W.cell? ⟨X, 0, none⟩ = some (.int .i64 h.bays) ∧ W.cell? ⟨X, 1, none⟩ = some (.int .i64 h.rows) ∧ W.cell? ⟨X, 2, none⟩ = some (.int .i64 h.tiers)) := fun W hW => ⟨(kx.below hW hXl).cell 0, (kx.below hW hXl).cell 1, (kx.below hW hXl).cell 2⟩
  have B0 := Below.refl W0.heap.size W0
  obtain ⟨z0, z1, z2⟩ := HS.out W0 B0
  clear kx bx hXl ha hp
  have HPV : Hid (∀ W, Below W0.heap.size W0 W → Calls Try.prog 28 #[.agg #[.int .i64 h.bays, .int .i64 h.rows, .int .i64 h.tiers], .slice A l.length c, .slice P pl.length d] W fun e w' => e = .returned (.bool (pvS h l pl)) ∧ Below W0.heap.size W0 w') := fun W hW => (pv_impl h A P l pl c d W (HA0.out.below hW) hl hlc (HP0.out.below hW) hpl hpd).mono fun e w' ⟨h1, h2⟩ => ⟨h1, hW.trans (h2.mono hW.size)⟩
  have HPT := Lib.hid (bool_to' (HPV.out W0 B0) hv)
  have HK := Lib.hid (pv_of hv).1
  have HNL := Lib.hid (pv_of hv).2.2.1
  have HID := Lib.hid (fun (i : Nat) (id : Int) (hx : pl[i]? = some id) (h0 : id ≠ 0) => id_at hv hx h0)
  have HDE := Lib.hid hd
  have hn36 : pl.length ≤ 36 := by have := (slots_bd HK.out).2.2; have := HNL.out; omega
  clear hv hd
  have HGE := Lib.hid hge
  have HT3 : Hid (1 ≤ h.tiers ∧ h.tiers ≤ 3) := ⟨HK.out.2.2.1, HK.out.2.2.2⟩
  have HWI : Hid (∀ W, Calls Try.prog 88 #[.int .i64 p, .int .i64 0, .int .i64 6] W fun e w' => e = .returned (.bool true) ∧ W = w') := fun W => within_t p 0 6 W ⟨hp0, hp6⟩
  clear hge
  have HPO : Hid (∀ (W : World) (i : Nat) (id : Int), Below W0.heap.size W0 W → pl[i]? = some id → id ≠ 0 → Calls Try.prog 63 #[.slice A l.length c, .int .i64 id] W fun e w' => e = .returned (.int .i64 (portV l id)) ∧ Below W.heap.size W w') := fun W i id hW hx h0 => portAt_any A l c id W (HA0.out.below hW) hl (HID.out i id hx h0)
  go_enter Try.func65, Try.ntmps65
  go_wp2_with fail
  rw [HW0.out, HX.out]
  refine HPT.out.mono ?_
  rintro e w1 ⟨rfl, b1⟩
  clear z0 z1 z2
  go_wp2_with fail
  refine (HWI.out _).mono ?_
  rintro e w' ⟨rfl, rfl⟩
  go_wp2_with (at_make; refine wpList_make_full _ rfl _ _ 24 rfl W0.heap.size 3 i0 (.int .i64 0) 1 Try.underlying24 hi hz0 hz1 .i64 .i64 _ _ pl.length rfl rfl rfl rfl ?c1 ?c2 b1.size ?_)
  case c1 => rw [hz2]; omega
  case c2 => unfold maxLen; omega
  intro w2 hrow hg1
  have b2 := b1.trans ((below_grown hg1).mono b1.size)
  obtain ⟨cs0, hb0, hcs0⟩ := blk_of_full hrow rfl
  obtain ⟨g, HG⟩ : ∃ g, Hid (w1.heap.size = g) := ⟨_, rfl⟩
  have hg0 : W0.heap.size ≤ g := by have := b1.size; have := HG.out; omega
  rw [HG.out] at hb0
  have HC0 : Hid (∀ (s : Nat) (x : Int), (aftTo l p pl 0)[s]? = some x → cs0[s]? = some (.int .i64 x)) := fun s x hx => by
    have hs : s < pl.length := by have := (List.getElem?_eq_some_iff.1 hx).1; rw [aftTo_length] at this; exact this
    obtain rfl : x = 0 := zeros_at' hx
    have e : cs0.toList = (zeros pl.length).map (Value.int .i64) := by rw [hcs0]; exact zeros1 pl.length
    rw [← Array.getElem?_toList, e]
    simp [zeros, hs]
  clear hrow hg1 hcs0 b1
  go_wp2_with fail
  rw [HG.out]
  go_loopw [10, 28] (fun tv i wr => ∃ (k to : Nat) (cs : Array Value), k ≤ pl.length ∧ i = .int .i64 k ∧ tv = .int .i64 to ∧ to ≤ k ∧ Hid ((k : Int) % h.tiers ≠ 0 → Kp l h.tiers p pl k → to = k) ∧ Blk wr g 3 cs ∧ Hid (∀ (s : Nat) (x : Int), (aftTo l p pl k)[s]? = some x → cs[s]? = some (.int .i64 x)) ∧ Below W0.heap.size W0 wr) (fun _ i _ => pl.length - (intOf i).toNat)
  case atStart => exact ⟨0, 0, cs0, by omega, rfl, rfl, by omega, (fun _ _ => rfl), hb0, HC0.out, b2⟩
  case round =>
    clear hb0 b2
    obtain ⟨k, to, cs, hk, rfl, rfl, hto, HTO, bk, HC, hbw⟩ := hrel
    by_cases hlt : k < pl.length
    · obtain ⟨bb, off, x, rfl, hbx, Hx, hx0⟩ := (HP0.out.below hbw).at_ (k := k) hlt
      have q0 : (0 : Int) ≤ (k : Int) := by omega
      have q1 : (k : Int) < (pl.length : Int) := by omega
      obtain ⟨m, HMM⟩ : ∃ m, Hid ((k : Int) % h.tiers = m) := ⟨_, rfl⟩
      have hm0 : 0 ≤ m := by rw [← HMM.out]; exact Int.emod_nonneg _ (by have := HK.out.2.2.1; omega)
      have hmk : m ≤ k := by rw [← HMM.out]; exact mod_le (by have := HK.out.2.2.1; omega) k
      have HT : Hid (∀ W, Below W0.heap.size W0 W → Calls Try.prog 62 #[.agg #[.int .i64 h.bays, .int .i64 h.rows, .int .i64 h.tiers], .int .i64 k] W fun e w' => e = .returned (.int .i64 m) ∧ Below W.heap.size W w') := fun W hW => by
        rw [← HMM.out]
        exact tier_any h k W HK.out (by omega) (by omega)
      obtain ⟨z0, z1, z2⟩ := HS.out _ hbw
      go_wp2_with fail
      refine (HT.out _ hbw).mono ?_
      rintro e w4 ⟨rfl, b4⟩
      have bk := bk.below b4 bk.lt
      have hbw := hbw.trans (b4.mono hbw.size)
      clear z0 z1 z2 b4 hx0
      by_cases hm : m = 0
      · have t2 : (m == 0) = true := beq_iff_eq.2 hm
        clear hm
        clear HTO hto
        by_cases h0 : x = 0
        · have t1 : (x != 0) = false := by simp [h0]
          have HQN : Hid (¬ keepQ l p x) := fun hq => hq.1 h0
          clear h0
          have HNX : Hid (∀ (j : Nat) (y : Int), (aftTo l p pl (k + 1))[j]? = some y → cs[j]? = some (.int .i64 y)) := by rw [aftTo_no Hx.out HQN.out]; exact HC.out
          go_wp2_with fail
          exact ⟨⟨k + 1, k, cs, by omega, by go_num, rfl, by omega, fun _ hh => absurd hh (kp_not HT3.out.1 Hx.out HQN.out), bk, HNX.out, hbw⟩, by simp [intOf]; omega⟩
        · have t1 : (x != 0) = true := by simp [h0]
          have HX0 := Lib.hid h0
          clear h0
          obtain ⟨u, HU⟩ : ∃ u, Hid (portV l x = u) := ⟨_, rfl⟩
          have HP2 : Hid (∀ W, Below W0.heap.size W0 W → _) := fun W hW => HPO.out W k x hW Hx.out HX0.out
          rw [HU.out] at HP2
          go_wp2_with fail
          refine (HP2.out _ hbw).mono ?_
          rintro e w6 ⟨rfl, b6⟩
          have bk := bk.below b6 bk.lt
          have hbw := hbw.trans (b6.mono hbw.size)
          clear b6
          by_cases hp : u = p
          · have t4 : (u != p) = false := by simp [hp]
            have HQN : Hid (¬ keepQ l p x) := fun hq => hq.2 (HU.out.trans hp)
            clear hp
            have HNX : Hid (∀ (j : Nat) (y : Int), (aftTo l p pl (k + 1))[j]? = some y → cs[j]? = some (.int .i64 y)) := by rw [aftTo_no Hx.out HQN.out]; exact HC.out
            go_wp2_with fail
            exact ⟨⟨k + 1, k, cs, by omega, by go_num, rfl, by omega, fun _ hh => absurd hh (kp_not HT3.out.1 Hx.out HQN.out), bk, HNX.out, hbw⟩, by simp [intOf]; omega⟩
          · have t4 : (u != p) = true := by simp [hp]
            have HQ : Hid (keepQ l p x) := ⟨HX0.out, fun e => hp (HU.out.symm.trans e)⟩
            clear hp
            have HNX : Hid (∀ (j : Nat) (y : Int), (aftTo l p pl (k + 1))[j]? = some y → (cs.setIfInBounds k (.int .i64 x))[j]? = some (.int .i64 y)) := by
              rw [aftTo_yes Hx.out HQ.out]
              exact cells_set x (by rw [aftTo_length]; exact hlt) HC.out
            have hsz := bk.lt
            have bk7 := bk.set_ k (.int .i64 x)
            have hb7 := hbw.setCell (p := ⟨g, k, none⟩) hg0 (.int .i64 x)
            have v6 := bk.cell k
            have f6 := bk.frozen k
            obtain ⟨vv, HVV⟩ : ∃ vv, Hid (cs[k]? = some vv) := ⟨_, HC.out k _ (List.getElem?_eq_getElem (by rw [aftTo_length]; exact hlt))⟩
            rw [HVV.out] at v6
            clear bk
            go_wp2_with fail
            exact ⟨⟨k + 1, k + 1, _, by omega, by go_num, by go_num, by omega, fun _ _ => rfl, bk7, HNX.out, hb7⟩, by simp [intOf]; omega⟩
      · have t2 : (m == 0) = false := beq_eq_false_iff_ne.2 hm
        have HTO : Hid (keepQ l p x → to = k) := fun hq => by
          have h1 : (k : Int) % h.tiers ≠ 0 := by rw [HMM.out]; exact hm
          exact HTO.out h1 (kp_of HT3.out.1 HT3.out.2 HDE.out h1 Hx.out hq (HGE.out k x Hx.out hq.1))
        clear hm
        by_cases h0 : x = 0
        · have t1 : (x != 0) = false := by simp [h0]
          have HQN : Hid (¬ keepQ l p x) := fun hq => hq.1 h0
          clear h0
          have HNX : Hid (∀ (j : Nat) (y : Int), (aftTo l p pl (k + 1))[j]? = some y → cs[j]? = some (.int .i64 y)) := by rw [aftTo_no Hx.out HQN.out]; exact HC.out
          go_wp2_with fail
          exact ⟨⟨k + 1, to, cs, by omega, by go_num, rfl, by omega, fun _ hh => absurd hh (kp_not HT3.out.1 Hx.out HQN.out), bk, HNX.out, hbw⟩, by simp [intOf]; omega⟩
        · have t1 : (x != 0) = true := by simp [h0]
          have HX0 := Lib.hid h0
          clear h0
          obtain ⟨u, HU⟩ : ∃ u, Hid (portV l x = u) := ⟨_, rfl⟩
          have HP2 : Hid (∀ W, Below W0.heap.size W0 W → _) := fun W hW => HPO.out W k x hW Hx.out HX0.out
          rw [HU.out] at HP2
          go_wp2_with fail
          refine (HP2.out _ hbw).mono ?_
          rintro e w6 ⟨rfl, b6⟩
          have bk := bk.below b6 bk.lt
          have hbw := hbw.trans (b6.mono hbw.size)
          clear b6
          by_cases hp : u = p
          · have t4 : (u != p) = false := by simp [hp]
            have HQN : Hid (¬ keepQ l p x) := fun hq => hq.2 (HU.out.trans hp)
            clear hp
            have HNX : Hid (∀ (j : Nat) (y : Int), (aftTo l p pl (k + 1))[j]? = some y → cs[j]? = some (.int .i64 y)) := by rw [aftTo_no Hx.out HQN.out]; exact HC.out
            go_wp2_with fail
            exact ⟨⟨k + 1, to, cs, by omega, by go_num, rfl, by omega, fun _ hh => absurd hh (kp_not HT3.out.1 Hx.out HQN.out), bk, HNX.out, hbw⟩, by simp [intOf]; omega⟩
          · have t4 : (u != p) = true := by simp [hp]
            have HQ : Hid (keepQ l p x) := ⟨HX0.out, fun e => hp (HU.out.symm.trans e)⟩
            clear hp
            obtain rfl : to = k := HTO.out HQ.out
            have HNX : Hid (∀ (j : Nat) (y : Int), (aftTo l p pl (to + 1))[j]? = some y → (cs.setIfInBounds to (.int .i64 x))[j]? = some (.int .i64 y)) := by
              rw [aftTo_yes Hx.out HQ.out]
              exact cells_set x (by rw [aftTo_length]; exact hlt) HC.out
            have hsz := bk.lt
            have bk7 := bk.set_ to (.int .i64 x)
            have hb7 := hbw.setCell (p := ⟨g, to, none⟩) hg0 (.int .i64 x)
            have v6 := bk.cell to
            have f6 := bk.frozen to
            obtain ⟨vv, HVV⟩ : ∃ vv, Hid (cs[to]? = some vv) := ⟨_, HC.out to _ (List.getElem?_eq_getElem (by rw [aftTo_length]; exact hlt))⟩
            rw [HVV.out] at v6
            clear bk
            go_wp2_with fail
            exact ⟨⟨to + 1, to + 1, _, by omega, by go_num, by go_num, by omega, fun _ _ => rfl, bk7, HNX.out, hb7⟩, by simp [intOf]; omega⟩
    · obtain rfl : k = pl.length := by omega
      have HR : Hid (Own 3 wr W0.heap.size wr.heap.size (some ⟨g, 0, none⟩) N) := by rw [← HN.out, ← aftTo_all]; exact Own.of_blk bk hg0 bk.lt HC.out
      have HLN : Hid (pl.length = N.length) := by show _ = _; rw [← HN.out, afterS, List.length_map]
      clear bk
      go_wp2_with fail
      go_ret
      exact ⟨some ⟨g, 0, none⟩, pl.length, by rw [← HLN.out]; rfl, by rw [← HLN.out]; exact Nat.le_refl _, HR.out.wide HZ0.out (Nat.le_refl _), HFIN.out _ hbw⟩
end Go.Proofs.Ytphncbnnnickhaa
