/- PlanNext of the program and of the reference. -/
import Derived.Test.YtphncbnnnickhaaPlan2
import Derived.Test.YtphncbnnnickhaaDraw
import Derived.Maps.AppendAt
namespace Go.Proofs.Ytphncbnnnickhaa
open Go.RowKit
set_option linter.unusedVariables false
set_option linter.unusedSimpArgs false

/-- The slots, of the first k, into which a box can be put. -/
def nextTo (T : Int) (pl : List Int) : Nat → List Int
  | 0 => []
  | k + 1 => match pl[k]? with
    | some id => if id = 0 ∧ ((k : Int) % T = 0 ∨ pl[k - 1]? ≠ some 0) then nextTo T pl k ++ [(k : Int)] else nextTo T pl k
    | none => nextTo T pl k
def nextS (h : HullV) (l : List BoxV) (pl : List Int) : List Int := if pvS h l pl = true then nextTo h.tiers pl pl.length else []
theorem nextTo_length (T : Int) (pl : List Int) : ∀ k, (nextTo T pl k).length ≤ k := by
  intro k
  induction k with
  | zero => simp [nextTo]
  | succ k ih =>
    unfold nextTo
    split
    · split
      · rw [List.length_append, List.length_singleton]; omega
      · omega
    · omega
section
variable {T : Int} {pl : List Int} {k : Nat} {id : Int}
theorem nextTo_yes (hx : pl[k]? = some id) (h0 : id = 0) (hb : (k : Int) % T = 0 ∨ pl[k - 1]? ≠ some 0) : nextTo T pl (k + 1) = nextTo T pl k ++ [(k : Int)] := by
  show (match pl[k]? with | some id => _ | none => _) = _
  rw [hx]
  show (if _ then _ else _) = _
  rw [if_pos ⟨h0, hb⟩]
theorem nextTo_no (hx : pl[k]? = some id) (h0 : ¬ (id = 0 ∧ ((k : Int) % T = 0 ∨ pl[k - 1]? ≠ some 0))) : nextTo T pl (k + 1) = nextTo T pl k := by
  show (match pl[k]? with | some id => _ | none => _) = _
  rw [hx]
  show (if _ then _ else _) = _
  rw [if_neg h0]
end
theorem pv_of {h : HullV} {l : List BoxV} {pl : List Int} (k : pvS h l pl = true) : hullOk h ∧ bvS l = true ∧ pl.length = slotsV h ∧ pvTo l h.tiers pl pl.length = true := by
  unfold pvS at k
  simp only [Bool.and_eq_true, decide_eq_true_eq] at k
  exact k
theorem pvTo_at {l : List BoxV} {T : Int} {pl : List Int} : ∀ {n : Nat}, pvTo l T pl n = true → ∀ (k : Nat) (id : Int), k < n → pl[k]? = some id → id = 0 ∨ ¬ badP l T pl k id := by
  intro n
  induction n with
  | zero => intro _ k id hk; omega
  | succ n ih =>
    intro h k id hk hx
    have h1 : pvTo l T pl n = true := by
      unfold pvTo at h
      simp only [Bool.and_eq_true] at h
      exact h.1
    by_cases e : k = n
    · subst e
      rw [pvTo_next hx, h1] at h
      simpa using h
    · exact ih h1 k id (by omega) hx
theorem bool_to' {f : FuncId} {args : Array Value} {w W0 : World} {v x : Bool} (h : Calls Try.prog f args w fun e w' => e = .returned (.bool v) ∧ Below W0.heap.size W0 w') (e : v = x) :
    Calls Try.prog f args w fun e w' => e = .returned (.bool x) ∧ Below W0.heap.size W0 w' := by rw [← e]; exact h
theorem row_ans {w w' W0 : World} {t : TypeId} {v : Value} {L : List Int} (h : w'.ownsRow W0.heap.size t 1 v L.length (L.map (Value.int .i64))) (hz : w.heap.size ≤ W0.heap.size) (hb : Below w.heap.size w w') : AnsC (fun s => s) L.length L t w (.returned v) w' := by
  obtain ⟨A, c, rfl, hc⟩ := own_slice h
  exact ⟨A, c, rfl, hc, (Own.of_row h (Nat.le_refl _)).wide hz (Nat.le_refl _), hb⟩
/-- A number of a valid plan is 0 or that of a box. -/
theorem pv_id {h : HullV} {l : List BoxV} {pl : List Int} (k : pvS h l pl = true) {i : Nat} {id : Int} (hx : pl[i]? = some id) : id = 0 ∨ ∃ (j : Nat) (x : BoxV), atTo l id l.length = j ∧ l[j]? = some x ∧ x.id = id := by
  obtain ⟨_, _, _, h4⟩ := pv_of k
  rcases pvTo_at h4 i id (List.getElem?_eq_some_iff.1 hx).1 hx with h5 | h5
  · exact .inl h5
  · right
    have h6 : 0 ≤ atTo l id l.length := by
      rcases Int.lt_or_le (atTo l id l.length) 0 with h7 | h7
      · exact absurd (.inl h7) h5
      · exact h7
    obtain ⟨j, x, e, _, hj, hi⟩ := at_pos h6
    exact ⟨j, x, e, hj, hi⟩
theorem pv_pos {h : HullV} {l : List BoxV} {pl : List Int} (k : pvS h l pl = true) {i : Nat} {id : Int} (hx : pl[i]? = some id) : 0 ≤ id := by
  rcases pv_id k hx with h1 | ⟨j, x, _, hj, rfl⟩
  · omega
  · have := (bvS_spec (pv_of k).2.1).ok x (mem_at hj)
    unfold boxOk at this
    omega
set_option maxHeartbeats 6400000 in
set_option maxRecDepth 20000 in
theorem next_impl (h : HullV) (A P : Option Addr) (l : List BoxV) (pl : List Int) (c d : Nat) (w : World) (ha : RdBox w A l) (hl : l.length ≤ 1048576) (hlc : l.length ≤ c) (hp : Rd w P pl) (hpl : pl.length ≤ 1048576) (hpd : pl.length ≤ d) :
    Calls Try.prog 51 #[.agg #[.int .i64 h.bays, .int .i64 h.rows, .int .i64 h.tiers], .slice A l.length c, .slice P pl.length d] w (AnsC (fun s => s) (nextS h l pl).length (nextS h l pl) 3 w) := by
  obtain ⟨i0, hi, hz0, hz1, hz2⟩ := info_parts info_int
  obtain ⟨N, HN⟩ : ∃ N, Hid (nextS h l pl = N) := ⟨_, rfl⟩
  rw [HN.out]
  have kx := Blk.new w 36 #[.int .i64 h.bays, .int .i64 h.rows, .int .i64 h.tiers]
  have bx : Below w.heap.size w (w.alloc (.cells #[.int .i64 h.bays, .int .i64 h.rows, .int .i64 h.tiers] 36)) := below_one _
  obtain ⟨W0, HW0⟩ : ∃ W0, Hid (w.alloc (.cells #[.int .i64 h.bays, .int .i64 h.rows, .int .i64 h.tiers] 36) = W0) := ⟨_, rfl⟩
  rw [HW0.out] at kx bx
  have HA0 := Lib.hid (ha.below bx)
  have HP0 := Lib.hid (hp.below bx)
  obtain ⟨X, HX⟩ : ∃ X, Hid (w.heap.size = X) := ⟨_, rfl⟩
  rw [HX.out] at kx
  have hXl := kx.lt
  have HFIN : Hid (∀ W, Below W0.heap.size W0 W → Below w.heap.size w W) := fun W hW => bx.trans (hW.mono bx.size)
  have HZ0 : Hid (w.heap.size ≤ W0.heap.size) := bx.size
  have HZX : Hid (W0.heap.size = X + 1) := by show _ = _; rw [← HW0.out, ← HX.out]; simp
  have HS : Hid (∀ W, Below W0.heap.size W0 W → W.cell? ⟨X, 0, none⟩ = some (.int .i64 h.bays) ∧ W.cell? ⟨X, 1, none⟩ = some (.int .i64 h.rows) ∧ W.cell? ⟨X, 2, none⟩ = some (.int .i64 h.tiers)) := fun W hW => ⟨(kx.below hW hXl).cell 0, (kx.below hW hXl).cell 1, (kx.below hW hXl).cell 2⟩
  have B0 := Below.refl W0.heap.size W0
  obtain ⟨z0, z1, z2⟩ := HS.out W0 B0
  clear kx bx hXl ha hp
  have HPV : Hid (∀ W, Below W0.heap.size W0 W → Calls Try.prog 28 #[.agg #[.int .i64 h.bays, .int .i64 h.rows, .int .i64 h.tiers], .slice A l.length c, .slice P pl.length d] W fun e w' => e = .returned (.bool (pvS h l pl)) ∧ Below W0.heap.size W0 w') := fun W hW => (pv_impl h A P l pl c d W (HA0.out.below hW) hl hlc (HP0.out.below hW) hpl hpd).mono fun e w' ⟨h1, h2⟩ => ⟨h1, hW.trans (h2.mono hW.size)⟩
  cases hv : pvS h l pl with
  | false =>
    have HO : Hid (N = []) := by show _ = _; rw [← HN.out]; unfold nextS; rw [hv]; rfl
    have HPF := Lib.hid (bool_to' (HPV.out W0 B0) hv)
    clear hv
    go_enter Try.func51, Try.ntmps51
    go_wp2_with fail
    rw [HW0.out, HX.out]
    refine HPF.out.mono ?_
    rintro e w1 ⟨rfl, b1⟩
    go_wp2_with fail
    go_ret
    rw [HO.out]
    exact ⟨none, 0, rfl, Nat.le_refl _, Own.nil_, HFIN.out _ b1⟩
  | true =>
    have HO : Hid (N = nextTo h.tiers pl pl.length) := by show _ = _; rw [← HN.out]; unfold nextS; rw [hv]; rfl
    have HPT := Lib.hid (bool_to' (HPV.out W0 B0) hv)
    have HK := Lib.hid (pv_of hv).1
    have HNL := Lib.hid (pv_of hv).2.2.1
    have hn36 : pl.length ≤ 36 := by have := (slots_bd HK.out).2.2; have := HNL.out; omega
    clear hv
    go_enter Try.func51, Try.ntmps51
    go_wp2_with fail
    rw [HW0.out, HX.out]
    refine HPT.out.mono ?_
    rintro e w1 ⟨rfl, b1⟩
    clear z0 z1 z2
    go_wp2_with fail
    go_loopw [7, 17] (fun v i wr => ∃ (k : Nat) (L : List Int), k ≤ pl.length ∧ i = .int .i64 k ∧ L.length ≤ k ∧ Hid (nextTo h.tiers pl k = L) ∧ wr.ownsRow W0.heap.size 3 1 v L.length (L.map (Value.int .i64)) ∧ Below W0.heap.size W0 wr) (fun _ i _ => pl.length - (intOf i).toNat)
    case atStart => exact ⟨0, [], by omega, rfl, by simp, rfl, World.ownsRow_nil _ _ _ _, b1⟩
    case round =>
      obtain ⟨k, L, hk, rfl, hLk, HL, hown, hbw⟩ := hrel
      by_cases hlt : k < pl.length
      · obtain ⟨b, off, x, rfl, hbx, Hx, hx0⟩ := (HP0.out.below hbw).at_ (k := k) hlt
        have q0 : (0 : Int) ≤ (k : Int) := by omega
        have q1 : (k : Int) < (pl.length : Int) := by omega
        obtain ⟨m, HMM⟩ : ∃ m, Hid ((k : Int) % h.tiers = m) := ⟨_, rfl⟩
        have HT : Hid (∀ W, Below W0.heap.size W0 W → Calls Try.prog 62 #[.agg #[.int .i64 h.bays, .int .i64 h.rows, .int .i64 h.tiers], .int .i64 k] W fun e w' => e = .returned (.int .i64 m) ∧ Below W.heap.size W w') := fun W hW => by
          rw [← HMM.out]
          exact tier_any h k W HK.out (by omega) (by omega)
        have HM1 : Hid (k = 0 → m = 0) := fun e => by rw [← HMM.out, e]; simp
        obtain ⟨z0, z1, z2⟩ := HS.out _ hbw
        by_cases h0 : x = 0
        · have t1 : (x == 0) = true := beq_iff_eq.2 h0
          have HX0 := Lib.hid h0
          clear h0
          go_wp2_with fail
          refine (HT.out _ hbw).mono ?_
          rintro e w4 ⟨rfl, b4⟩
          have hown := row_chg hown (Chg.of_below (lo := 0) (hi := 0) b4 (Nat.le_refl _)) (Nat.zero_le _)
          have hbw := hbw.trans (b4.mono hbw.size)
          clear z0 z1 z2 b4
          by_cases hm : m = 0
          · have t2 : (m == 0) = true := beq_iff_eq.2 hm
            have HNX : Hid (nextTo h.tiers pl (k + 1) = L ++ [(k : Int)]) := by show _ = _; rw [← HL.out]; exact nextTo_yes Hx.out HX0.out (.inl (by rw [HMM.out]; exact hm))
            clear hm
            have hone : ∀ u ∈ [Value.int .i64 (k : Int)], u.oneCell' = true := fun u hu => by rw [List.mem_singleton.1 hu]; rfl
            have hbk := hown.lt
            have hsz := hbw.size
            go_wp2_with (at_builtin; refine wpList_append_own _ rfl _ _ 24 rfl W0.heap.size 3 i0 (.int .i64 0) 1 8 Try.underlying24 hi hz0 hz1 hz2 rfl (by decide) _ _ _ rfl (hown.alloc _) ⟨_, 0, none⟩ 1 1 [.int .i64 (k : Int)] rfl rfl (cell_one_new _ _ _) hone ?c3 ?c4 ?c5 ?_)
            case c3 => unfold maxLen; omega
            case c4 => omega
            case c5 => simp; omega
            intro v' w9 hown9 hgrow _
            have hb5 := Lib.hid ((hbw.alloc hsz (.cells #[.int .i64 (k : Int)] 3)).grown hgrow (by simp; omega) (fun b e => (hbk b e).1))
            have hown5 : Hid (w9.ownsRow W0.heap.size 3 1 v' (L ++ [(k : Int)]).length ((L ++ [(k : Int)]).map (Value.int .i64))) := by
              show World.ownsRow _ _ _ _ _ _ _
              rw [List.length_append, List.length_singleton]
              exact row_more hown9 rfl
            clear hown9 hgrow
            go_wp2_with fail
            exact ⟨⟨k + 1, L ++ [(k : Int)], by omega, by go_num, by simp; omega, HNX.out, hown5.out, hb5.out⟩, by simp [intOf]; omega⟩
          · have t2 : (m == 0) = false := beq_eq_false_iff_ne.2 hm
            obtain ⟨j, HJK⟩ : ∃ j, Hid (k = j + 1) := ⟨k - 1, by show _ = _; have := HM1.out; omega⟩
            obtain ⟨b2, off2, y, e2, hb2, Hy, hy0⟩ := (HP0.out.below hbw).at_ (k := j) (by have := HJK.out; omega)
            injection e2 with e2
            injection e2 with e2a e2b e2c
            subst e2a e2b
            clear e2c
            have p0 : (0 : Int) ≤ (k : Int) - 1 := by have := HJK.out; omega
            have p1 : (k : Int) - 1 < (pl.length : Int) := by omega
            have p2 : ((k : Int) - 1).toNat = j := by have := HJK.out; omega
            by_cases hy : y = 0
            · have t3 : (y != 0) = false := by simp [hy]
              have HNX : Hid (nextTo h.tiers pl (k + 1) = L) := by
                show _ = _
                rw [← HL.out]
                refine nextTo_no Hx.out (fun hb => ?_)
                rcases hb.2 with hb | hb
                · rw [HMM.out] at hb; exact hm hb
                · apply hb; rw [HJK.out, ← hy]; exact Hy.out
              clear hm hy
              go_wp2_with fail
              exact ⟨⟨k + 1, L, by omega, by go_num, by omega, HNX.out, hown, hbw⟩, by simp [intOf]; omega⟩
            · have t3 : (y != 0) = true := by simp [hy]
              have HNX : Hid (nextTo h.tiers pl (k + 1) = L ++ [(k : Int)]) := by
                show _ = _
                rw [← HL.out]
                refine nextTo_yes Hx.out HX0.out (.inr (fun hb => ?_))
                have h2 := Hy.out
                rw [HJK.out, show j + 1 - 1 = j from rfl, h2] at hb
                injection hb with hb
                exact hy hb
              clear hm hy
              have hone : ∀ u ∈ [Value.int .i64 (k : Int)], u.oneCell' = true := fun u hu => by rw [List.mem_singleton.1 hu]; rfl
              have hbk := hown.lt
              have hsz := hbw.size
              go_wp2_with (at_builtin; refine wpList_append_own _ rfl _ _ 24 rfl W0.heap.size 3 i0 (.int .i64 0) 1 8 Try.underlying24 hi hz0 hz1 hz2 rfl (by decide) _ _ _ rfl (hown.alloc _) ⟨_, 0, none⟩ 1 1 [.int .i64 (k : Int)] rfl rfl (cell_one_new _ _ _) hone ?c3 ?c4 ?c5 ?_)
              case c3 => unfold maxLen; omega
              case c4 => omega
              case c5 => simp; omega
              intro v' w9 hown9 hgrow _
              have hb5 := Lib.hid ((hbw.alloc hsz (.cells #[.int .i64 (k : Int)] 3)).grown hgrow (by simp; omega) (fun b e => (hbk b e).1))
              have hown5 : Hid (w9.ownsRow W0.heap.size 3 1 v' (L ++ [(k : Int)]).length ((L ++ [(k : Int)]).map (Value.int .i64))) := by
                show World.ownsRow _ _ _ _ _ _ _
                rw [List.length_append, List.length_singleton]
                exact row_more hown9 rfl
              clear hown9 hgrow
              go_wp2_with fail
              exact ⟨⟨k + 1, L ++ [(k : Int)], by omega, by go_num, by simp; omega, HNX.out, hown5.out, hb5.out⟩, by simp [intOf]; omega⟩
        · have t1 : (x == 0) = false := beq_eq_false_iff_ne.2 h0
          have HNX : Hid (nextTo h.tiers pl (k + 1) = L) := by show _ = _; rw [← HL.out]; exact nextTo_no Hx.out (fun hb => h0 hb.1)
          clear h0
          go_wp2_with fail
          exact ⟨⟨k + 1, L, by omega, by go_num, by omega, HNX.out, hown, hbw⟩, by simp [intOf]; omega⟩
      · obtain rfl : k = pl.length := by omega
        have HNE : Hid (N = L) := HO.out.trans HL.out
        have HROW := Lib.hid hown
        clear hown
        go_wp2_with fail
        go_ret
        rw [HNE.out]
        exact row_ans HROW.out HZ0.out (HFIN.out _ hbw)
set_option maxHeartbeats 6400000 in
set_option maxRecDepth 20000 in
theorem next_spec (h : HullV) (A P : Option Addr) (l : List BoxV) (pl : List Int) (c d : Nat) (w : World) (ha : RdBox w A l) (hl : l.length ≤ 1048576) (hp : Rd w P pl) (hpl : pl.length ≤ 1048576) (hpd : pl.length ≤ d) :
    Calls Try.prog 74 #[.agg #[.int .i64 h.bays, .int .i64 h.rows, .int .i64 h.tiers], .slice A l.length c, .slice P pl.length d] w (AnsC (fun s => s) (nextS h l pl).length (nextS h l pl) 3 w) := by
  obtain ⟨i0, hi, hz0, hz1, hz2⟩ := info_parts info_int
  obtain ⟨N, HN⟩ : ∃ N, Hid (nextS h l pl = N) := ⟨_, rfl⟩
  rw [HN.out]
  have kx := Blk.new w 36 #[.int .i64 h.bays, .int .i64 h.rows, .int .i64 h.tiers]
  have bx : Below w.heap.size w (w.alloc (.cells #[.int .i64 h.bays, .int .i64 h.rows, .int .i64 h.tiers] 36)) := below_one _
  obtain ⟨W0, HW0⟩ : ∃ W0, Hid (w.alloc (.cells #[.int .i64 h.bays, .int .i64 h.rows, .int .i64 h.tiers] 36) = W0) := ⟨_, rfl⟩
  rw [HW0.out] at kx bx
  have HA0 := Lib.hid (ha.below bx)
  have HP0 := Lib.hid (hp.below bx)
  obtain ⟨X, HX⟩ : ∃ X, Hid (w.heap.size = X) := ⟨_, rfl⟩
  rw [HX.out] at kx
  have hXl := kx.lt
  have HFIN : Hid (∀ W, Below W0.heap.size W0 W → Below w.heap.size w W) := fun W hW => bx.trans (hW.mono bx.size)
  have HZ0 : Hid (w.heap.size ≤ W0.heap.size) := bx.size
  have HZX : Hid (W0.heap.size = X + 1) := by show _ = _; rw [← HW0.out, ← HX.out]; simp
  have HS : Hid (∀ W, Below W0.heap.size W0 W → W.cell? ⟨X, 0, none⟩ = some (.int .i64 h.bays) ∧ W.cell? ⟨X, 1, none⟩ = some (.int .i64 h.rows) ∧ W.cell? ⟨X, 2, none⟩ = some (.int .i64 h.tiers)) := fun W hW => ⟨(kx.below hW hXl).cell 0, (kx.below hW hXl).cell 1, (kx.below hW hXl).cell 2⟩
  have B0 := Below.refl W0.heap.size W0
  obtain ⟨z0, z1, z2⟩ := HS.out W0 B0
  clear kx bx hXl ha hp
  have HPV : Hid (∀ W, Below W0.heap.size W0 W → Calls Try.prog 35 #[.agg #[.int .i64 h.bays, .int .i64 h.rows, .int .i64 h.tiers], .slice A l.length c, .slice P pl.length d] W fun e w' => e = .returned (.bool (pvS h l pl)) ∧ Below W0.heap.size W0 w') := fun W hW => (pv_spec h A P l pl c d W (HA0.out.below hW) hl (HP0.out.below hW) hpl hpd).mono fun e w' ⟨h1, h2⟩ => ⟨h1, hW.trans (h2.mono hW.size)⟩
  have bl : Below W0.heap.size W0 (W0.alloc (.cells #[] 3)) := below_one _
  have hown0 : (W0.alloc (.cells #[] 3)).ownsRow W0.heap.size 3 1 (.slice (some ⟨W0.heap.size, 0, none⟩) 0 0) ([] : List Int).length (([] : List Int).map (Value.int .i64)) := World.ownsRow_lit W0 #[] 0 (Nat.le_refl _) (by unfold maxLen; omega) rfl
  cases hv : pvS h l pl with
  | false =>
    have HO : Hid (N = []) := by show _ = _; rw [← HN.out]; unfold nextS; rw [hv]; rfl
    have HPF : Hid (∀ W, Below W0.heap.size W0 W → _) := fun W hW => bool_to' (HPV.out W hW) hv
    have HBL := Lib.hid bl
    clear hv
    clear z0 z1 z2
    obtain ⟨z0, z1, z2⟩ := HS.out _ bl
    go_enter Try.func74, Try.ntmps74
    go_wp2_with fail
    rw [HW0.out, HX.out]
    refine (HPF.out _ HBL.out).mono ?_
    rintro e w1 ⟨rfl, b1⟩
    go_wp2_with fail
    go_ret
    rw [HO.out]
    exact ⟨_, _, rfl, Nat.le_refl _, Own.nil_, HFIN.out _ b1⟩
  | true =>
    have HPT : Hid (∀ W, Below W0.heap.size W0 W → Calls Try.prog 35 #[.agg #[.int .i64 h.bays, .int .i64 h.rows, .int .i64 h.tiers], .slice A l.length c, .slice P pl.length d] W fun e w' => e = .returned (.bool true) ∧ Below W.heap.size W w') := fun W hW => bool_to (pv_spec h A P l pl c d W (HA0.out.below hW) hl (HP0.out.below hW) hpl hpd) hv
    have HO : Hid (N = nextTo h.tiers pl pl.length) := by show _ = _; rw [← HN.out]; unfold nextS; rw [hv]; rfl
    have HK := Lib.hid (pv_of hv).1
    have HNL := Lib.hid (pv_of hv).2.2.1
    have HPOS : Hid (∀ (i : Nat) (id : Int), pl[i]? = some id → 0 ≤ id) := fun i id hx => pv_pos hv hx
    have hn36 : pl.length ≤ 36 := by have := (slots_bd HK.out).2.2; have := HNL.out; omega
    clear hv
    clear z0 z1 z2
    obtain ⟨z0, z1, z2⟩ := HS.out _ bl
    go_enter Try.func74, Try.ntmps74
    go_wp2_with fail
    rw [HW0.out, HX.out]
    refine (HPT.out _ bl).mono ?_
    rintro e w1 ⟨rfl, b1⟩
    have hown1 := row_chg hown0 (Chg.of_below (lo := 0) (hi := 0) b1 (Nat.le_refl _)) (Nat.zero_le _)
    have b1 := bl.trans (b1.mono bl.size)
    clear z0 z1 z2 bl hown0
    go_wp2_with fail
    go_loopw [7, 8] (fun v i wr => ∃ (k : Nat) (L : List Int), k ≤ pl.length ∧ i = .int .i64 k ∧ L.length ≤ k ∧ Hid (nextTo h.tiers pl k = L) ∧ wr.ownsRow W0.heap.size 3 1 v L.length (L.map (Value.int .i64)) ∧ Below W0.heap.size W0 wr) (fun _ i _ => pl.length - (intOf i).toNat)
    case atStart => exact ⟨0, [], by omega, rfl, by simp, rfl, by rw [← HZX.out]; exact hown1, b1⟩
    case round =>
      clear hown1 b1
      obtain ⟨k, L, hk, rfl, hLk, HL, hown, hbw⟩ := hrel
      by_cases hlt : k < pl.length
      · obtain ⟨b, off, x, rfl, hbx, Hx, hx0⟩ := (HP0.out.below hbw).at_ (k := k) hlt
        have q0 : (0 : Int) ≤ (k : Int) := by omega
        have q1 : (k : Int) < (pl.length : Int) := by omega
        obtain ⟨m, HMM⟩ : ∃ m, Hid (belowV h k = m) := ⟨_, rfl⟩
        have HT : Hid (∀ W, Below W0.heap.size W0 W → Calls Try.prog 69 #[.agg #[.int .i64 h.bays, .int .i64 h.rows, .int .i64 h.tiers], .int .i64 k] W fun e w' => e = .returned (.int .i64 m) ∧ Below W.heap.size W w') := fun W hW => by
          rw [← HMM.out]
          exact below_spec h k W HK.out (by omega) (by have := HNL.out; omega)
        have HMW : Hid ((1 ≤ (k : Int) % h.tiers ∧ m = (k : Int) - 1 ∧ 1 ≤ k) ∨ ((k : Int) % h.tiers = 0 ∧ m = -1)) := by
          have hM := HMM.out
          unfold belowV at hM
          split at hM
          · next h1 => exact .inl ⟨h1, hM.symm, by
              rcases Nat.eq_zero_or_pos k with e | e
              · subst e; simp at h1
              · exact e⟩
          · next h1 => exact .inr ⟨by have := Int.emod_nonneg (k : Int) (b := h.tiers) (by have := HK.out.2.2.1; omega); omega, hM.symm⟩
        obtain ⟨z0, z1, z2⟩ := HS.out _ hbw
        have hmlo : -1 ≤ m := by rcases HMW.out with h1 | h1 <;> omega
        go_wp2_with fail
        refine (HT.out _ hbw).mono ?_
        rintro e w4 ⟨rfl, b4⟩
        have hown := row_chg hown (Chg.of_below (lo := 0) (hi := 0) b4 (Nat.le_refl _)) (Nat.zero_le _)
        have hx0 := (b4.cell (p := ⟨b, off + k, none⟩) hbx).trans hx0
        have hbw := hbw.trans (b4.mono hbw.size)
        clear z0 z1 z2 b4
        by_cases h0 : x = 0
        · have t1 : (x == 0) = true := beq_iff_eq.2 h0
          have HX0 := Lib.hid h0
          clear h0
          by_cases hm : 0 ≤ m
          · obtain ⟨j, HJK⟩ : ∃ j, Hid (k = j + 1) := ⟨k - 1, by show _ = _; have := HMW.out; omega⟩
            obtain rfl : m = (j : Int) := by have := HMW.out; have := HJK.out; omega
            obtain ⟨b2, off2, y, e2, hb2, Hy, hy0⟩ := (HP0.out.below hbw).at_ (k := j) (by have := HJK.out; omega)
            injection e2 with e2
            injection e2 with e2a e2b e2c
            subst e2a e2b
            clear e2c
            have HYP := HPOS.out j y Hy.out
            have HJ : Hid (1 ≤ (k : Int) % h.tiers) := by rcases HMW.out with h1 | h1; exact h1.1; omega
            have p0 : (0 : Int) ≤ (j : Int) := by omega
            have p1 : (j : Int) < (pl.length : Int) := by have := HJK.out; omega
            have p3 : decide ((j : Int) < 0) = false := by simp
            by_cases hy : y = 0
            · have t3 : decide (0 < y) = false := by simp [hy]
              have HNX : Hid (nextTo h.tiers pl (k + 1) = L) := by
                show _ = _
                rw [← HL.out]
                refine nextTo_no Hx.out (fun hb => ?_)
                rcases hb.2 with hb | hb
                · have := HJ.out; omega
                · apply hb; rw [HJK.out, ← hy]; exact Hy.out
              clear hm hy
              go_wp2_with fail
              exact ⟨⟨k + 1, L, by omega, by go_num, by omega, HNX.out, hown, hbw⟩, by simp [intOf]; omega⟩
            · have t3 : decide (0 < y) = true := by simp; omega
              have HNX : Hid (nextTo h.tiers pl (k + 1) = L ++ [(k : Int)]) := by
                show _ = _
                rw [← HL.out]
                refine nextTo_yes Hx.out HX0.out (.inr (fun hb => ?_))
                have h2 := Hy.out
                rw [HJK.out, show j + 1 - 1 = j from rfl, h2] at hb
                injection hb with hb
                exact hy hb
              clear hm hy
              have hone : ∀ u ∈ [Value.int .i64 (k : Int)], u.oneCell' = true := fun u hu => by rw [List.mem_singleton.1 hu]; rfl
              have hbk := hown.lt
              have hsz := hbw.size
              go_wp2_with (at_builtin; refine wpList_append_own _ rfl _ _ 24 rfl W0.heap.size 3 i0 (.int .i64 0) 1 8 Try.underlying24 hi hz0 hz1 hz2 rfl (by decide) _ _ _ rfl (hown.alloc _) ⟨_, 0, none⟩ 1 1 [.int .i64 (k : Int)] rfl rfl (cell_one_new _ _ _) hone ?c3 ?c4 ?c5 ?_)
              case c3 => unfold maxLen; omega
              case c4 => omega
              case c5 => simp; omega
              intro v' w9 hown9 hgrow _
              have hb5 := Lib.hid ((hbw.alloc hsz (.cells #[.int .i64 (k : Int)] 3)).grown hgrow (by simp; omega) (fun b e => (hbk b e).1))
              have hown5 : Hid (w9.ownsRow W0.heap.size 3 1 v' (L ++ [(k : Int)]).length ((L ++ [(k : Int)]).map (Value.int .i64))) := by
                show World.ownsRow _ _ _ _ _ _ _
                rw [List.length_append, List.length_singleton]
                exact row_more hown9 rfl
              clear hown9 hgrow
              go_wp2_with fail
              exact ⟨⟨k + 1, L ++ [(k : Int)], by omega, by go_num, by simp; omega, HNX.out, hown5.out, hb5.out⟩, by simp [intOf]; omega⟩
          · obtain rfl : m = -1 := by omega
            have HNX : Hid (nextTo h.tiers pl (k + 1) = L ++ [(k : Int)]) := by
              show _ = _
              rw [← HL.out]
              exact nextTo_yes Hx.out HX0.out (.inl (by rcases HMW.out with h1 | h1; omega; exact h1.1))
            clear hm
            have hone : ∀ u ∈ [Value.int .i64 (k : Int)], u.oneCell' = true := fun u hu => by rw [List.mem_singleton.1 hu]; rfl
            have hbk := hown.lt
            have hsz := hbw.size
            go_wp2_with (at_builtin; refine wpList_append_own _ rfl _ _ 24 rfl W0.heap.size 3 i0 (.int .i64 0) 1 8 Try.underlying24 hi hz0 hz1 hz2 rfl (by decide) _ _ _ rfl (hown.alloc _) ⟨_, 0, none⟩ 1 1 [.int .i64 (k : Int)] rfl rfl (cell_one_new _ _ _) hone ?c3 ?c4 ?c5 ?_)
            case c3 => unfold maxLen; omega
            case c4 => omega
            case c5 => simp; omega
            intro v' w9 hown9 hgrow _
            have hb5 := Lib.hid ((hbw.alloc hsz (.cells #[.int .i64 (k : Int)] 3)).grown hgrow (by simp; omega) (fun b e => (hbk b e).1))
            have hown5 : Hid (w9.ownsRow W0.heap.size 3 1 v' (L ++ [(k : Int)]).length ((L ++ [(k : Int)]).map (Value.int .i64))) := by
              show World.ownsRow _ _ _ _ _ _ _
              rw [List.length_append, List.length_singleton]
              exact row_more hown9 rfl
            clear hown9 hgrow
            go_wp2_with fail
            exact ⟨⟨k + 1, L ++ [(k : Int)], by omega, by go_num, by simp; omega, HNX.out, hown5.out, hb5.out⟩, by simp [intOf]; omega⟩
        · have t1 : (x == 0) = false := beq_eq_false_iff_ne.2 h0
          have HNX : Hid (nextTo h.tiers pl (k + 1) = L) := by show _ = _; rw [← HL.out]; exact nextTo_no Hx.out (fun hb => h0 hb.1)
          clear h0
          go_wp2_with fail
          exact ⟨⟨k + 1, L, by omega, by go_num, by omega, HNX.out, hown, hbw⟩, by simp [intOf]; omega⟩
      · obtain rfl : k = pl.length := by omega
        have HNE : Hid (N = L) := HO.out.trans HL.out
        have HROW := Lib.hid hown
        clear hown
        go_wp2_with fail
        go_ret
        rw [HNE.out]
        exact row_ans HROW.out HZ0.out (HFIN.out _ hbw)
end Go.Proofs.Ytphncbnnnickhaa
