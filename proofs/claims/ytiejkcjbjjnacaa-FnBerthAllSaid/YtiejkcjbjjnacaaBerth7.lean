/- Ships at a quay one after the other: the walk of the reference model. -/
import Derived.Test.YtiejkcjbjjnacaaBerth5
import Derived.Test.YtiejkcjbjjnacaaBerth6
namespace Go.Proofs.Ytiejkcjbjjnacaa
open Go.RowKit
set_option linter.unusedVariables false
set_option linter.unusedSimpArgs false

set_option maxHeartbeats 6400000 in
theorem ba_spec (A B C : Option Addr) (l m n : List Int) (c d f : Nat) (w : World) (ha : Rd w A l) (hb : Rd w B m) (hc : Rd w C n) (hl : l.length ≤ 1048576) (hm : m.length ≤ 1048576) (hn : n.length ≤ 1048576) :
    Calls Try.prog 26 #[.slice A l.length c, .slice B m.length d, .slice C n.length f] w (AllPost (allC l m n) w) := by
  obtain ⟨i0, hi, hz0, hz1, hz2⟩ := info_parts info_Call
  obtain ⟨N, HN⟩ : ∃ N, Hid (allC l m n = N) := ⟨_, rfl⟩
  rw [HN.out]
  by_cases e1 : m.length = l.length
  · by_cases e2 : n.length = l.length
    · have t1 : ((l.length : Int) != (m.length : Int)) = false := by simp [e1]
      have t2 : ((l.length : Int) != (n.length : Int)) = false := by simp [e2]
      have hN := HN.out
      rw [allC_yes ⟨e1.symm, e2.symm⟩] at hN
      have HN0 := Lib.hid hN
      have E1 := Lib.hid e1
      have E2 := Lib.hid e2
      clear hN e1 e2
      go_enter Try.func26, Try.ntmps26
      go_wp2_with fail
      go_loopw [8, 9] (fun v i wr => ∃ (k : Nat) (out : List CallV), k ≤ l.length ∧ i = .int .i64 k ∧ Hid (out.length = k) ∧ wr.ownsRow w.heap.size 25 4 v k ((flatCall out).map (Value.int .i64)) ∧ Hid (allFrom out (l.drop k) (m.drop k) (n.drop k) = N) ∧ Below w.heap.size w wr) (fun _ i _ => l.length - (intOf i).toNat)
      case atStart => exact ⟨0, [], by omega, rfl, rfl, World.ownsRow_lit w #[] 0 (Nat.le_refl _) (by unfold maxLen; omega) rfl, HN0.out, (Below.refl _ _).alloc (Nat.le_refl _) _⟩
      case round =>
        obtain ⟨k, out, hk, rfl, HO, hown, HA, hbw⟩ := hrel
        by_cases hlt : k < l.length
        · obtain ⟨b0, off0, x, rfl, hb0, Hx, hx0⟩ := (ha.below hbw).at_ hlt
          obtain ⟨b1, off1, y, rfl, hb1, Hy, hy0⟩ := (hb.below hbw).at_ (k := k) (by have := E1.out; omega)
          obtain ⟨b2, off2, z, rfl, hb2, Hz, hz⟩ := (hc.below hbw).at_ (k := k) (by have := E2.out; omega)
          have hkm : k < m.length := by have := E1.out; omega
          have hkn : k < n.length := by have := E2.out; omega
          have q0 : (0 : Int) ≤ (k : Int) := by omega
          have q1 : (k : Int) < (l.length : Int) := by omega
          have q2 : (k : Int) < (m.length : Int) := by omega
          have q3 : (k : Int) < (n.length : Int) := by omega
          obtain ⟨A2, c2, rfl, hc2⟩ := own_slice hown
          have hOwn : Own 25 wr w.heap.size wr.heap.size A2 (flatCall out) := Own.of_row hown (Nat.le_refl _)
          obtain ⟨M, HM⟩ : ∃ M, Hid (nextC out x y z = M) := ⟨_, rfl⟩
          obtain ⟨q, HQ⟩ : ∃ q, Hid (M.getD ⟨0, 0, 0, 0⟩ = q) := ⟨_, rfl⟩
          obtain ⟨r, HR⟩ : ∃ r, Hid (M.isSome = r) := ⟨_, rfl⟩
          have HB2 : Hid (∀ W : World, Below wr.heap.size wr W → Calls Try.prog 23 #[.slice A2 k c2, .int .i64 x, .int .i64 y, .int .i64 z] W fun e w' => e = .returned (.tuple #[.agg #[.int .i64 q.start, .int .i64 q.hours, .int .i64 q.at_, .int .i64 q.long], .bool r]) ∧ Below wr.heap.size wr w' ∧ Below W.heap.size W w') := fun W hW => by
            have h := bn_spec A2 out c2 x y z W ((RdCall.of_rd hOwn.rd).below hW) (by have := HO.out; omega)
            rw [HO.out, HM.out] at h
            refine h.mono fun e w' h => ⟨h.1.trans ?_, hW.trans (h.2.mono hW.size), h.2⟩
            rw [nextV_eq, HQ.out, HR.out]
          have HOWN := Lib.hid hown
          have HBW := Lib.hid hbw
          clear hown hOwn hbw
          go_upto_region 7 with fail
          go_cut [10, 11] from 32 to 48 (fun s11 s12 wx => ∃ HH : Nat, s11 = .pointer (some ⟨HH, 0, none⟩) ∧ s12 = .bool r ∧ Blk wx HH 25 #[.int .i64 q.start, .int .i64 q.hours, .int .i64 q.at_, .int .i64 q.long] ∧ Below wr.heap.size wr wx)
          case first =>
            have hW1 : Below wr.heap.size wr wr.drew := (Below.refl _ _).drew
            have hW2 : Below wr.heap.size wr (wr.alloc (.cells #[.int .i64 0, .int .i64 0, .int .i64 0, .int .i64 0] 25)).drew := ((Below.refl _ _).alloc (Nat.le_refl _) _).drew
            have hWB : Blk (wr.alloc (.cells #[.int .i64 0, .int .i64 0, .int .i64 0, .int .i64 0] 25)).drew wr.heap.size 25 #[.int .i64 0, .int .i64 0, .int .i64 0, .int .i64 0] := (Blk.new wr 25 _).drewN 1
            have hWL := hWB.lt
            go_region_held3 (fun w' => w'.cell? ⟨b0, off0 + k, none⟩ = some (.int .i64 x) ∧ w'.cell? ⟨b1, off1 + k, none⟩ = some (.int .i64 y) ∧ w'.cell? ⟨b2, off2 + k, none⟩ = some (.int .i64 z)) (first | with_reducible exact ⟨s0, s1, s2⟩ | with_reducible exact ⟨(cell_alloc_old _ _ z0).trans s0, (cell_alloc_old _ _ z1).trans s1, (cell_alloc_old _ _ z2).trans s2⟩ | with_reducible exact ⟨(cell_alloc_old _ _ hb0).trans hx0, (cell_alloc_old _ _ hb1).trans hy0, (cell_alloc_old _ _ hb2).trans hz⟩ | with_reducible exact ⟨(far4 (p := ⟨b0, off0 + k, none⟩) (Nat.ne_of_gt hb0)).trans s0, (far4 (p := ⟨b1, off1 + k, none⟩) (Nat.ne_of_gt hb1)).trans s1, (far4 (p := ⟨b2, off2 + k, none⟩) (Nat.ne_of_gt hb2)).trans s2⟩ | go_keep) (first | (go_at_call 23; (with_reducible refine (HB2.out _ hW2).mono ?_); rintro e wn ⟨rfl, bw, bn⟩; have s0 := (bw.cell (p := ⟨b0, off0 + k, none⟩) hb0).trans hx0; have z0 := Nat.lt_of_lt_of_le hb0 bw.size; have s1 := (bw.cell (p := ⟨b1, off1 + k, none⟩) hb1).trans hy0; have z1 := Nat.lt_of_lt_of_le hb1 bw.size; have s2 := (bw.cell (p := ⟨b2, off2 + k, none⟩) hb2).trans hz; have z2 := Nat.lt_of_lt_of_le hb2 bw.size; have kG := hWB.below bn hWL; have a0 := kG.cell 0; have fz0 := kG.frozen 0; have a1 := kG.cell 1; have fz1 := kG.frozen 1; have a2 := kG.cell 2; have fz2 := kG.frozen 2; have a3 := kG.cell 3; have fz3 := kG.frozen 3; simp only [List.getElem?_toArray, List.getElem?_cons_zero, List.getElem?_cons_succ] at a0 a1 a2 a3) | (go_at_call 23; (with_reducible refine (HB2.out _ hW1).mono ?_); rintro e wn ⟨rfl, bw, bn⟩; have s0 := (bw.cell (p := ⟨b0, off0 + k, none⟩) hb0).trans hx0; have z0 := Nat.lt_of_lt_of_le hb0 bw.size; have s1 := (bw.cell (p := ⟨b1, off1 + k, none⟩) hb1).trans hy0; have z1 := Nat.lt_of_lt_of_le hb1 bw.size; have s2 := (bw.cell (p := ⟨b2, off2 + k, none⟩) hb2).trans hz; have z2 := Nat.lt_of_lt_of_le hb2 bw.size))
            all_goals
              go_wp2_with fail
              go_meet
              first
                | exact ⟨_, rfl, rfl, Blk.new _ _ _, bw.alloc bw.size _⟩
                | exact ⟨_, rfl, rfl, (by have h := (((kG.set_ 0 (.int .i64 q.start)).set_ 1 (.int .i64 q.hours)).set_ 2 (.int .i64 q.at_)).set_ 3 (.int .i64 q.long); simpa using h), set4 bw (Nat.le_refl _)⟩
          case rest =>
            obtain ⟨HH, rfl, rfl, kV, bw⟩ := hcut
            have bV : Below w.heap.size w wc := HBW.out.trans (bw.mono HBW.out.size)
            cases M with
            | none =>
              obtain rfl : false = r := HR.out
              have HS : Hid (N = none) := by
                show _ = _
                rw [← HA.out, allFrom_step Hx.out Hy.out Hz.out, HM.out]
              have zV := bV.size
              go_wp2_with fail
              go_ret2
              rw [HS.out]
              exact all_none (bV.alloc bV.size _)
            | some q' =>
              obtain rfl : true = r := HR.out
              obtain rfl : q' = q := HQ.out
              have HS : Hid (allFrom (out ++ [q']) (l.drop (k + 1)) (m.drop (k + 1)) (n.drop (k + 1)) = N) := by
                show _ = _
                rw [← HA.out, allFrom_step Hx.out Hy.out Hz.out, HM.out]
              have rowV := row_below HOWN.out bw
              have zV := bV.size
              have hbV := rowV.lt
              have c0 := kV.cell 0
              have c1 := kV.cell 1
              have c2' := kV.cell 2
              have c3 := kV.cell 3
              simp only [List.getElem?_toArray, List.getElem?_cons_zero, List.getElem?_cons_succ] at c0 c1 c2' c3
              have hone : ∀ u ∈ [Value.int .i64 q'.start, Value.int .i64 q'.hours, Value.int .i64 q'.at_, Value.int .i64 q'.long], u.oneCell' = true := fun u hu => by
                simp only [List.mem_cons, List.not_mem_nil, or_false] at hu
                rcases hu with rfl | rfl | rfl | rfl <;> rfl
              have m3 : k + 1 ≤ maxLen := by unfold maxLen; omega
              have m4 : (k + 1) * 32 ≤ 140737488355328 := by omega
              have m5 : w.heap.size ≤ (wc.alloc (.cells #[.int .i64 q'.start, .int .i64 q'.hours, .int .i64 q'.at_, .int .i64 q'.long] 25)).heap.size := by simp; omega
              clear kV
              go_wp2_with (at_builtin; refine wpList_append_own _ rfl _ _ 33 rfl w.heap.size 25 i0 (.agg #[.int .i64 0, .int .i64 0, .int .i64 0, .int .i64 0]) 4 32 Try.underlying33 hi hz0 hz1 hz2 rfl (by decide) _ _ _ rfl (rowV.alloc _) ⟨wc.heap.size, 0, none⟩ 1 1 [.int .i64 q'.start, .int .i64 q'.hours, .int .i64 q'.at_, .int .i64 q'.long] rfl rfl (news4 (Blk.new wc _ _)) hone m3 m4 m5 ?_)
              intro v' w3 hown3 hgrow _
              have hrow := Lib.hid (row_flat hown3 HO.out.symm)
              have hb3 := Lib.hid ((bV.alloc bV.size (.cells #[.int .i64 q'.start, .int .i64 q'.hours, .int .i64 q'.at_, .int .i64 q'.long] 25)).grown hgrow (by simp; omega) (fun b e => (hbV b e).1))
              clear hown3 hgrow
              go_wp2_with fail
              exact ⟨⟨k + 1, out ++ [q'], by omega, by go_num, by show _ = _; rw [List.length_append, List.length_singleton, HO.out], hrow.out, HS.out, hb3.out⟩, by simp [intOf]; omega⟩
        · have hkl : l.length ≤ k := by omega
          have HNS := Lib.hid (HA.out.symm.trans (allFrom_end hkl))
          have HROW : Hid (wr.ownsRow w.heap.size 25 4 u8 out.length ((flatCall out).map (Value.int .i64))) := by show World.ownsRow _ _ _ _ _ _ _; rw [HO.out]; exact hown
          clear hown hkl
          go_wp2_with fail
          go_ret2
          rw [HNS.out]
          exact all_some HROW.out hbw
    · have t1 : ((l.length : Int) != (m.length : Int)) = false := by simp [e1]
      have t2 : ((l.length : Int) != (n.length : Int)) = true := by simp; omega
      have HNS := Lib.hid (HN.out.symm.trans (allC_no (fun h => e2 h.2.symm)))
      have E1 := Lib.hid e1
      clear e1 e2
      go_enter Try.func26, Try.ntmps26
      go_wp2_with fail
      go_ret2
      rw [HNS.out]
      exact all_none ((Below.refl _ _).alloc (Nat.le_refl _) _)
  · have t1 : ((l.length : Int) != (m.length : Int)) = true := by simp; omega
    have HNS := Lib.hid (HN.out.symm.trans (allC_no (fun h => e1 h.1.symm)))
    clear e1
    go_enter Try.func26, Try.ntmps26
    go_wp2_with fail
    go_ret2
    rw [HNS.out]
    exact all_none ((Below.refl _ _).alloc (Nat.le_refl _) _)
end Go.Proofs.Ytiejkcjbjjnacaa
