/- ComeOrder: the reference's walk, and that both give the same. -/
import Derived.Test.YtjbocijckoaekaaDraw
import Derived.Test.YtjbocijckoaekaaCome
import Derived.Test.YtjbocijckoaekaaSortLaw
namespace Go.Proofs.Ytjbocijckoaekaa
open Go.RowKit
set_option linter.unusedVariables false
set_option linter.unusedSimpArgs false

theorem comeS_ordered {l : List ShipV} (h : listV l = true) : Ordered (arrOf l) l.length (comeS l) := by
  rw [comeS_yes h]
  exact insS_ordered fun x y _ _ _ _ => by unfold cfS; omega
theorem comeS_short (l : List ShipV) : (comeS l).length ≤ 5 := by
  unfold comeS
  split
  · next h =>
    have := (listV_spec h).2
    rw [insS_length, marks_length]; omega
  · simp
theorem comeS_len {l : List ShipV} (h : listV l = true) : (comeS l).length = l.length := by rw [comeS_yes h, insS_length, marks_length]
section
variable {key : Int → Int} {n : Nat} {P : List Int}
/-- All below j are taken, or b is the first of those that are not. -/
def NoneTo (P : List Int) (k j : Nat) : Prop := ∀ x : Int, 0 ≤ x → x < j → x ∈ P.take k
def BestTo (key : Int → Int) (P : List Int) (k j : Nat) (b : Int) : Prop := b ∉ P.take k ∧ ∀ x : Int, 0 ≤ x → x < j → x ∉ P.take k → x = b ∨ before key b x
theorem none_0 (P : List Int) (k : Nat) : NoneTo P k 0 := fun x h1 h2 => by omega
theorem none_has {k j : Nat} (h : NoneTo P k j) (hj : (j : Int) ∈ P.take k) : NoneTo P k (j + 1) := fun x h1 h2 => by
  by_cases e : x = j
  · rw [e]; exact hj
  · exact h x h1 (by omega)
theorem none_new {k j : Nat} (h : NoneTo P k j) (hj : (j : Int) ∉ P.take k) : BestTo key P k (j + 1) j := ⟨hj, fun x h1 h2 h3 => by
  by_cases e : x = j
  · exact .inl e
  · exact absurd (h x h1 (by omega)) h3⟩
theorem best_has {k j : Nat} {b : Int} (h : BestTo key P k j b) (hj : (j : Int) ∈ P.take k) : BestTo key P k (j + 1) b := ⟨h.1, fun x h1 h2 h3 => by
  by_cases e : x = j
  · rw [e] at h3; exact absurd hj h3
  · exact h.2 x h1 (by omega) h3⟩
theorem best_stay {k j : Nat} {b : Int} (h : BestTo key P k j b) (hb : b < j) (hk : ¬ key j < key b) : BestTo key P k (j + 1) b := ⟨h.1, fun x h1 h2 h3 => by
  by_cases e : x = j
  · subst e; right; unfold before; omega
  · exact h.2 x h1 (by omega) h3⟩
theorem best_new {k j : Nat} {b : Int} (h : BestTo key P k j b) (hj : (j : Int) ∉ P.take k) (hk : key j < key b) : BestTo key P k (j + 1) j := ⟨hj, fun x h1 h2 h3 => by
  by_cases e : x = j
  · exact .inl e
  · right
    have hjb : before key j b := .inl hk
    rcases h.2 x h1 (by omega) h3 with rfl | hx
    · exact hjb
    · exact before_tr hjb hx⟩
theorem not_taken (hp : Ordered key n P) {k : Nat} {x : Int} (hx : P[k]? = some x) : x ∉ P.take k := by
  intro hc
  obtain ⟨i, hi⟩ := List.getElem?_of_mem hc
  rw [List.getElem?_take] at hi
  split at hi
  · next hij =>
    obtain ⟨hi1, hi2⟩ := List.getElem?_eq_some_iff.1 hi
    obtain ⟨hk1, hk2⟩ := List.getElem?_eq_some_iff.1 hx
    have := (List.pairwise_iff_getElem.1 hp.1) i k hi1 hk1 hij
    rw [hi2, hk2] at this
    exact before_irr _ this
  · cases hi
theorem none_not (hp : Ordered key n P) (hn : P.length = n) {k : Nat} (hk : k < n) (h : NoneTo P k n) : False := by
  have hx : P[k]? = some P[k] := List.getElem?_eq_getElem (by omega)
  have hm := (hp.2 _).1 (List.mem_of_getElem? hx)
  exact not_taken hp hx (h _ hm.1 hm.2)
theorem best_is (hp : Ordered key n P) (hn : P.length = n) {k : Nat} {b : Int} (hk : k < n) (b0 : 0 ≤ b) (b9 : b < n) (h : BestTo key P k n b) : P[k]? = some b := by
  have hx : P[k]? = some P[k] := List.getElem?_eq_getElem (by omega)
  have hm := (hp.2 _).1 (List.mem_of_getElem? hx)
  have hnt := not_taken hp hx
  rcases h.2 _ hm.1 hm.2 hnt with e | h1
  · rw [hx, e]
  · have hbm := (hp.2 b).2 ⟨b0, b9⟩
    obtain ⟨i, hi⟩ := List.getElem?_of_mem hbm
    obtain ⟨hi1, hi2⟩ := List.getElem?_eq_some_iff.1 hi
    have hik : k ≤ i := by
      rcases Nat.lt_or_ge i k with h2 | h2
      · exact absurd (List.mem_of_getElem? (by rw [List.getElem?_take, if_pos h2]; exact hi)) h.1
      · exact h2
    by_cases e : i = k
    · rw [← e]; exact hi
    · have := (List.pairwise_iff_getElem.1 hp.1) k i (by omega) hi1 (by omega)
      rw [hi2] at this
      exact absurd (before_tr this h1) (before_irr _)
end
theorem row_app {w : World} {base size : Nat} {t : TypeId} {v : Value} {out : List Int} {x : Int} (h : w.ownsRow base t size v (out.length + 1) (out.map (Value.int .i64) ++ [.int .i64 x])) : w.ownsRow base t size v (out ++ [x]).length ((out ++ [x]).map (Value.int .i64)) := by
  simpa using h

set_option maxHeartbeats 6400000 in
theorem co_specC (A : Option Addr) (l : List ShipV) (c : Nat) (w : World) (ha : RdShip w A l) (hl : l.length ≤ 1048576) :
    Calls Try.prog 29 #[.slice A l.length c] w (AnsC (fun s => s) (comeS l).length (comeS l) 3 w) := by
  obtain ⟨i0, hi, hz0, hz1, hz2⟩ := info_parts info_int
  obtain ⟨N, HN⟩ : ∃ N, Hid (comeS l = N) := ⟨_, rfl⟩
  rw [HN.out]
  have ha0 := ha.alloc (.cells #[] 3)
  have bw0 : Below w.heap.size w (w.alloc (.cells #[] 3)) := (Below.refl _ _).alloc (Nat.le_refl _) _
  cases hv : listV l with
  | false =>
    have HQ := Lib.hid (bool_is (lv_spec A l c _ ha0 hl) hv)
    have HO := Lib.hid (HN.out.symm.trans (comeS_no hv))
    have HB := Lib.hid bw0
    obtain ⟨W1, HW1⟩ : ∃ W1, Hid (w.alloc (.cells #[] 3) = W1) := ⟨_, rfl⟩
    clear hv
    go_enter Try.func29, Try.ntmps29
    go_wp2_with fail
    rw [HW1.out] at HQ HB ⊢
    go_loop [3, 4] (fun v i => v = .slice (some ⟨w.heap.size, 0, none⟩) 0 0 ∧ i = .int .i64 0) (fun _ _ => 0)
    case atStart => exact ⟨rfl, rfl⟩
    case round =>
      obtain ⟨rfl, rfl⟩ := hrel
      by_cases h0 : 0 < l.length
      · go_wp2_with fail
        refine HQ.out.mono ?_
        rintro e w' ⟨rfl, rfl⟩
        go_wp2_with fail
        go_ret
        rw [HO.out]
        exact ⟨_, _, rfl, Nat.le_refl _, Own.nil_, HB.out⟩
      · go_wp2_with fail
        go_ret
        rw [HO.out]
        exact ⟨_, _, rfl, Nat.le_refl _, Own.nil_, HB.out⟩
  | true =>
    have HQ := Lib.hid (fun W (h : RdShip W A l) => bool_is (lv_spec A l c W h hl) hv)
    obtain ⟨hve, hl6⟩ := listV_spec hv
    have HOR := Lib.hid (comeS_ordered hv)
    have HLN := Lib.hid (comeS_len hv)
    rw [HN.out] at HOR HLN
    clear hv hve
    have hown0 : (w.alloc (.cells #[] 3)).ownsRow w.heap.size 3 1 (.slice (some ⟨w.heap.size, 0, none⟩) 0 0) (N.take 0).length ((N.take 0).map (Value.int .i64)) := World.ownsRow_lit w #[] 0 (Nat.le_refl _) (by unfold maxLen; omega) rfl
    go_enter Try.func29, Try.ntmps29
    go_wp2_with fail
    go_loopw [3, 4] (fun v i wr => ∃ k : Nat, k ≤ l.length ∧ i = .int .i64 k ∧ wr.ownsRow w.heap.size 3 1 v (N.take k).length ((N.take k).map (Value.int .i64)) ∧ Below w.heap.size w wr) (fun _ i _ => l.length - (intOf i).toNat)
    case atStart => exact ⟨0, by omega, rfl, hown0, bw0⟩
    case round =>
      obtain ⟨k, hk, rfl, hown, hbw⟩ := hrel
      obtain ⟨A1, c1, rfl, hc1⟩ := own_slice hown
      have hla := ha.below hbw
      by_cases hlt : k < l.length
      · obtain ⟨Q, HQQ⟩ : ∃ Q, Hid (N.take k = Q) := ⟨_, rfl⟩
        rw [HQQ.out] at hown hc1 ⊢
        have hQk : Q.length = k := by rw [← HQQ.out, List.length_take]; have := HLN.out; omega
        have HQK := Lib.hid hQk
        have hQ5 : Q.length ≤ 5 := by omega
        clear hQk
        have rq : Rd wr A1 Q := (Own.of_row hown (Nat.le_refl _)).rd
        go_wp2_with fail
        refine (HQ.out wr hla).mono ?_
        rintro e w' ⟨rfl, rfl⟩
        go_wp2_with fail
        go_loopw [5, 6] (fun bv i wi => ∃ j m : Nat, j ≤ l.length ∧ i = .int .i64 j ∧ wi = wr.drewN m ∧ ((bv = .int .i64 (-1) ∧ Hid (NoneTo N k j)) ∨ ∃ b : Nat, b < j ∧ bv = .int .i64 b ∧ Hid (BestTo (arrOf l) N k j b))) (fun _ i _ => l.length - (intOf i).toNat)
        case atStart => exact ⟨0, 0, by omega, rfl, rfl, .inl ⟨rfl, none_0 _ _⟩⟩
        case round =>
          obtain ⟨j, m, hj, rfl, rfl, hcase⟩ := hrel
          by_cases hlj : j < l.length
          · obtain ⟨b1, off1, x, rfl, hbx, Hx, hx0, hx1⟩ := hla.at_ (k := j) hlj
            have q0 : (0 : Int) ≤ (j : Int) := by omega
            have q1 : (j : Int) < (l.length : Int) := by omega
            obtain ⟨r, HR⟩ : ∃ r, Hid (hasB Q Q.length (j : Int) = r) := ⟨_, rfl⟩
            have T1 := Lib.hid (fun (W : World) (h : Rd W A1 Q) => bool_is (has_spec A1 Q Q.length c1 (j : Int) W h (Nat.le_refl _) (by omega)) HR.out)
            have HIN : Hid (r = true ↔ (j : Int) ∈ N.take k) := by
              show _ ↔ _
              rw [← HR.out, HQQ.out]; unfold hasB
              rw [List.take_of_length_le (Nat.le_refl _)]; exact List.contains_iff_mem
            cases r with
            | true =>
              have hin := HIN.out.1 rfl
              rcases hcase with ⟨rfl, HB⟩ | ⟨b, hb, rfl, HB⟩
              · have HB2 := Lib.hid (none_has HB.out hin)
                clear hin
                go_wp2_with fail
                go_quiet ((go_at_call 42; exact quiet_add_left (T1.out _ (rq.drewN _))))
                go_wp2_with fail
                exact ⟨⟨j + 1, _, by omega, by go_num, rfl, .inl ⟨rfl, HB2.out⟩⟩, by simp [intOf]; omega⟩
              · have HB2 := Lib.hid (best_has HB.out hin)
                clear hin
                go_wp2_with fail
                go_quiet ((go_at_call 42; exact quiet_add_left (T1.out _ (rq.drewN _))))
                go_wp2_with fail
                exact ⟨⟨j + 1, _, by omega, by go_num, rfl, .inr ⟨b, by omega, rfl, HB2.out⟩⟩, by simp [intOf]; omega⟩
            | false =>
              have hin : ¬ (j : Int) ∈ N.take k := fun h => by have := HIN.out.2 h; cases this
              rcases hcase with ⟨rfl, HB⟩ | ⟨b, hb, rfl, HB⟩
              · have HB2 := Lib.hid (none_new (key := arrOf l) HB.out hin)
                have t0 : decide ((-1 : Int) < 0) = true := rfl
                clear hin
                go_wp2_with fail
                go_quiet ((go_at_call 42; exact quiet_add_left (T1.out _ (rq.drewN _))))
                go_wp2_with fail
                exact ⟨⟨j + 1, _, by omega, by go_num, rfl, .inr ⟨j, by omega, rfl, HB2.out⟩⟩, by simp [intOf]; omega⟩
              · obtain ⟨b2, off2, y, e, hby, Hy, hy0, hy1⟩ := hla.at_ (k := b) (by omega)
                injection e with e
                injection e with e1 e2 e3
                subst e1 e2
                have q2 : (0 : Int) ≤ (b : Int) := by omega
                have q3 : (b : Int) < (l.length : Int) := by omega
                have t0 : decide ((b : Int) < 0) = false := by simp
                by_cases hxy : x.arrive < y.arrive
                · have t1 : decide (x.arrive < y.arrive) = true := by simpa using hxy
                  have HB2 := Lib.hid (best_new HB.out hin (by rw [arrOf_at Hx.out, arrOf_at Hy.out]; exact hxy))
                  clear hin hxy
                  go_wp2_with fail
                  go_quiet ((go_at_call 42; exact quiet_add_left (T1.out _ (rq.drewN _))))
                  go_wp2_with fail
                  exact ⟨⟨j + 1, _, by omega, by go_num, rfl, .inr ⟨j, by omega, rfl, HB2.out⟩⟩, by simp [intOf]; omega⟩
                · have t1 : decide (x.arrive < y.arrive) = false := by simpa using hxy
                  have HB2 := Lib.hid (best_stay HB.out (by omega) (by rw [arrOf_at Hx.out, arrOf_at Hy.out]; exact hxy))
                  clear hin hxy
                  go_wp2_with fail
                  go_quiet ((go_at_call 42; exact quiet_add_left (T1.out _ (rq.drewN _))))
                  go_wp2_with fail
                  exact ⟨⟨j + 1, _, by omega, by go_num, rfl, .inr ⟨b, by omega, rfl, HB2.out⟩⟩, by simp [intOf]; omega⟩
          · obtain rfl : j = l.length := by omega
            rcases hcase with ⟨rfl, HB⟩ | ⟨b, hb, rfl, HB⟩
            · exact (none_not HOR.out HLN.out hlt HB.out).elim
            · have HAT := Lib.hid (best_is HOR.out HLN.out hlt (by omega) (by omega) HB.out)
              have hbk := hown.lt
              have hsz := hbw.size
              have hone : ∀ u ∈ [Value.int .i64 (b : Int)], u.oneCell' = true := fun u hu => by rw [List.mem_singleton.1 hu]; rfl
              go_wp2_with (at_builtin; refine wpList_append_own _ rfl _ _ 29 rfl w.heap.size 3 i0 (.int .i64 0) 1 8 Try.underlying29 hi hz0 hz1 hz2 rfl (by decide) _ _ _ rfl ((row_chg hown ((Chg.refl 0 0 _).drewN _) (Nat.zero_le _)).alloc _) ⟨_, 0, none⟩ 1 1 [.int .i64 b] rfl rfl (cell_one_new _ _ _) hone ?c3 ?c4 ?c5 ?_)
              case c3 => unfold maxLen; omega
              case c4 => omega
              case c5 => simp; omega
              intro v' w3 hown3 hgrow _
              have hbw3 := ((below_drewN hbw _).alloc hsz (.cells #[.int .i64 (b : Int)] 3)).grown hgrow (by simp; omega) (fun b e => (hbk b e).1)
              have hown4 := row_app hown3
              rw [← HQQ.out, ← take_next HAT.out] at hown4
              clear hown3 hgrow hown
              go_wp2_with fail
              exact ⟨⟨k + 1, by omega, by go_num, hown4, hbw3⟩, by simp [intOf]; omega⟩
      · have HE : Hid (N.take k = N) := List.take_of_length_le (by have := HLN.out; omega)
        rw [HE.out] at hown hc1 ⊢
        go_wp2_with fail
        go_ret
        exact ⟨A1, c1, rfl, hc1, Own.of_row hown (Nat.le_refl _), hbw⟩
theorem co_spec (A : Option Addr) (l : List ShipV) (c : Nat) (w : World) (ha : RdShip w A l) (hl : l.length ≤ 1048576) :
    Calls Try.prog 29 #[.slice A l.length c] w (Ans (fun s => s) (comeS l).length (comeS l) 3 w) := (co_specC A l c w ha hl).mono fun _ _ h => h.ans
end Go.Proofs.Ytjbocijckoaekaa
