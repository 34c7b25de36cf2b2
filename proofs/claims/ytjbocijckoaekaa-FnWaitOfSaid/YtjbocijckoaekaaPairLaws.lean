/- The law on valid lists of Ships: what it draws, and that it answers true. -/
import Derived.Test.YtjbocijckoaekaaPairDraw
import Derived.Test.YtjbocijckoaekaaAlive
namespace Go.Proofs.Ytjbocijckoaekaa
open Go.RowKit
set_option linter.unusedVariables false
set_option linter.unusedSimpArgs false

section
variable {A : Option Addr} {l : List Int} {c : Nat}
def GotList (w : World) (e : Ending) (w' : World) : Prop := ∃ (g1 : Nat) (l2 : List ShipV) (c2 : Nat), e = .returned (.slice (some ⟨g1, 0, none⟩) l2.length c2) ∧ l2.length ≤ 6 ∧ l2.length ≤ c2 ∧ (∀ x ∈ l2, smallV x) ∧ Rd w' (some ⟨g1, 0, none⟩) (flatShip l2) ∧ Below w.heap.size w w'
set_option maxHeartbeats 400000 in
theorem drawLV (w : World) (ha : RdU w A l) (hc : l.length ≤ c) (hl : l.length ≤ 1048576) : Calls Try.prog 31 #[.slice A l.length c] w (GotList w) := by
  go_enter Try.func31, Try.ntmps31
  go_wp2_with fail
  refine (open_any w ha hc hl).mono ?_
  rintro e w1 ⟨g, rfl, r1, b1⟩
  go_wp2_with fail
  refine (list_any w.heap.size g 0 2 w1 r1 (by omega) (by omega) (by omega)).mono ?_
  rintro e w2 ⟨g1, l2, c2, rfl, hl9, hlc, hlb, o1, d2⟩
  have HB := Lib.hid (b1.trans (d2.below b1.size))
  have HL := Lib.hid hlb
  clear hlb
  go_wp2_with fail
  go_ret
  exact ⟨g1, l2, c2, rfl, hl9, hlc, HL.out, o1.rd, HB.out⟩
theorem listV_tail {l : List ShipV} (h : listV l = true) : listV (l.drop 1) = true := by
  obtain ⟨a, b⟩ := listV_spec h
  rw [listV_yes (fun x hx => a x (List.mem_of_mem_drop hx))]
  simp; omega
theorem RdShip.tail2 {w : World} {g : Nat} {l : List ShipV} (h : RdShip w (some ⟨g, 0, none⟩) l) : RdShip w (some ⟨g, 2, none⟩) (l.drop 1) := fun k x hx => by
  rw [List.getElem?_drop] at hx
  obtain ⟨b, off, e, hb, h0, h1⟩ := h _ x hx
  injection e with e
  injection e with e1 e2 e3
  subst e1 e2
  refine ⟨g, 2, rfl, hb, ?_, ?_⟩
  · rw [show 2 + k * 2 = 0 + (1 + k) * 2 from by omega]; exact h0
  · rw [show 2 + k * 2 + 1 = 0 + (1 + k) * 2 + 1 from by omega]; exact h1
set_option maxHeartbeats 3200000 in
theorem law_ListValid (w : World) (ha : RdU w A l) (hl : l.length ≤ 9223372036854775807) (hc : l.length ≤ c) :
    Calls Try.prog 8 #[.slice A l.length c] w fun e w' => e = .returned (.bool true) ∧ Below w.heap.size w w' := by
  obtain ⟨i0, hi, hz0, hz1, hz2⟩ := info_parts info_Ship
  by_cases hs : l.length ≤ 1048576
  · go_enter Try.func8, Try.ntmps8
    go_wp2_with fail
    refine (drawLV w ha hc hs).mono ?_
    rintro e w1 ⟨g1, l2, c1, rfl, h9, hlc, _, rf, b1⟩
    have hfl := flatShip_length l2
    obtain ⟨r, HV⟩ : ∃ r, Hid (listV l2 = r) := ⟨_, rfl⟩
    go_wp2_with fail
    refine (lvb (lv_impl _ l2 c1 w1 (RdShip.of_rd rf) (by omega)) HV.out).mono ?_
    rintro e w2 ⟨rfl, b2⟩
    have rf := rf.below b2
    have bw := b1.trans (b2.mono b1.size)
    clear b2
    go_wp2_with fail
    refine (bool_is (lv_spec _ l2 c1 w2 (RdShip.of_rd rf) (by omega)) HV.out).mono ?_
    rintro e w' ⟨rfl, rfl⟩
    cases r with
    | false =>
      go_wp2_with (at_builtin; refine wpList_append_ownG (by first | rfl | simp [Region.wanted, yielded]) _ _ 25 rfl w2.heap.size 41 i0 (.agg #[.int .i64 0, .int .i64 0]) 2 16 Try.underlying25 hi hz0 hz1 hz2 rfl (by decide) _ 0 [] rfl (World.ownsRow_lit w2 #[] 0 (Nat.le_refl _) (by unfold maxLen; omega) rfl) ⟨g1, 0, none⟩ l2.length c1 ((flatShip l2).map (Value.int .i64)) rfl (by simp [hfl]) (rf.news (cell_alloc_old _)) (ints_oneCell .i64 (flatShip l2)) ?c3 ?c4 ?c5 ?_)
      case c3 => unfold maxLen; omega
      case c4 => omega
      case c5 => simp
      intro v3 w3 hown3 hgrow3 _
      have B3 := ((Below.refl w2.heap.size w2).alloc (Nat.le_refl _) (.cells #[] 41)).grown hgrow3 (by simp) (fun k e => by simp [Value.ownBlock] at e; omega)
      try simp only [Nat.zero_add, List.nil_append] at hown3
      have hbk := hown3.lt
      have hz3 := B3.size
      clear hgrow3
      go_wp2_with (at_builtin; refine wpList_append_ownG (by first | rfl | simp [Region.wanted, yielded]) _ _ 25 rfl w2.heap.size 41 i0 (.agg #[.int .i64 0, .int .i64 0]) 2 16 Try.underlying25 hi hz0 hz1 hz2 rfl (by decide) _ _ _ rfl (hown3.alloc _) ⟨w3.heap.size, 0, none⟩ 1 1 [.int .i64 (0), .int .i64 0] rfl rfl (news2 (Blk.new w3 _ _)) (one2 _ _) ?c3 ?c4 ?c5 ?_)
      case c3 => unfold maxLen; omega
      case c4 => omega
      case c5 => simp; omega
      intro v4 w4 hown4 hgrow4 _
      have B4 := Lib.hid (bw.trans (((B3.alloc hz3 (.cells #[.int .i64 (0), .int .i64 0] 41)).grown hgrow4 (by simp; omega) (fun k e => (hbk k e).1)).mono bw.size))
      obtain ⟨g4, c4, rfl, hc4⟩ := row_atN hown4 (by omega)
      have TW : Hid (Calls Try.prog 16 #[.slice (some ⟨g4, 0, none⟩) (l2.length + 1) c4] w4 fun e w' => e = .returned (.bool false) ∧ Below w4.heap.size w4 w') := by
        have h := lvb (lv_impl (some ⟨g4, 0, none⟩) (l2 ++ [⟨0, 0⟩]) c4 w4 (RdShip.of_rd (Own.of_row (l := flatShip (l2 ++ [⟨0, 0⟩])) (by rw [flat_app, List.map_append]; simpa [flatShip] using hown4) (Nat.le_refl _)).rd) (by simp; omega)) (listV_no (x := ⟨0, 0⟩) (by simp) (by unfold oneV; simp))
        simp only [List.length_append, List.length_singleton] at h
        exact h
      clear hown3 hown4 hgrow4
      go_wp2_with fail
      refine TW.out.mono ?_
      rintro e w5 ⟨rfl, b5⟩
      have B5 := B4.out.trans (b5.mono B4.out.size)
      go_wp2_with fail
      refine (lvb (lv_impl none [] 0 w5 RdShip.nil_ (by simp)) (by decide : listV [] = true)).mono ?_
      rintro e w6 ⟨rfl, b6⟩
      have B6 := Lib.hid (B5.trans (b6.mono B5.size))
      go_wp2_with fail
      refine (alive_any _).mono ?_
      rintro e w' ⟨rfl, rfl⟩
      go_wp2_with fail
      go_ret
      exact ⟨rfl, B6.out⟩
    | true =>
      by_cases h0 : l2.length = 0
      · have t0 : ((l2.length : Int) == 0) = true := beq_iff_eq.2 (by omega)
        have H0 := Lib.hid h0
        clear h0
        go_wp2_with (at_builtin; refine wpList_append_ownG (by first | rfl | simp [Region.wanted, yielded]) _ _ 25 rfl w2.heap.size 41 i0 (.agg #[.int .i64 0, .int .i64 0]) 2 16 Try.underlying25 hi hz0 hz1 hz2 rfl (by decide) _ 0 [] rfl (World.ownsRow_lit w2 #[] 0 (Nat.le_refl _) (by unfold maxLen; omega) rfl) ⟨g1, 0, none⟩ l2.length c1 ((flatShip l2).map (Value.int .i64)) rfl (by simp [hfl]) (rf.news (cell_alloc_old _)) (ints_oneCell .i64 (flatShip l2)) ?c3 ?c4 ?c5 ?_)
        case c3 => unfold maxLen; omega
        case c4 => omega
        case c5 => simp
        intro v3 w3 hown3 hgrow3 _
        have B3 := ((Below.refl w2.heap.size w2).alloc (Nat.le_refl _) (.cells #[] 41)).grown hgrow3 (by simp) (fun k e => by simp [Value.ownBlock] at e; omega)
        try simp only [Nat.zero_add, List.nil_append] at hown3
        have hbk := hown3.lt
        have hz3 := B3.size
        clear hgrow3
        go_wp2_with (at_builtin; refine wpList_append_ownG (by first | rfl | simp [Region.wanted, yielded]) _ _ 25 rfl w2.heap.size 41 i0 (.agg #[.int .i64 0, .int .i64 0]) 2 16 Try.underlying25 hi hz0 hz1 hz2 rfl (by decide) _ _ _ rfl (hown3.alloc _) ⟨w3.heap.size, 0, none⟩ 1 1 [.int .i64 (0), .int .i64 0] rfl rfl (news2 (Blk.new w3 _ _)) (one2 _ _) ?c3 ?c4 ?c5 ?_)
        case c3 => unfold maxLen; omega
        case c4 => omega
        case c5 => simp; omega
        intro v4 w4 hown4 hgrow4 _
        have B4 := Lib.hid (bw.trans (((B3.alloc hz3 (.cells #[.int .i64 (0), .int .i64 0] 41)).grown hgrow4 (by simp; omega) (fun k e => (hbk k e).1)).mono bw.size))
        obtain ⟨g4, c4, rfl, hc4⟩ := row_atN hown4 (by omega)
        have TW : Hid (Calls Try.prog 16 #[.slice (some ⟨g4, 0, none⟩) (l2.length + 1) c4] w4 fun e w' => e = .returned (.bool false) ∧ Below w4.heap.size w4 w') := by
          have h := lvb (lv_impl (some ⟨g4, 0, none⟩) (l2 ++ [⟨0, 0⟩]) c4 w4 (RdShip.of_rd (Own.of_row (l := flatShip (l2 ++ [⟨0, 0⟩])) (by rw [flat_app, List.map_append]; simpa [flatShip] using hown4) (Nat.le_refl _)).rd) (by simp; omega)) (listV_no (x := ⟨0, 0⟩) (by simp) (by unfold oneV; simp))
          simp only [List.length_append, List.length_singleton] at h
          exact h
        clear hown3 hown4 hgrow4
        go_wp2_with fail
        refine TW.out.mono ?_
        rintro e w5 ⟨rfl, b5⟩
        have B5 := B4.out.trans (b5.mono B4.out.size)
        go_wp2_with fail
        refine (lvb (lv_impl none [] 0 w5 RdShip.nil_ (by simp)) (by decide : listV [] = true)).mono ?_
        rintro e w6 ⟨rfl, b6⟩
        have B6 := Lib.hid (B5.trans (b6.mono B5.size))
        go_wp2_with fail
        refine (alive_any _).mono ?_
        rintro e w' ⟨rfl, rfl⟩
        go_wp2_with fail
        go_ret
        exact ⟨rfl, B6.out⟩
      · have t0 : ((l2.length : Int) == 0) = false := beq_eq_false_iff_ne.2 (by omega)
        have hd1 : (l2.drop 1).length = l2.length - 1 := by simp
        have q1 : (1 : Int) ≤ (l2.length : Int) := by omega
        have q2 : (l2.length : Int) ≤ (c1 : Int) := by omega
        have HT := Lib.hid (listV_tail HV.out)
        obtain ⟨a2, hA2⟩ : ∃ a2, (if c1 = 1 then some (⟨g1, 0, none⟩ : Addr) else some ⟨g1, 2, none⟩) = some a2 := by split <;> exact ⟨_, rfl⟩
        have TT : Hid (Calls Try.prog 16 #[.slice (some a2) (l2.length - 1) (c1 - 1)] w2 fun e w' => e = .returned (.bool true) ∧ Below w2.heap.size w2 w') := by
          have hr : RdShip w2 (some a2) (l2.drop 1) := by
            by_cases hc1 : c1 = 1
            · rw [List.eq_nil_of_length_eq_zero (show (l2.drop 1).length = 0 by omega)]; exact RdShip.nil_
            · rw [if_neg hc1] at hA2
              injection hA2 with hA2
              subst hA2
              exact (RdShip.of_rd rf).tail2
          have h := lvb (lv_impl (some a2) (l2.drop 1) (c1 - 1) w2 hr (by rw [hd1]; omega)) HT.out
          rwa [hd1] at h
        clear hd1
        go_wp2_with fail
        refine TT.out.mono ?_
        rintro e w7 ⟨rfl, b7⟩
        have rf := rf.below b7
        have bw := bw.trans (b7.mono bw.size)
        clear b7
        go_wp2_with (at_builtin; refine wpList_append_ownG (by first | rfl | simp [Region.wanted, yielded]) _ _ 25 rfl w7.heap.size 41 i0 (.agg #[.int .i64 0, .int .i64 0]) 2 16 Try.underlying25 hi hz0 hz1 hz2 rfl (by decide) _ 0 [] rfl (World.ownsRow_lit w7 #[] 0 (Nat.le_refl _) (by unfold maxLen; omega) rfl) ⟨g1, 0, none⟩ l2.length c1 ((flatShip l2).map (Value.int .i64)) rfl (by simp [hfl]) (rf.news (cell_alloc_old _)) (ints_oneCell .i64 (flatShip l2)) ?c3 ?c4 ?c5 ?_)
        case c3 => unfold maxLen; omega
        case c4 => omega
        case c5 => simp
        intro v3 w3 hown3 hgrow3 _
        have B3 := ((Below.refl w7.heap.size w7).alloc (Nat.le_refl _) (.cells #[] 41)).grown hgrow3 (by simp) (fun k e => by simp [Value.ownBlock] at e; omega)
        try simp only [Nat.zero_add, List.nil_append] at hown3
        have hbk := hown3.lt
        have hz3 := B3.size
        clear hgrow3
        go_wp2_with (at_builtin; refine wpList_append_ownG (by first | rfl | simp [Region.wanted, yielded]) _ _ 25 rfl w7.heap.size 41 i0 (.agg #[.int .i64 0, .int .i64 0]) 2 16 Try.underlying25 hi hz0 hz1 hz2 rfl (by decide) _ _ _ rfl (hown3.alloc _) ⟨w3.heap.size, 0, none⟩ 1 1 [.int .i64 (0), .int .i64 0] rfl rfl (news2 (Blk.new w3 _ _)) (one2 _ _) ?c3 ?c4 ?c5 ?_)
        case c3 => unfold maxLen; omega
        case c4 => omega
        case c5 => simp; omega
        intro v4 w4 hown4 hgrow4 _
        have B4 := Lib.hid (bw.trans (((B3.alloc hz3 (.cells #[.int .i64 (0), .int .i64 0] 41)).grown hgrow4 (by simp; omega) (fun k e => (hbk k e).1)).mono bw.size))
        obtain ⟨g4, c4, rfl, hc4⟩ := row_atN hown4 (by omega)
        have TW : Hid (Calls Try.prog 16 #[.slice (some ⟨g4, 0, none⟩) (l2.length + 1) c4] w4 fun e w' => e = .returned (.bool false) ∧ Below w4.heap.size w4 w') := by
          have h := lvb (lv_impl (some ⟨g4, 0, none⟩) (l2 ++ [⟨0, 0⟩]) c4 w4 (RdShip.of_rd (Own.of_row (l := flatShip (l2 ++ [⟨0, 0⟩])) (by rw [flat_app, List.map_append]; simpa [flatShip] using hown4) (Nat.le_refl _)).rd) (by simp; omega)) (listV_no (x := ⟨0, 0⟩) (by simp) (by unfold oneV; simp))
          simp only [List.length_append, List.length_singleton] at h
          exact h
        clear hown3 hown4 hgrow4
        go_wp2_with fail
        refine TW.out.mono ?_
        rintro e w5 ⟨rfl, b5⟩
        have B5 := B4.out.trans (b5.mono B4.out.size)
        go_wp2_with fail
        refine (lvb (lv_impl none [] 0 w5 RdShip.nil_ (by simp)) (by decide : listV [] = true)).mono ?_
        rintro e w6 ⟨rfl, b6⟩
        have B6 := Lib.hid (B5.trans (b6.mono B5.size))
        go_wp2_with fail
        refine (alive_any _).mono ?_
        rintro e w' ⟨rfl, rfl⟩
        go_wp2_with fail
        go_ret
        exact ⟨rfl, B6.out⟩
  · go_enter Try.func8, Try.ntmps8
    go_wp2_with fail
    go_ret
    exact ⟨rfl, Below.refl _ _⟩
end
end Go.Proofs.Ytjbocijckoaekaa
