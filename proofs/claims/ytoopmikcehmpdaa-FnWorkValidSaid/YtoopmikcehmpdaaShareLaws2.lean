/- The law on valid work: what it draws, and that it answers true. -/
import Derived.Test.YtoopmikcehmpdaaShareDraw
import Derived.Test.YtoopmikcehmpdaaShare
import Derived.Test.YtoopmikcehmpdaaAlive
namespace Go.Proofs.Ytoopmikcehmpdaa
open Go.RowKit
set_option linter.unusedVariables false
set_option linter.unusedSimpArgs false

section
variable {A : Option Addr} {l : List Int} {c : Nat}
set_option maxHeartbeats 400000 in
theorem drawWV (w : World) (ha : RdU w A l) (hc : l.length ≤ c) (hl : l.length ≤ 1048576) : Calls Try.prog 23 #[.slice A l.length c] w fun e w' => ∃ (g1 : Nat) (l2 : List Int) (c2 : Nat), e = .returned (.slice (some ⟨g1, 0, none⟩) l2.length c2) ∧ l2.length ≤ 9 ∧ l2.length ≤ c2 ∧ Rd w' (some ⟨g1, 0, none⟩) l2 ∧ Below w.heap.size w w' := by
  go_enter Try.func23, Try.ntmps23
  go_wp2_with fail
  refine (open_any w ha hc hl).mono ?_
  rintro e w1 ⟨g, rfl, r1, b1⟩
  go_wp2_with fail
  refine (work_any w.heap.size g 0 2 w1 r1 (by omega) (by omega) (by omega)).mono ?_
  rintro e w2 ⟨g1, l2, c2, rfl, hl9, hlc, hlb, o1, d2⟩
  have HB := Lib.hid (b1.trans (d2.below b1.size))
  go_wp2_with fail
  go_ret
  exact ⟨g1, l2, c2, rfl, hl9, hlc, o1.rd, HB.out⟩
theorem workV_tail {l : List Int} (h : workV l = true) : workV (l.drop 1) = true := by
  obtain ⟨a, b⟩ := workV_spec h
  rw [workV_yes (fun x hx => a x (List.mem_of_mem_drop hx))]
  simp; omega
set_option maxHeartbeats 3200000 in
theorem law_WorkValid (w : World) (ha : RdU w A l) (hl : l.length ≤ 9223372036854775807) (hc : l.length ≤ c) :
    Calls Try.prog 7 #[.slice A l.length c] w fun e w' => e = .returned (.bool true) ∧ Below w.heap.size w w' := by
  obtain ⟨i0, hi, hz0, hz1, hz2⟩ := info_parts info_int
  by_cases hs : l.length ≤ 1048576
  · go_enter Try.func7, Try.ntmps7
    go_wp2_with fail
    refine (drawWV w ha hc hs).mono ?_
    rintro e w1 ⟨g1, l2, c1, rfl, h9, hlc, r1, b1⟩
    obtain ⟨r, HV⟩ : ∃ r, Hid (workV l2 = r) := ⟨_, rfl⟩
    go_wp2_with fail
    refine (wv_is (c := c1) r1 (by omega) HV.out).mono ?_
    rintro e w' ⟨rfl, rfl⟩
    go_wp2_with fail
    refine (ws_is (c := c1) r1 (by omega) HV.out).mono ?_
    rintro e w' ⟨rfl, rfl⟩
    cases r with
    | false =>
      go_wp2_with (at_builtin; refine wpList_append_ownG (by first | rfl | simp [Region.wanted, yielded]) _ _ 22 rfl w1.heap.size 3 i0 (.int .i64 0) 1 8 Try.underlying22 hi hz0 hz1 hz2 rfl (by decide) _ 0 [] rfl (World.ownsRow_lit w1 #[] 0 (Nat.le_refl _) (by unfold maxLen; omega) rfl) ⟨g1, 0, none⟩ l2.length c1 (l2.map (Value.int .i64)) rfl (by simp) (r1.news (cell_alloc_old _)) (ints_oneCell .i64 l2) ?c3 ?c4 ?c5 ?_)
      case c3 => unfold maxLen; omega
      case c4 => omega
      case c5 => simp
      intro v3 w3 hown3 hgrow3 _
      have B3 := ((Below.refl w1.heap.size w1).alloc (Nat.le_refl _) (.cells #[] 3)).grown hgrow3 (by simp) (fun k e => by simp [Value.ownBlock] at e; omega)
      try simp only [Nat.zero_add, List.nil_append] at hown3
      have hbk := hown3.lt
      have hz3 := B3.size
      clear hgrow3
      go_wp2_with (at_builtin; refine wpList_append_ownG (by first | rfl | simp [Region.wanted, yielded]) _ _ 22 rfl w1.heap.size 3 i0 (.int .i64 0) 1 8 Try.underlying22 hi hz0 hz1 hz2 rfl (by decide) _ _ _ rfl (hown3.alloc _) ⟨w3.heap.size, 0, none⟩ 1 1 [.int .i64 (-1)] rfl rfl ?c1 ?c2 ?c3 ?c4 ?c5 ?_)
      case c1 => exact (cell_one_new _ _ _)
      case c2 => intro u hu; simp at hu; subst hu; rfl
      case c3 => unfold maxLen; omega
      case c4 => omega
      case c5 => simp; omega
      intro v4 w4 hown4 hgrow4 _
      have B4 := Lib.hid (b1.trans (((B3.alloc hz3 (.cells #[.int .i64 (-1)] 3)).grown hgrow4 (by simp; omega) (fun k e => (hbk k e).1)).mono b1.size))
      obtain ⟨g4, c4, rfl, hc4⟩ := row_at hown4 (by simp)
      have TW : Hid (Calls Try.prog 13 #[.slice (some ⟨g4, 0, none⟩) (l2.length + 1) c4] w4 fun e w' => e = .returned (.bool false) ∧ w4 = w') := by
        have h := wv_is (c := c4) (Own.of_row (l := l2 ++ [-1]) (by simpa using hown4) (Nat.le_refl _)).rd (by simp; omega) (workV_no (x := -1) (by simp) (by omega))
        simp only [List.length_append, List.length_singleton] at h
        exact h
      clear hown3 hown4 hgrow4
      go_wp2_with fail
      refine TW.out.mono ?_
      rintro e w' ⟨rfl, rfl⟩
      go_wp2_with fail
      refine (alive_any _).mono ?_
      rintro e w' ⟨rfl, rfl⟩
      go_wp2_with fail
      go_ret
      exact ⟨rfl, B4.out⟩
    | true =>
      by_cases h0 : l2.length = 0
      · have t0 : ((l2.length : Int) == 0) = true := beq_iff_eq.2 (by omega)
        have H0 := Lib.hid h0
        clear h0
        go_wp2_with (at_builtin; refine wpList_append_ownG (by first | rfl | simp [Region.wanted, yielded]) _ _ 22 rfl w1.heap.size 3 i0 (.int .i64 0) 1 8 Try.underlying22 hi hz0 hz1 hz2 rfl (by decide) _ 0 [] rfl (World.ownsRow_lit w1 #[] 0 (Nat.le_refl _) (by unfold maxLen; omega) rfl) ⟨g1, 0, none⟩ l2.length c1 (l2.map (Value.int .i64)) rfl (by simp) (r1.news (cell_alloc_old _)) (ints_oneCell .i64 l2) ?c3 ?c4 ?c5 ?_)
        case c3 => unfold maxLen; omega
        case c4 => omega
        case c5 => simp
        intro v3 w3 hown3 hgrow3 _
        have B3 := ((Below.refl w1.heap.size w1).alloc (Nat.le_refl _) (.cells #[] 3)).grown hgrow3 (by simp) (fun k e => by simp [Value.ownBlock] at e; omega)
        try simp only [Nat.zero_add, List.nil_append] at hown3
        have hbk := hown3.lt
        have hz3 := B3.size
        clear hgrow3
        go_wp2_with (at_builtin; refine wpList_append_ownG (by first | rfl | simp [Region.wanted, yielded]) _ _ 22 rfl w1.heap.size 3 i0 (.int .i64 0) 1 8 Try.underlying22 hi hz0 hz1 hz2 rfl (by decide) _ _ _ rfl (hown3.alloc _) ⟨w3.heap.size, 0, none⟩ 1 1 [.int .i64 (-1)] rfl rfl ?c1 ?c2 ?c3 ?c4 ?c5 ?_)
        case c1 => exact (cell_one_new _ _ _)
        case c2 => intro u hu; simp at hu; subst hu; rfl
        case c3 => unfold maxLen; omega
        case c4 => omega
        case c5 => simp; omega
        intro v4 w4 hown4 hgrow4 _
        have B4 := Lib.hid (b1.trans (((B3.alloc hz3 (.cells #[.int .i64 (-1)] 3)).grown hgrow4 (by simp; omega) (fun k e => (hbk k e).1)).mono b1.size))
        obtain ⟨g4, c4, rfl, hc4⟩ := row_at hown4 (by simp)
        have TW : Hid (Calls Try.prog 13 #[.slice (some ⟨g4, 0, none⟩) (l2.length + 1) c4] w4 fun e w' => e = .returned (.bool false) ∧ w4 = w') := by
          have h := wv_is (c := c4) (Own.of_row (l := l2 ++ [-1]) (by simpa using hown4) (Nat.le_refl _)).rd (by simp; omega) (workV_no (x := -1) (by simp) (by omega))
          simp only [List.length_append, List.length_singleton] at h
          exact h
        clear hown3 hown4 hgrow4
        go_wp2_with fail
        refine TW.out.mono ?_
        rintro e w' ⟨rfl, rfl⟩
        go_wp2_with fail
        refine (alive_any _).mono ?_
        rintro e w' ⟨rfl, rfl⟩
        go_wp2_with fail
        go_ret
        exact ⟨rfl, B4.out⟩
      · have t0 : ((l2.length : Int) == 0) = false := beq_eq_false_iff_ne.2 (by omega)
        have hd1 : (l2.drop 1).length = l2.length - 1 := by simp
        have q1 : (1 : Int) ≤ (l2.length : Int) := by omega
        have q2 : (l2.length : Int) ≤ (c1 : Int) := by omega
        have HT := Lib.hid (workV_tail HV.out)
        obtain ⟨a2, hA2⟩ : ∃ a2, (if c1 = 1 then some (⟨g1, 0, none⟩ : Addr) else some ⟨g1, 1, none⟩) = some a2 := by split <;> exact ⟨_, rfl⟩
        have TT : Hid (Calls Try.prog 13 #[.slice (some a2) (l2.length - 1) (c1 - 1)] w1 fun e w' => e = .returned (.bool true) ∧ w1 = w') := by
          have hr : Rd w1 (some a2) (l2.drop 1) := by
            by_cases hc1 : c1 = 1
            · rw [List.eq_nil_of_length_eq_zero (show (l2.drop 1).length = 0 by omega)]; exact Rd.nil_
            · rw [if_neg hc1] at hA2
              injection hA2 with hA2
              subst hA2
              have h := r1.map_add 1 (l2.length - 1)
              rw [List.take_of_length_le (by rw [hd1]; exact Nat.le_refl _)] at h
              simpa [addr_add] using h
          have h := wv_is (c := c1 - 1) hr (by rw [hd1]; omega) HT.out
          rwa [hd1] at h
        clear hd1
        go_wp2_with fail
        refine TT.out.mono ?_
        rintro e w' ⟨rfl, rfl⟩
        go_wp2_with (at_builtin; refine wpList_append_ownG (by first | rfl | simp [Region.wanted, yielded]) _ _ 22 rfl w1.heap.size 3 i0 (.int .i64 0) 1 8 Try.underlying22 hi hz0 hz1 hz2 rfl (by decide) _ 0 [] rfl (World.ownsRow_lit w1 #[] 0 (Nat.le_refl _) (by unfold maxLen; omega) rfl) ⟨g1, 0, none⟩ l2.length c1 (l2.map (Value.int .i64)) rfl (by simp) (r1.news (cell_alloc_old _)) (ints_oneCell .i64 l2) ?c3 ?c4 ?c5 ?_)
        case c3 => unfold maxLen; omega
        case c4 => omega
        case c5 => simp
        intro v3 w3 hown3 hgrow3 _
        have B3 := ((Below.refl w1.heap.size w1).alloc (Nat.le_refl _) (.cells #[] 3)).grown hgrow3 (by simp) (fun k e => by simp [Value.ownBlock] at e; omega)
        try simp only [Nat.zero_add, List.nil_append] at hown3
        have hbk := hown3.lt
        have hz3 := B3.size
        clear hgrow3
        go_wp2_with (at_builtin; refine wpList_append_ownG (by first | rfl | simp [Region.wanted, yielded]) _ _ 22 rfl w1.heap.size 3 i0 (.int .i64 0) 1 8 Try.underlying22 hi hz0 hz1 hz2 rfl (by decide) _ _ _ rfl (hown3.alloc _) ⟨w3.heap.size, 0, none⟩ 1 1 [.int .i64 (-1)] rfl rfl ?c1 ?c2 ?c3 ?c4 ?c5 ?_)
        case c1 => exact (cell_one_new _ _ _)
        case c2 => intro u hu; simp at hu; subst hu; rfl
        case c3 => unfold maxLen; omega
        case c4 => omega
        case c5 => simp; omega
        intro v4 w4 hown4 hgrow4 _
        have B4 := Lib.hid (b1.trans (((B3.alloc hz3 (.cells #[.int .i64 (-1)] 3)).grown hgrow4 (by simp; omega) (fun k e => (hbk k e).1)).mono b1.size))
        obtain ⟨g4, c4, rfl, hc4⟩ := row_at hown4 (by simp)
        have TW : Hid (Calls Try.prog 13 #[.slice (some ⟨g4, 0, none⟩) (l2.length + 1) c4] w4 fun e w' => e = .returned (.bool false) ∧ w4 = w') := by
          have h := wv_is (c := c4) (Own.of_row (l := l2 ++ [-1]) (by simpa using hown4) (Nat.le_refl _)).rd (by simp; omega) (workV_no (x := -1) (by simp) (by omega))
          simp only [List.length_append, List.length_singleton] at h
          exact h
        clear hown3 hown4 hgrow4
        go_wp2_with fail
        refine TW.out.mono ?_
        rintro e w' ⟨rfl, rfl⟩
        go_wp2_with fail
        refine (alive_any _).mono ?_
        rintro e w' ⟨rfl, rfl⟩
        go_wp2_with fail
        go_ret
        exact ⟨rfl, B4.out⟩
  · go_enter Try.func7, Try.ntmps7
    go_wp2_with fail
    go_ret
    exact ⟨rfl, Below.refl _ _⟩
end
end Go.Proofs.Ytoopmikcehmpdaa
