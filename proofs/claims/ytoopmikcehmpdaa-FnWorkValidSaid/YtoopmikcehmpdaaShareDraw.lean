/- What is drawn for the laws on shares: some short list of work, some numbers. -/
import Derived.Test.YtoopmikcehmpdaaDraw
import Derived.Laws.OwnMore
namespace Go.Proofs.Ytoopmikcehmpdaa
open Go.RowKit
set_option linter.unusedVariables false
set_option linter.unusedSimpArgs false

theorem row_at {w : World} {base n : Nat} {t : TypeId} {v : Value} {xs : List Value} (h : w.ownsRow base t 1 v n xs) (hx : xs ≠ []) : ∃ g c, v = .slice (some ⟨g, 0, none⟩) n c ∧ n ≤ c := by
  rcases h.2 with ⟨rfl, h0⟩ | ⟨g, cap, cur, rfl, _, _, h1, _⟩
  · exact absurd (List.eq_nil_of_length_eq_zero (by rw [h.1, h0])) hx
  · exact ⟨g, cap, rfl, h1⟩
theorem lit3 (a b c : Int) (z : Int) (h0 : 0 ≤ z) (h2 : z < 3) : ∃ v : Int, (#[Value.int .i64 a, Value.int .i64 b, Value.int .i64 c] : Array Value)[z.toNat]? = some (.int .i64 v) ∧ (∀ h, ([Value.int .i64 a, Value.int .i64 b, Value.int .i64 c] : List Value)[z.toNat]'h = .int .i64 v) ∧ (v = a ∨ v = b ∨ v = c) := by
  rcases (by omega : z = 0 ∨ z = 1 ∨ z = 2) with rfl | rfl | rfl
  · exact ⟨a, rfl, fun _ => rfl, .inl rfl⟩
  · exact ⟨b, rfl, fun _ => rfl, .inr (.inl rfl)⟩
  · exact ⟨c, rfl, fun _ => rfl, .inr (.inr rfl)⟩

/-- A list of at most 9 numbers, each in -1..100, in new memory. -/
def DrewWork (lo g p : Nat) (w : World) (e : Ending) (w' : World) : Prop :=
  ∃ (g' : Nat) (l : List Int) (c : Nat), e = .returned (.slice (some ⟨g', 0, none⟩) l.length c) ∧ l.length ≤ 9 ∧ l.length ≤ c ∧ (∀ x ∈ l, -1 ≤ x ∧ x ≤ 100) ∧ Own 3 w' w.heap.size w'.heap.size (some ⟨g', 0, none⟩) l ∧ Drawn lo g (p + 20) w w'
theorem drew_work {lo g p q g' c : Nat} {w w' : World} {l : List Int} (h : w'.ownsRow w.heap.size 3 1 (.slice (some ⟨g', 0, none⟩) l.length c) l.length (l.map (Value.int .i64))) (hc : l.length ≤ c) (hl : l.length ≤ 9) (hx : ∀ x ∈ l, -1 ≤ x ∧ x ≤ 100) (hd : Drawn lo g q w w') (hq : q ≤ p + 20) :
    DrewWork lo g p w (.returned (.slice (some ⟨g', 0, none⟩) l.length c)) w' := ⟨g', l, c, rfl, hl, hc, hx, Own.of_row h (Nat.le_refl _), hd.more hq⟩

set_option maxHeartbeats 1000000 in
theorem work_any (lo g p : Nat) (n : Int) (w : World) (h : Rdr w lo g p) (hp : p ≤ 1000000) (hn : 1 ≤ n) (hn2 : n ≤ 1000) :
    Calls Try.prog 37 #[.pointer (some ⟨g, 0, none⟩), .int .i64 n] w (DrewWork lo g p w) := by
  obtain ⟨i0, hi, hz0, hz1, hz2⟩ := info_parts info_int
  have hg := h.lt
  go_enter Try.func37, Try.ntmps37
  go_wp2_with fail
  refine (pick_any lo g p 9 _ (h.alloc _) (by omega) (by omega) (by omega)).mono ?_
  rintro e w1 ⟨x, x0, xn, rfl, hd1, hs1⟩
  go_wp2_with fail
  go_loopw [5, 6] (fun v i wr => ∃ (k : Nat) (l : List Int) (g1 c1 : Nat), i = .int .i64 k ∧ l.length + k ≤ 8 ∧ v = .slice (some ⟨g1, 0, none⟩) l.length c1 ∧ l.length ≤ c1 ∧ wr.ownsRow w.heap.size 3 1 (.slice (some ⟨g1, 0, none⟩) l.length c1) l.length (l.map (Value.int .i64)) ∧ Hid (∀ y ∈ l, 0 ≤ y ∧ y ≤ 29) ∧ Drawn lo g (p + 1 + l.length) w wr) (fun _ i _ => (intOf i).toNat)
  case atStart =>
    obtain ⟨k, rfl⟩ := Int.eq_ofNat_of_zero_le x0
    refine ⟨k, [], w.heap.size, 0, rfl, by simp; omega, rfl, Nat.le_refl _, ?_, by intro y hy; simp at hy, ?_⟩
    · exact row_chg (World.ownsRow_lit w #[] 0 (Nat.le_refl _) (by unfold maxLen; omega) rfl) hd1.chg (by omega)
    · exact ((Drawn.refl h).alloc _).trans hd1
  case round =>
    obtain ⟨k, l, g1, c1, rfl, hk, rfl, hlc, hown, Hl, hd⟩ := hrel
    by_cases hlt : 0 < k
    · go_wp2_with fail
      refine (pick_any lo g _ 30 _ hd.rdr (by omega) (by omega) (by omega)).mono ?_
      rintro e w2 ⟨y, y0, yn, rfl, hd2, hs2⟩
      have hown2 := row_chg hown hd2.chg (by omega)
      go_wp2_with (at_builtin; refine wpList_append_own _ rfl _ _ 22 rfl w.heap.size 3 i0 (.int .i64 0) 1 8 Try.underlying22 hi hz0 hz1 hz2 rfl (by decide) _ _ _ rfl (hown2.alloc _) ⟨w2.heap.size, 0, none⟩ 1 1 [.int .i64 y] rfl rfl ?c1 ?c2 ?c3 ?c4 ?c5 ?_)
      case c1 => exact (cell_one_new _ _ _)
      case c2 => intro u hu; simp at hu; subst hu; rfl
      case c3 => unfold maxLen; omega
      case c4 => omega
      case c5 => have := hd.chg.size; have := hd2.chg.size; simp; omega
      intro v' w3 hown3 hgrow _
      have hb := hown2.lt
      obtain ⟨g3, c3, rfl, hc3⟩ := row_at hown3 (by simp)
      go_wp2
      obtain ⟨k', hk'⟩ : ∃ k' : Nat, k = k' + 1 := ⟨k - 1, by omega⟩
      exact ⟨⟨k', l ++ [y], g3, c3, by rw [hk']; go_num, by simp; omega, by simp, by simpa using hc3, by simpa using hown3, by
        intro z hz
        rcases List.mem_append.1 hz with h1 | h1
        · exact Hl.out z h1
        · simp at h1; omega, (((hd.trans hd2).alloc _).grown hgrow hg (fun b e => (hb b e).1)).more (by simp; omega)⟩, by simp [intOf]; omega⟩
    · have hl8 : l.length ≤ 8 := by omega
      go_wp2_with fail
      refine (odd_any lo g _ n _ hd.rdr (by omega) (by omega) (by omega)).mono ?_
      rintro e w2 ⟨b, rfl, hd2, Hs2⟩
      have hown2 := row_chg hown hd2.chg (by omega)
      have hdd2 := hd.trans hd2
      cases b with
      | false =>
        have HF := Lib.hid (drew_work (p := p) hown2 hlc (by omega) (fun z hz => by have := Hl.out z hz; omega) hdd2 (by omega))
        go_wp2_with fail
        go_ret
        exact HF.out
      | true =>
        go_wp2_with fail
        refine (pick_any lo g _ 2 _ hd2.rdr (by omega) (by omega) (by omega)).mono ?_
        rintro e w3 ⟨z, z0, zn, rfl, hd3, Hs3⟩
        have hown3 := row_chg hown2 hd3.chg (by omega)
        have hdd := hdd2.trans hd3
        have hs3 := hdd.chg.size
        rcases (by omega : z = 0 ∨ z = 1) with rfl | rfl
        · go_wp2_with (at_make; refine wpList_make_full _ rfl _ _ 22 rfl w.heap.size 3 i0 (.int .i64 0) 1 Try.underlying22 hi hz0 hz1 .i64 .i64 9 9 9 rfl rfl rfl rfl ?c1 ?c2 hs3 ?_)
          case c1 => rw [hz2]; omega
          case c2 => unfold maxLen; omega
          intro w4 hown4 hg4
          have K4 : Hid (w4.ownsRow w.heap.size 3 1 (.slice (some ⟨w3.heap.size, 0, none⟩) 9 9) (List.replicate 9 (0 : Int)).length ((List.replicate 9 (0 : Int)).map (Value.int .i64))) := by
            show w4.ownsRow _ _ _ _ _ _
            have h := hown4
            rw [toList_madeCells_one] at h
            simpa using h
          clear hown4
          go_wp2
          go_ret
          exact drew_work (l := List.replicate 9 0) K4.out (by simp) (by simp) (by intro y hy; simp at hy; omega) (hdd.grown hg4 hg (by simp)) (by omega)
        · go_wp2_with fail
          refine (pick_any lo g (p + 1 + l.length + 1 + 1) 2 _ (hd3.rdr.alloc _) (by omega) (by omega) (by omega)).mono ?_
          rintro e w4 ⟨z, z0, zn, rfl, hd4, Hs4⟩
          obtain ⟨v, hv, hvl, v1⟩ := lit2 (-1) 100 z z0 zn
          have D4 := (hdd.alloc (.cells #[.int .i64 (-1), .int .i64 100] 3)).trans hd4
          have hcell := lit_cell hd4.chg hv (by omega)
          have hown4 := row_chg (hown3.alloc (.cells #[.int .i64 (-1), .int .i64 100] 3)) hd4.chg (by omega)
          have hrd : Rd w4 (some ⟨g1, 0, none⟩) l := (Own.of_row hown4 (Nat.le_refl _)).rd
          have hz4 := D4.chg.size
          have HD4 := Lib.hid D4
          have m1 : 1 ≤ maxLen := by unfold maxLen; omega
          clear D4 hown2 hown3 hown4 hdd hdd2 hd hd2 hd3 hd4
          go_wp2_with (at_builtin; refine wpList_append_own _ rfl _ _ 22 rfl w.heap.size 3 i0 (.int .i64 0) 1 8 Try.underlying22 hi hz0 hz1 hz2 rfl (by decide) _ 1 [.int .i64 v] rfl (World.ownsRow_lit w4 #[.int .i64 v] 1 hz4 m1 rfl) ⟨g1, 0, none⟩ l.length c1 (l.map (Value.int .i64)) rfl (by simp) (hrd.news (cell_alloc_old _)) (ints_oneCell .i64 l) ?c3 ?c4 ?c5 ?_)
          case c3 => unfold maxLen; omega
          case c4 => omega
          case c5 => simp; omega
          intro v5 w5 hown5 hgrow5 _
          obtain ⟨g5, c5, rfl, hc5⟩ := row_at hown5 (by simp)
          have K5 : Hid (w5.ownsRow w.heap.size 3 1 (.slice (some ⟨g5, 0, none⟩) (v :: l).length c5) (v :: l).length ((v :: l).map (Value.int .i64))) := by
            show w5.ownsRow _ _ _ _ _ _
            simpa [Nat.add_comm] using hown5
          have D5 := Lib.hid ((HD4.out.alloc (.cells #[.int .i64 v] 3)).grown hgrow5 hg (fun k e => by simp [Value.ownBlock] at e; omega))
          have HC5 := Lib.hid (p := (v :: l).length ≤ c5) (by simp; omega)
          clear hown5 hgrow5
          go_wp2
          go_ret
          have h := drew_work (p := p) K5.out HC5.out (by simp; omega) (by
            intro y hy
            rcases List.mem_cons.1 hy with rfl | hy
            · omega
            · have := Hl.out y hy; omega) D5.out (by omega)
          rw [List.length_cons, Nat.add_comm] at h
          simpa [Nat.add_comm] using h

/-- Work and numbers, in new memory. -/
def GotCuts (w : World) (e : Ending) (w' : World) : Prop :=
  ∃ (g1 : Nat) (l : List Int) (c g2 : Nat) (q : List Int) (d : Nat), e = .returned (.tuple #[.slice (some ⟨g1, 0, none⟩) l.length c, .slice (some ⟨g2, 0, none⟩) q.length d]) ∧ l.length ≤ 9 ∧ l.length ≤ c ∧ q.length ≤ 4 ∧ (∀ x ∈ l, -1 ≤ x ∧ x ≤ 100) ∧ Rd w' (some ⟨g1, 0, none⟩) l ∧ Rd w' (some ⟨g2, 0, none⟩) q ∧ Below w.heap.size w w'
set_option maxHeartbeats 1600000 in
theorem drawSS {A : Option Addr} {l0 : List Int} {c0 : Nat} (w : World) (ha : RdU w A l0) (hc : l0.length ≤ c0) (hl : l0.length ≤ 1048576) : Calls Try.prog 25 #[.slice A l0.length c0] w (GotCuts w) := by
  obtain ⟨i0, hi, hz0, hz1, hz2⟩ := info_parts info_int
  go_enter Try.func25, Try.ntmps25
  go_wp2_with fail
  refine (open_any w ha hc hl).mono ?_
  rintro e w1 ⟨g, rfl, r1, b1⟩
  have hg := r1.lt
  go_wp2_with fail
  refine (work_any w.heap.size g 0 9 w1 r1 (by omega) (by omega) (by omega)).mono ?_
  rintro e w2 ⟨g1, l, c, rfl, hl9, hlc, hlb, o1, d2⟩
  have hz2' := d2.chg.size
  have HLB := Lib.hid hlb
  clear hlb
  go_wp2_with fail
  refine (pick_any w.heap.size g _ 4 _ (d2.rdr.alloc _) (by omega) (by omega) (by omega)).mono ?_
  rintro e w3 ⟨x, x0, xn, rfl, hd3, hs3⟩
  go_wp2_with fail
  go_loopw [6, 7, 8] (fun v t i wr => ∃ (k : Nat) (q : List Int) (a : Int) (g2 c2 : Nat), i = .int .i64 k ∧ q.length + k ≤ 3 ∧ t = .int .i64 a ∧ 0 ≤ a ∧ a ≤ 9 ∧ v = .slice (some ⟨g2, 0, none⟩) q.length c2 ∧ wr.ownsRow w2.heap.size 3 1 (.slice (some ⟨g2, 0, none⟩) q.length c2) q.length (q.map (Value.int .i64)) ∧ Drawn w.heap.size g (0 + 20 + 1 + q.length) w2 wr) (fun _ _ i _ => (intOf i).toNat)
  case atStart =>
    obtain ⟨k, rfl⟩ := Int.eq_ofNat_of_zero_le x0
    refine ⟨k, [], 0, w2.heap.size, 0, rfl, by simp; omega, rfl, by omega, by omega, rfl, ?_, ?_⟩
    · exact row_chg (World.ownsRow_lit w2 #[] 0 (Nat.le_refl _) (by unfold maxLen; omega) rfl) hd3.chg (by omega)
    · exact ((Drawn.refl d2.rdr).alloc _).trans hd3
  case round =>
    obtain ⟨k, q, a, g2, c2, rfl, hk, rfl, a0, a9, rfl, hown, hd⟩ := hrel
    by_cases hlt : 0 < k
    · go_wp2_with fail
      refine (pick_any w.heap.size g _ 4 _ hd.rdr (by omega) (by omega) (by omega)).mono ?_
      rintro e w4 ⟨y, y0, yn, rfl, hd4, hs4⟩
      have hown4 := row_chg hown hd4.chg (by omega)
      have z5 := hd.chg.size
      have z6 := hd4.chg.size
      by_cases hmin : a + y ≤ (l.length : Int)
      · have hb := hown4.lt
        go_wp2_with (at_builtin; refine wpList_append_own _ rfl _ _ 22 rfl w2.heap.size 3 i0 (.int .i64 0) 1 8 Try.underlying22 hi hz0 hz1 hz2 rfl (by decide) _ _ _ rfl (hown4.alloc _) ⟨w4.heap.size, 0, none⟩ 1 1 [.int .i64 (a + y)] rfl rfl ?c1 ?c2 ?c3 ?c4 ?c5 ?_)
        case c1 => exact (cell_one_new _ _ _)
        case c2 => intro u hu; simp at hu; subst hu; rfl
        case c3 => unfold maxLen; omega
        case c4 => omega
        case c5 => simp; omega
        intro v' w5 hown5 hgrow _
        obtain ⟨g3, c3, rfl, hc3⟩ := row_at hown5 (by simp)
        go_wp2
        obtain ⟨k', hk'⟩ : ∃ k' : Nat, k = k' + 1 := ⟨k - 1, by omega⟩
        exact ⟨⟨k', q ++ [a + y], a + y, g3, c3, by rw [hk']; go_num, by simp; omega, rfl, by omega, by omega, by simp, by simpa using hown5, (((hd.trans hd4).alloc _).grown hgrow (by omega) (fun b e => (hb b e).1)).more (by simp; omega)⟩, by simp [intOf]; omega⟩
      · have hb := hown4.lt
        go_wp2_with (at_builtin; refine wpList_append_own _ rfl _ _ 22 rfl w2.heap.size 3 i0 (.int .i64 0) 1 8 Try.underlying22 hi hz0 hz1 hz2 rfl (by decide) _ _ _ rfl (hown4.alloc _) ⟨w4.heap.size, 0, none⟩ 1 1 [.int .i64 ((l.length : Int))] rfl rfl ?c1 ?c2 ?c3 ?c4 ?c5 ?_)
        case c1 => exact (cell_one_new _ _ _)
        case c2 => intro u hu; simp at hu; subst hu; rfl
        case c3 => unfold maxLen; omega
        case c4 => omega
        case c5 => simp; omega
        intro v' w5 hown5 hgrow _
        obtain ⟨g3, c3, rfl, hc3⟩ := row_at hown5 (by simp)
        go_wp2
        obtain ⟨k', hk'⟩ : ∃ k' : Nat, k = k' + 1 := ⟨k - 1, by omega⟩
        exact ⟨⟨k', q ++ [(l.length : Int)], (l.length : Int), g3, c3, by rw [hk']; go_num, by simp; omega, rfl, by omega, by omega, by simp, by simpa using hown5, (((hd.trans hd4).alloc _).grown hgrow (by omega) (fun b e => (hb b e).1)).more (by simp; omega)⟩, by simp [intOf]; omega⟩
    · have z5 := hd.chg.size
      go_wp2_with fail
      refine (odd_any w.heap.size g _ 9 _ hd.rdr (by omega) (by omega) (by omega)).mono ?_
      rintro e w4 ⟨b, rfl, hd4, Hs4⟩
      have hown4 := row_chg hown hd4.chg (by omega)
      have hd4' := hd.trans hd4
      have z6 := hd4'.chg.size
      have o4 := o1.chg hd4'.chg (.inr (by omega))
      cases b with
      | false =>
        have HF : Hid (GotCuts w (.returned (.tuple #[.slice (some ⟨g1, 0, none⟩) l.length c, .slice (some ⟨g2, 0, none⟩) q.length c2])) w4) :=
          ⟨g1, l, c, g2, q, c2, rfl, hl9, hlc, by omega, HLB.out, o4.rd, (Own.of_row hown4 (Nat.le_refl _)).rd, b1.trans (((d2.trans hd4').below b1.size))⟩
        go_wp2_with fail
        go_ret2
        exact HF.out
      | true =>
        go_wp2_with fail
        refine (pick_any w.heap.size g _ 3 _ (hd4.rdr.alloc _) (by omega) (by omega) (by omega)).mono ?_
        rintro e w5 ⟨z, z0, zn, rfl, hd5, Hs5⟩
        obtain ⟨v, hv, hvl, v1⟩ := lit3 (-1) ((l.length : Int) + 1) 0 z z0 zn
        have D5 := (hd4'.alloc (.cells #[.int .i64 (-1), .int .i64 ((l.length : Int) + 1), .int .i64 0] 3)).trans hd5
        have hcell := lit_cell hd5.chg hv (by omega)
        have hown5 := row_chg (hown4.alloc (.cells #[.int .i64 (-1), .int .i64 ((l.length : Int) + 1), .int .i64 0] 3)) hd5.chg (by omega)
        have hb := hown5.lt
        have z7 := D5.chg.size
        have o5 := o1.chg D5.chg (.inr (by omega))
        go_wp2_with (at_builtin; refine wpList_append_own _ rfl _ _ 22 rfl w2.heap.size 3 i0 (.int .i64 0) 1 8 Try.underlying22 hi hz0 hz1 hz2 rfl (by decide) _ _ _ rfl (hown5.alloc _) ⟨w5.heap.size, 0, none⟩ 1 1 [.int .i64 v] rfl rfl ?c1 ?c2 ?c3 ?c4 ?c5 ?_)
        case c1 => exact (cell_one_new _ _ _)
        case c2 => intro u hu; simp at hu; subst hu; rfl
        case c3 => unfold maxLen; omega
        case c4 => omega
        case c5 => simp; omega
        intro v' w6 hown6 hgrow _
        obtain ⟨g3, c3, rfl, hc3⟩ := row_at hown6 (by simp)
        have D6 := (D5.alloc (.cells #[.int .i64 v] 3)).grown hgrow (by omega) (fun b e => (hb b e).1)
        have HF : Hid (GotCuts w (.returned (.tuple #[.slice (some ⟨g1, 0, none⟩) l.length c, .slice (some ⟨g3, 0, none⟩) (q.length + 1) c3])) w6) :=
          ⟨g1, l, c, g3, q ++ [v], c3, by simp, hl9, hlc, by simp; omega, HLB.out, (o1.chg D6.chg (.inr (by omega))).rd, (Own.of_row (l := q ++ [v]) (by simpa using hown6) (Nat.le_refl _)).rd, b1.trans (((d2.trans D6).below b1.size))⟩
        clear hown6 hgrow
        go_wp2
        go_ret2
        exact HF.out
end Go.Proofs.Ytoopmikcehmpdaa
