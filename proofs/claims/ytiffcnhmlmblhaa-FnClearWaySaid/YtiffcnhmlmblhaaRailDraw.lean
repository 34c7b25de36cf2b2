/- What is drawn for the laws on rails. -/
import Derived.Test.YtiffcnhmlmblhaaDraw
import Derived.Test.YtiffcnhmlmblhaaSDrive
namespace Go.Proofs.Ytiffcnhmlmblhaa
open Go.RowKit
set_option linter.unusedVariables false
set_option linter.unusedSimpArgs false

def DrewRail (lo g p : Nat) (w : World) (e : Ending) (w' : World) : Prop :=
  ∃ (A : Option Addr) (l : List Int) (c : Nat), e = .returned (.slice A l.length c) ∧ l.length ≤ 5 ∧ l.length ≤ c ∧ (∀ x ∈ l, -1 ≤ x ∧ x ≤ 22) ∧ Own 3 w' w.heap.size w'.heap.size A l ∧ Drawn lo g (p + 20) w w'
theorem drew_rail {lo g p q : Nat} {w w' : World} {v : Value} {l : List Int} {base : Nat} (h : w'.ownsRow base 3 1 v l.length (l.map (Value.int .i64))) (hl : l.length ≤ 5) (hx : ∀ x ∈ l, -1 ≤ x ∧ x ≤ 22) (hd : Drawn lo g q w w') (hb : base = w.heap.size) (hq : q ≤ p + 20) :
    DrewRail lo g p w (.returned v) w' := by
  subst hb
  rcases h.2 with ⟨rfl, h0⟩ | ⟨g', cap, cur, rfl, _, _, hc, _⟩
  · have : l = [] := List.eq_nil_of_length_eq_zero h0
    subst this
    exact ⟨none, [], 0, rfl, hl, Nat.le_refl _, hx, Own.nil_, hd.more hq⟩
  · exact ⟨_, l, cap, rfl, hl, hc, hx, Own.of_row h (Nat.le_refl _), hd.more hq⟩

set_option maxHeartbeats 1000000 in
theorem rail_any (lo g p : Nat) (n : Int) (w : World) (h : Rdr w lo g p) (hp : p ≤ 1000000) (hn : 1 ≤ n) (hn2 : n ≤ 1000) :
    Calls Try.prog 41 #[.pointer (some ⟨g, 0, none⟩), .int .i64 n] w (DrewRail lo g p w) := by
  obtain ⟨i0, hi, hz0, hz1, hz2⟩ := info_parts info_int
  have hg := h.lt
  go_enter Try.func41, Try.ntmps41
  go_wp2_with fail
  refine (pick_any lo g p 5 _ (h.alloc _) (by omega) (by omega) (by omega)).mono ?_
  rintro e w0 ⟨at0, t0, tn, rfl, hd0, Hs0⟩
  go_wp2_with fail
  refine (pick_any lo g _ 4 _ hd0.rdr (by omega) (by omega) (by omega)).mono ?_
  rintro e w1 ⟨x, x0, xn, rfl, hd1, Hs1⟩
  go_wp2_with fail
  go_loopw [5, 6, 7] (fun v a i wr => ∃ (k : Nat) (l : List Int) (t : Int), i = .int .i64 k ∧ l.length + k ≤ 4 ∧ 1 ≤ l.length + k ∧ a = .int .i64 t ∧ 0 ≤ t ∧ t ≤ 20 ∧ wr.ownsRow w.heap.size 3 1 v l.length (l.map (Value.int .i64)) ∧ Hid (∀ y ∈ l, 0 ≤ y ∧ y ≤ 20) ∧ Drawn lo g (p + 2 + l.length) w wr) (fun _ _ i _ => (intOf i).toNat)
  case atStart =>
    obtain ⟨k, hk⟩ := Int.eq_ofNat_of_zero_le (by omega : 0 ≤ 1 + x)
    refine ⟨k, [], at0, by rw [hk], by simp; omega, by simp; omega, rfl, t0, by omega, ?_, by intro y hy; simp at hy, ?_⟩
    · exact row_chg (World.ownsRow_lit w #[] 0 (Nat.le_refl _) (by unfold maxLen; omega) rfl) (hd0.trans hd1).chg (by omega)
    · exact (((Drawn.refl h).alloc _).trans hd0).trans hd1
  case round =>
    obtain ⟨k, l, t, rfl, hk, hk1, rfl, ht0, ht9, hown, Hl, hd⟩ := hrel
    by_cases hlt : 0 < k
    · obtain ⟨k', hk'⟩ : ∃ k' : Nat, k = k' + 1 := ⟨k - 1, by omega⟩
      have HK := Lib.hid hk'
      clear hk'
      have hb := hown.lt
      go_wp2_with (at_builtin; refine wpList_append_own _ rfl _ _ 22 rfl w.heap.size 3 i0 (.int .i64 0) 1 8 Try.underlying22 hi hz0 hz1 hz2 rfl (by decide) _ _ _ rfl (hown.alloc _) ⟨wr.heap.size, 0, none⟩ 1 1 [.int .i64 t] rfl rfl ?c1 ?c2 ?c3 ?c4 ?c5 ?_)
      case c1 => exact (cell_one_new _ _ _)
      case c2 => intro u hu; simp at hu; subst hu; rfl
      case c3 => unfold maxLen; omega
      case c4 => omega
      case c5 => have := hd.chg.size; simp; omega
      intro v' w3 hown3 hgrow _
      have hd3 := (hd.alloc _).grown hgrow hg (fun b e => (hb b e).1)
      go_wp2_with fail
      refine (pick_any lo g _ 3 _ hd3.rdr (by omega) (by omega) (by omega)).mono ?_
      rintro e w4 ⟨y, y0, yn, rfl, hd4, Hs4⟩
      have hown4 := row_chg hown3 hd4.chg (by omega)
      go_wp2_with fail
      have h1 := HK.out
      refine ⟨⟨k', l ++ [t], _, by rw [h1]; go_num, by simp; omega, by simp; omega, rfl, by split <;> omega, by split <;> omega, by simpa using hown4, ?_, (hd3.trans hd4).more (by simp; omega)⟩, by simp [intOf]; omega⟩
      intro z hz
      rcases List.mem_append.1 hz with h1 | h1
      · exact Hl.out z h1
      · simp at h1; omega
    · have hlen : 1 ≤ l.length := by omega
      have HN : Hid (l.length ≤ 4) := by show _ ≤ _; omega
      go_wp2_with fail
      refine (odd_any lo g _ n _ hd.rdr (by omega) (by omega) (by omega)).mono ?_
      rintro e w2 ⟨b, rfl, hd2, Hs2⟩
      have hown2 := row_chg hown hd2.chg (by omega)
      cases b with
      | false =>
        go_wp2_with fail
        go_ret
        exact drew_rail hown2 (by omega) (fun z hz => by have := Hl.out z hz; omega) (hd.trans hd2) rfl (by omega)
      | true =>
        go_wp2_with fail
        refine (pick_any lo g _ 3 _ hd2.rdr (by omega) (by omega) (by omega)).mono ?_
        rintro e w3 ⟨z, z0, zn, rfl, hd3, Hs3⟩
        have hown3 := row_chg hown2 hd3.chg (by omega)
        have hdd := ((hd.trans hd2).trans hd3)
        have hs3 := hdd.chg.size
        obtain ⟨A5, c1, rfl, hlc⟩ := own_slice hown3
        have ho3 := Own.of_row hown3 (Nat.le_refl _)
        rcases ho3 with h0 | ⟨g1, cs, rfl, g1lo, g1hi, hblk, hcs⟩
        · rw [h0] at hlen; simp at hlen
        have c9 : c1 ≤ 9223372036854775807 := by
          rcases hown3.2 with ⟨e, _⟩ | ⟨_, cap, _, e, _, _, _, h9, _⟩
          · cases e
          · injection e with e1 e2 e3; rw [e3]; exact h9
        clear hown hown2
        rcases (by omega : z = 0 ∨ z = 1 ∨ z = 2) with rfl | rfl | rfl
        · go_wp2_with fail
          go_ret
          exact drew_rail (l := []) (World.ownsRow_lit _ #[] 0 hs3 (by unfold maxLen; omega) rfl) (by simp) (by simp) (hdd.alloc _) rfl (by have := HN.out; omega)
        · go_wp2_with fail
          refine (pick_any lo g _ 2 _ (hd3.rdr.alloc _) (by omega) (by omega) (by omega)).mono ?_
          rintro e w4 ⟨z, z0, zn, rfl, hd4, Hs4⟩
          obtain ⟨v, hv, hvl, v1⟩ := lit2 (-1) 21 z z0 zn
          have hcell := lit_cell hd4.chg hv (by omega)
          have hb4 : Blk w4 g1 3 cs := (hblk.alloc _).chg hd4.chg (.inr (by omega))
          obtain ⟨u0, hu0⟩ : ∃ u, cs[0]? = some u := ⟨_, hcs 0 _ (List.getElem?_eq_getElem (by omega))⟩
          have hc0 := (hb4.cell 0).trans hu0
          have hf0 := hb4.frozen 0
          clear hu0
          have q0 : (0 : Int) < (l.length : Int) := by omega
          have s4 := hd4.chg.size
          simp at s4
          have hown4 : w4.ownsRow w.heap.size 3 1 (.slice (some ⟨g1, 0, none⟩) l.length c1) l.length (l.map (Value.int .i64)) := row_chg (hown3.alloc _) hd4.chg (by omega)
          have K5 := Lib.hid (hown4.stored 0 (.int .i64 v))
          have D5 := Lib.hid ((hdd.alloc _).trans hd4)
          clear hown3 hown4 hv hvl
          go_wp2_with fail
          go_ret
          refine drew_rail (l := l.set 0 v) (by have := K5.out.1; simpa using this) (by rw [List.length_set]; have := HN.out; omega) ?_ (D5.out.grown K5.out.2 hg (fun b e => by injection e with e; omega)) rfl (by have := HN.out; omega)
          intro y hy
          rcases List.mem_or_eq_of_mem_set hy with h1 | h1
          · have := Hl.out y h1; omega
          · omega
        · obtain ⟨y, hy⟩ : ∃ y, l[l.length - 1]? = some y := ⟨_, List.getElem?_eq_getElem (by omega)⟩
          have hyb := Hl.out y (List.mem_of_getElem? hy)
          have hc0 := (hblk.cell (l.length - 1)).trans (hcs _ y hy)
          clear hy
          have hb := hown3.lt
          have q0 : (1 : Int) ≤ (l.length : Int) := by omega
          go_wp2_with (at_builtin; refine wpList_append_own _ rfl _ _ 22 rfl w.heap.size 3 i0 (.int .i64 0) 1 8 Try.underlying22 hi hz0 hz1 hz2 rfl (by decide) _ _ _ rfl (hown3.alloc _) ⟨w3.heap.size, 0, none⟩ 1 1 [.int .i64 (y + 1)] rfl rfl ?c1 ?c2 ?c3 ?c4 ?c5 ?_)
          case c1 => exact (cell_one_new _ _ _)
          case c2 => intro u hu; simp at hu; subst hu; rfl
          case c3 => have := HN.out; unfold maxLen; omega
          case c4 => have := HN.out; omega
          case c5 => simp; omega
          intro v5 w5 hown5 hgrow5 _
          have K5 : Hid (w5.ownsRow w.heap.size 3 1 v5 (l ++ [y + 1]).length ((l ++ [y + 1]).map (Value.int .i64))) := by
            show w5.ownsRow _ _ _ _ _ _
            simpa using hown5
          have D5 := Lib.hid ((hdd.alloc (.cells #[.int .i64 (y + 1)] 3)).grown hgrow5 hg (fun b e => (hb b e).1))
          clear hown5 hgrow5
          go_wp2_with fail
          go_ret
          refine drew_rail (l := l ++ [y + 1]) K5.out (by have := HN.out; simp; omega) ?_ D5.out rfl (by have := HN.out; omega)
          intro z hz
          rcases List.mem_append.1 hz with h1 | h1
          · have := Hl.out z h1; omega
          · simp at h1; omega

/-- A drive. -/
def DrewDrive (lo g p : Nat) (w : World) (e : Ending) (w' : World) : Prop :=
  ∃ a b : Int, 0 ≤ a ∧ a ≤ 100 ∧ -1 ≤ b ∧ b ≤ 22 ∧ e = .returned (.agg #[.int .i64 a, .int .i64 b]) ∧ Drawn lo g (p + 4) w w'
set_option maxHeartbeats 1000000 in
theorem drive_draw (lo g p : Nat) (A : Option Addr) (n c : Nat) (w : World) (hr : Rdr w lo g p) (hp : p ≤ 1000000) (hn : n ≤ 5) :
    Calls Try.prog 44 #[.pointer (some ⟨g, 0, none⟩), .slice A n c] w (DrewDrive lo g p w) := by
  have hg := hr.lt
  go_enter Try.func44, Try.ntmps44
  go_wp2_with fail
  all_goals
    refine (pick_any lo g p _ _ (hr.alloc _) (by omega) (by omega) (by omega)).mono ?_
    rintro e w1 ⟨x1, a1, b1, rfl, hd1, Hs1⟩
    go_wp2_with fail
    refine (pick_any lo g _ 30 _ hd1.rdr (by omega) (by omega) (by omega)).mono ?_
    rintro e w2 ⟨x2, a2, b2, rfl, hd2, Hs2⟩
    go_wp2_with fail
    refine (pick_any lo g _ 22 _ hd2.rdr (by omega) (by omega) (by omega)).mono ?_
    rintro e w3 ⟨x3, a3, b3, rfl, hd3, Hs3⟩
    go_wp2_with fail
    refine (pick_any lo g _ 20 _ hd3.rdr (by omega) (by omega) (by omega)).mono ?_
    rintro e w4 ⟨x4, a4, b4, rfl, hd4, Hs4⟩
    have hdd := ((hd1.trans hd2).trans hd3).trans hd4
    have hblk : Blk w4 w.heap.size 30 #[.int .i64 0, .int .i64 0] := (Blk.new w _ _).chg hdd.chg (.inr (by omega))
    have hc0 := hblk.cell 0
    have hc1 := hblk.cell 1
    simp at hc0 hc1
    have hf0 := hblk.frozen 0
    have hf1 := hblk.frozen 1
    have D5 := Lib.hid (((Drawn.refl hr).alloc (.cells #[.int .i64 0, .int .i64 0] 30)).trans hdd)
    go_wp2_with fail
    exact bodyPost_ret (v := .agg #[.int .i64 (x1 + x2 / 29 * 4), .int .i64 (x3 - x4 / 19)]) (by simp [results, Try.results44, go_sem, hc0, hc1]) rfl
      ⟨_, _, by omega, by omega, by omega, by omega, rfl, ((D5.out.setNew (Nat.le_refl _) hg _).setNew (Nat.le_refl _) hg _).more (by omega)⟩
end Go.Proofs.Ytiffcnhmlmblhaa
