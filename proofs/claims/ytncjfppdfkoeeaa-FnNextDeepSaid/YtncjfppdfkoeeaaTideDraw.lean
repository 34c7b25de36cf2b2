/- What is drawn for the laws on tides: some short list of numbers, some hour. -/
import Derived.Test.YtncjfppdfkoeeaaDraw
import Derived.Deep.RegionWith
import Derived.Deep.RegionLaw
import Derived.Deep.AppendLies
import Derived.Deep.RegionHeld3
import Derived.Deep.DrawnRows
namespace Go.Proofs.Ytncjfppdfkoeeaa
open Go.RowKit
set_option linter.unusedVariables false

/-- A list of at most 13 numbers, each in -1..100, in new memory. -/
def DrewTide (lo g p : Nat) (w : World) (e : Ending) (w' : World) : Prop :=
  ∃ (A : Option Addr) (l : List Int) (c : Nat), e = .returned (.slice A l.length c) ∧ l.length ≤ 13 ∧ l.length ≤ c ∧ (∀ x ∈ l, -1 ≤ x ∧ x ≤ 100) ∧ Own 3 w' w.heap.size w'.heap.size A l ∧ Drawn lo g (p + 20) w w'

theorem drew_tide {lo g p q : Nat} {w w' : World} {v : Value} {l : List Int} {base : Nat} (h : w'.ownsRow base 3 1 v l.length (l.map (Value.int .i64))) (hl : l.length ≤ 13) (hx : ∀ x ∈ l, -1 ≤ x ∧ x ≤ 100) (hd : Drawn lo g q w w') (hb : base = w.heap.size) (hq : q ≤ p + 20) :
    DrewTide lo g p w (.returned v) w' := by
  subst hb
  rcases h.2 with ⟨rfl, h0⟩ | ⟨g', cap, cur, rfl, _, _, hc, _⟩
  · have : l = [] := List.eq_nil_of_length_eq_zero h0
    subst this
    exact ⟨none, [], 0, rfl, hl, Nat.le_refl _, hx, Own.nil_, hd.more hq⟩
  · exact ⟨_, l, cap, rfl, hl, hc, hx, Own.of_row h (Nat.le_refl _), hd.more hq⟩

set_option maxHeartbeats 1000000 in
theorem tide_any (lo g p : Nat) (n : Int) (w : World) (h : Rdr w lo g p) (hp : p ≤ 1000000) (hn : 1 ≤ n) (hn2 : n ≤ 1000) :
    Calls Try.prog 35 #[.pointer (some ⟨g, 0, none⟩), .int .i64 n] w (DrewTide lo g p w) := by
  obtain ⟨i0, hi, hz0, hz1, hz2⟩ := info_parts info_int
  have hg := h.lt
  go_enter Try.func35, Try.ntmps35
  go_wp2_with fail
  refine (pick_any lo g p 12 _ (h.alloc _) (by omega) (by omega) (by omega)).mono ?_
  rintro e w1 ⟨x, x0, xn, rfl, hd1, hs1⟩
  go_wp2_with fail
  go_loopw [5, 6] (fun v i wr => ∃ (k : Nat) (l : List Int), i = .int .i64 k ∧ l.length + k ≤ 12 ∧ 1 ≤ l.length + k ∧ wr.ownsRow w.heap.size 3 1 v l.length (l.map (Value.int .i64)) ∧ Hid (∀ y ∈ l, 0 ≤ y ∧ y ≤ 19) ∧ Drawn lo g (p + 1 + l.length) w wr) (fun _ i _ => (intOf i).toNat)
  case atStart =>
    obtain ⟨k, hk⟩ := Int.eq_ofNat_of_zero_le (by omega : 0 ≤ 1 + x)
    refine ⟨k, [], by rw [hk], by simp; omega, by simp; omega, ?_, by intro y hy; simp at hy, ?_⟩
    · exact row_chg (World.ownsRow_lit w #[] 0 (Nat.le_refl _) (by unfold maxLen; omega) rfl) hd1.chg (by omega)
    · exact ((Drawn.refl h).alloc _).trans hd1
  case round =>
    obtain ⟨k, l, rfl, hk, hk1, hown, Hl, hd⟩ := hrel
    by_cases hlt : 0 < k
    · go_wp2_with fail
      refine (pick_any lo g _ 20 _ hd.rdr (by omega) (by omega) (by omega)).mono ?_
      rintro e w2 ⟨y, y0, yn, rfl, hd2, hs2⟩
      have hown2 := row_chg hown hd2.chg (by omega)
      go_wp2_with (at_builtin; refine wpList_append_own _ rfl _ _ 22 rfl w.heap.size 3 i0 (.int .i64 0) 1 8 Try.underlying22 hi hz0 hz1 hz2 rfl (by decide) _ _ _ rfl (hown2.alloc _) ⟨w2.heap.size, 0, none⟩ 1 1 [.int .i64 y] rfl rfl ?c1 ?c2 ?c3 ?c4 ?c5 ?_)
      case c1 => exact (cell_one_new _ _ _)
      case c2 => intro u hu; simp at hu; subst hu; rfl
      case c3 => unfold maxLen; omega
      case c4 => omega
      case c5 => have := hd.chg.size; have := hd2.chg.size; simp; omega
      intro v' w3 hown3 hgrow _
      have hb := hown2.lt
      go_wp2
      obtain ⟨k', hk'⟩ : ∃ k' : Nat, k = k' + 1 := ⟨k - 1, by omega⟩
      exact ⟨⟨k', l ++ [y], by rw [hk']; go_num, by simp; omega, by simp; omega, by simpa using hown3, by
        intro z hz
        rcases List.mem_append.1 hz with h1 | h1
        · exact Hl.out z h1
        · simp at h1; omega, (((hd.trans hd2).alloc _).grown hgrow hg (fun b e => (hb b e).1)).more (by simp; omega)⟩, by simp [intOf]; omega⟩
    · go_wp2_with fail
      refine (odd_any lo g _ n _ hd.rdr (by omega) (by omega) (by omega)).mono ?_
      rintro e w2 ⟨b, rfl, hd2, Hs2⟩
      have hown2 := row_chg hown hd2.chg (by omega)
      have HN := Lib.hid (p := l.length ≤ 12) (by omega)
      cases b with
      | false =>
        go_wp2_with fail
        go_ret
        exact drew_tide hown2 (by omega) (fun z hz => by have := Hl.out z hz; omega) (hd.trans hd2) rfl (by omega)
      | true =>
        go_wp2_with fail
        refine (pick_any lo g _ 3 _ hd2.rdr (by omega) (by omega) (by omega)).mono ?_
        rintro e w3 ⟨z, z0, zn, rfl, hd3, Hs3⟩
        have hown3 := row_chg hown2 hd3.chg (by omega)
        have hdd := ((hd.trans hd2).trans hd3)
        have hs3 := hdd.chg.size
        rcases (by omega : z = 0 ∨ z = 1 ∨ z = 2) with rfl | rfl | rfl
        · go_wp2_with fail
          go_ret
          exact drew_tide (l := []) (World.ownsRow_lit _ #[] 0 hs3 (by unfold maxLen; omega) rfl) (by simp) (by simp) (hdd.alloc _) rfl (by omega)
        · have hlen : 1 ≤ l.length := by omega
          obtain ⟨g1, c1, rfl, hlc, hc9⟩ : ∃ (g1 c1 : Nat), u5 = .slice (some ⟨g1, 0, none⟩) l.length c1 ∧ l.length ≤ c1 ∧ c1 ≤ 9223372036854775807 := by
            rcases hown3.2 with ⟨_, h0⟩ | ⟨g1, c1, cur, e, _, _, h1, h2, _⟩
            · omega
            · exact ⟨g1, c1, e, h1, h2⟩
          have g1lo := (hown3.lt g1 rfl).1
          have g1hi := (hown3.lt g1 rfl).2
          have hp2 : p + 1 + l.length + 1 + 1 ≤ 1000017 := by omega
          have i1 : (1 : Int) ≤ (l.length : Int) := by omega
          have i2 : (l.length : Int) ≤ (c1 : Int) := by omega
          have i3 : (0 : Int) ≤ (1 : Int) := by omega
          go_wp2_with fail
          have HC := Lib.hid (fun (Y : World) (a2 : Addr) hA hY => tail_cells (Y := Y) (a2 := a2) hown3 hlen hA hY)
          have HD := Lib.hid hdd
          have m1 : 1 ≤ maxLen := by unfold maxLen; omega
          have m2 : 1 + (l.length - 1) ≤ maxLen := by unfold maxLen; omega
          have m3 : (1 + (l.length - 1)) * 8 ≤ 140737488355328 := by omega
          have m4 : (List.drop 1 (l.map (Value.int .i64))).length = (l.length - 1) * 1 := by simp
          have hsz := hs3
          obtain ⟨a2, hA2⟩ : ∃ a2, (if c1 = 1 then some (⟨g1, 0, none⟩ : Addr) else some ⟨g1, 1, none⟩) = some a2 := by split <;> exact ⟨_, rfl⟩
          have HA2 := Lib.hid hA2
          have HR := Lib.hid hd3.rdr
          clear hown3 hdd hd3 hs3
          go_wp2_with fail
          go_region_law (first | (refine step_append_own (by rfl) (.tmp 36) (.tmp 38) 22 (by rfl) w.heap.size 3 i0 (.int .i64 0) 1 8 Try.underlying22 hi hz0 hz1 hz2 rfl (by decide) _ 1 [.int .i64 v] (by rfl) (lit_row (base := w.heap.size) (e := 3) (size := 1) _ #[.int .i64 v] 1 (by first | omega | (simp; omega)) m1 rfl _ (by first | rfl | simp)) a2 (l.length - 1) (c1 - 1) ((l.map (Value.int .i64)).drop 1) (by rfl) m4 (HC.out _ a2 HA2.out (by first | exact keep_1 H4.out (by omega) | exact keep_2 H4.out (by omega))) (fun u hu => ints_oneCell .i64 l u (List.mem_of_mem_drop hu)) m2 m3 (by first | omega | (simp; omega) | simp) ?_; intro v5 w5 hown5 hgrow5) | (go_simp; go_at_call 39; refine (pick_any lo g (p + 1 + l.length + 1 + 1) 2 _ (by first | exact HR.out.drew | exact HR.out.drew.alloc _ | exact (HR.out.alloc _).drew) (by omega) (by omega) (by omega)).mono ?_; rintro e w4 ⟨z, z0, zn, rfl, hd4, Hs4⟩; obtain ⟨v, hv, hvl, v1⟩ := lit2 (-1) 100 z z0 zn; have H4 : Hid (w4.heap[g1]? = w3.heap[g1]?) := (by first | exact keep_a hd4.chg (by omega) g1hi | exact keep_b hd4.chg (by omega) g1hi); have hs4 : w3.heap.size ≤ w4.heap.size := (by first | exact size_a hd4.chg | exact size_b hd4.chg); have D4 : Hid (Drawn lo g (p + 1 + l.length + 1 + 1 + 1) w w4) := (by first | exact HD.out.drew.trans hd4 | exact (HD.out.alloc _).drew.trans hd4); try (have hcell := lit_cell_drew hd4.chg hv (by omega))))
          all_goals
            have D5 : Hid (Drawn lo g (p + 1 + l.length + 1 + 1 + 1) w w5) := by
              first
                | exact (D4.out.alloc _).grown hgrow5 hg (fun k e => by simp [Value.ownBlock] at e; omega)
                | exact ((D4.out.alloc _).alloc _).grown hgrow5 hg (fun k e => by simp [Value.ownBlock] at e; omega)
            have K5 : Hid (w5.ownsRow w.heap.size 3 1 v5 (v :: l.drop 1).length ((v :: l.drop 1).map (Value.int .i64))) := by
              show w5.ownsRow _ _ _ _ _ _
              simpa [Nat.add_comm] using hown5
            clear hown5
            go_wp2
            go_ret
            refine drew_tide (l := v :: l.drop 1) K5.out (by simp; have := HN.out; omega) ?_ D5.out rfl (by have := HN.out; omega)
            intro y hy
            rcases List.mem_cons.1 hy with rfl | hy
            · omega
            · have := Hl.out y (List.mem_of_mem_drop hy); omega
        · go_wp2_with (at_make; refine wpList_make_full _ rfl _ _ 22 rfl w.heap.size 3 i0 (.int .i64 0) 1 Try.underlying22 hi hz0 hz1 .i64 .i64 13 13 13 rfl rfl rfl rfl ?c1 ?c2 hs3 ?_)
          case c1 => rw [hz2]; omega
          case c2 => unfold maxLen; omega
          intro w4 hown4 hg4
          have K4 : Hid (w4.ownsRow w.heap.size 3 1 (.slice (some ⟨w3.heap.size, 0, none⟩) 13 13) (List.replicate 13 (0 : Int)).length ((List.replicate 13 (0 : Int)).map (Value.int .i64))) := by
            show w4.ownsRow _ _ _ _ _ _
            have h := hown4
            rw [toList_madeCells_one] at h
            simpa using h
          clear hown4
          go_wp2
          go_ret
          exact drew_tide (l := List.replicate 13 0) K4.out (by simp) (by intro y hy; simp at hy; omega) (hdd.grown hg4 hg (by simp)) rfl (by have := HN.out; omega)

/-- An hour: between -1 and 1000. -/
def DrewHour (lo g p : Nat) (w : World) (e : Ending) (w' : World) : Prop :=
  ∃ x : Int, -1 ≤ x ∧ x ≤ 1000 ∧ e = .returned (.int .i64 x) ∧ Drawn lo g (p + 2) w w'
set_option maxHeartbeats 1000000 in
theorem hour_any (lo g p : Nat) (w : World) (h : Rdr w lo g p) (hp : p ≤ 1000000) :
    Calls Try.prog 38 #[.pointer (some ⟨g, 0, none⟩)] w (DrewHour lo g p w) := by
  have hg := h.lt
  go_enter Try.func38, Try.ntmps38
  go_wp2_with fail
  refine (odd_any lo g p 12 _ h (by omega) (by omega) (by omega)).mono ?_
  rintro e w1 ⟨b, rfl, hd1, Hs1⟩
  have hs1 := hd1.chg.size
  cases b with
  | false =>
    go_wp2_with fail
    refine (pick_any lo g _ 60 _ hd1.rdr (by omega) (by omega) (by omega)).mono ?_
    rintro e w2 ⟨x, x0, xn, rfl, hd2, Hs2⟩
    go_wp2_with fail
    go_ret
    exact ⟨x, by omega, by omega, rfl, hd1.trans hd2⟩
  | true =>
    go_wp2_with fail
    refine (pick_any lo g (p + 1) 4 _ (hd1.rdr.alloc _) (by omega) (by omega) (by omega)).mono ?_
    rintro e w4 ⟨z, z0, zn, rfl, hd4, Hs4⟩
    obtain ⟨v, hv, hvl, v1⟩ := lit4 (-1) 999 1000 996 z z0 zn
    have D4 := Lib.hid ((hd1.alloc _).trans hd4)
    have hcell := lit_cell hd4.chg hv (by omega)
    go_wp2_with fail
    go_ret
    exact ⟨v, by omega, by omega, rfl, D4.out⟩
end Go.Proofs.Ytncjfppdfkoeeaa
