/- What is drawn for the laws on Ships: some short list. -/
import Derived.Test.YtjbocijckoaekaaDraw
import Derived.Test.YtjbocijckoaekaaPair
import Derived.Test.YtjbocijckoaekaaTShip
import Derived.Laws.OwnMore
namespace Go.Proofs.Ytjbocijckoaekaa
open Go.RowKit
set_option linter.unusedVariables false
set_option linter.unusedSimpArgs false

theorem row_atN {w : World} {base n size : Nat} {t : TypeId} {v : Value} {xs : List Value} (h : w.ownsRow base t size v n xs) (hn : 0 < n) : ∃ g c, v = .slice (some ⟨g, 0, none⟩) n c ∧ n ≤ c := by
  rcases h.2 with ⟨rfl, h0⟩ | ⟨g, cap, cur, rfl, _, _, h1, _⟩
  · omega
  · exact ⟨g, cap, rfl, h1⟩
theorem flat_app (l m : List ShipV) : flatShip (l ++ m) = flatShip l ++ flatShip m := by
  induction l with
  | nil => rfl
  | cons x l ih => simp [flatShip, ih]
theorem news2 {w : World} {a b : Value} {H : Nat} (h : Blk w H 41 #[a, b]) : ∀ (j : Nat) (u : Value), [a, b][j]? = some u → w.cell? ((⟨H, 0, none⟩ : Addr).add j) = some u := by
  intro j u hu
  rw [addr_add, Nat.zero_add, h.cell, List.getElem?_toArray]
  exact hu
theorem one2 (a b : Int) : ∀ u ∈ [Value.int .i64 a, Value.int .i64 b], u.oneCell' = true := by
  intro u hu
  simp only [List.mem_cons, List.not_mem_nil, or_false] at hu
  rcases hu with rfl | rfl <;> rfl
/-- Both numbers lie in -1..100. -/
def smallV (x : ShipV) : Prop := -1 ≤ x.arrive ∧ x.arrive ≤ 100 ∧ -1 ≤ x.hours ∧ x.hours ≤ 100
/-- A short list, in new memory. -/
def DrewList (lo g p : Nat) (w : World) (e : Ending) (w' : World) : Prop :=
  ∃ (g' : Nat) (l : List ShipV) (c : Nat), e = .returned (.slice (some ⟨g', 0, none⟩) l.length c) ∧ l.length ≤ 6 ∧ l.length ≤ c ∧ (∀ x ∈ l, smallV x) ∧ Own 41 w' w.heap.size w'.heap.size (some ⟨g', 0, none⟩) (flatShip l) ∧ Drawn lo g (p + 30) w w'
theorem drew_list {lo g p q g' c : Nat} {w w' : World} {l : List ShipV} (h : w'.ownsRow w.heap.size 41 2 (.slice (some ⟨g', 0, none⟩) l.length c) l.length ((flatShip l).map (Value.int .i64))) (hc : l.length ≤ c) (hl : l.length ≤ 6) (hx : ∀ x ∈ l, smallV x) (hd : Drawn lo g q w w') (hq : q ≤ p + 30) :
    DrewList lo g p w (.returned (.slice (some ⟨g', 0, none⟩) l.length c)) w' := ⟨g', l, c, rfl, hl, hc, hx, Own.of_row h (Nat.le_refl _), hd.more hq⟩
theorem flat_rep (n : Nat) : flatShip (List.replicate n ⟨0, 0⟩) = List.replicate (n * 2) 0 := by
  induction n with
  | zero => rfl
  | succ n ih => rw [List.replicate_succ, show (n + 1) * 2 = n * 2 + 1 + 1 from by omega, List.replicate_succ, List.replicate_succ, ← ih]; rfl
theorem cells2 (n : Nat) : (madeCells (Value.agg #[.int .i64 0, .int .i64 0]).cells (n * 2)).toList = (List.replicate (n * 2) (0 : Int)).map (Value.int .i64) := by
  apply List.ext_getElem
  · simp [size_madeCells]
  · intro i h1 h2
    have hm : i % 2 = 0 ∨ i % 2 = 1 := by omega
    rcases hm with hm | hm <;> simp [madeCells, Value.cells, hm]

set_option maxHeartbeats 1600000 in
theorem list_any (lo g p : Nat) (n : Int) (w : World) (h : Rdr w lo g p) (hp : p ≤ 1000000) (hn : 1 ≤ n) (hn2 : n ≤ 1000) :
    Calls Try.prog 50 #[.pointer (some ⟨g, 0, none⟩), .int .i64 n] w (DrewList lo g p w) := by
  obtain ⟨i0, hi, hz0, hz1, hz2⟩ := info_parts info_Ship
  have hg := h.lt
  go_enter Try.func50, Try.ntmps50
  go_wp2_with fail
  refine (pick_any lo g p 6 _ (h.alloc _) (by omega) (by omega) (by omega)).mono ?_
  rintro e w1 ⟨x, x0, xn, rfl, hd1, hs1⟩
  go_wp2_with fail
  go_loopw [5, 6] (fun v i wr => ∃ (k : Nat) (l : List ShipV) (g1 c1 : Nat), i = .int .i64 k ∧ l.length + k ≤ 5 ∧ v = .slice (some ⟨g1, 0, none⟩) l.length c1 ∧ l.length ≤ c1 ∧ wr.ownsRow w.heap.size 41 2 (.slice (some ⟨g1, 0, none⟩) l.length c1) l.length ((flatShip l).map (Value.int .i64)) ∧ Hid (∀ y ∈ l, smallV y) ∧ Drawn lo g (p + 1 + 2 * l.length) w wr) (fun _ i _ => (intOf i).toNat)
  case atStart =>
    obtain ⟨k, rfl⟩ := Int.eq_ofNat_of_zero_le x0
    refine ⟨k, [], w.heap.size, 0, rfl, by simp; omega, rfl, Nat.le_refl _, ?_, by intro y hy; simp at hy, ?_⟩
    · exact row_chg (World.ownsRow_lit w #[] 0 (Nat.le_refl _) (by unfold maxLen; omega) rfl) hd1.chg (by omega)
    · exact ((Drawn.refl h).alloc _).trans hd1
  case round =>
    obtain ⟨k, l, g1, c1, rfl, hk, rfl, hlc, hown, Hl, hd⟩ := hrel
    by_cases hlt : 0 < k
    · go_wp2_with fail
      refine (pick_any lo g _ 12 _ hd.rdr (by omega) (by omega) (by omega)).mono ?_
      rintro e w2 ⟨y, y0, yn, rfl, hd2, hs2⟩
      go_wp2_with fail
      refine (pick_any lo g _ 9 _ hd2.rdr (by omega) (by omega) (by omega)).mono ?_
      rintro e w3 ⟨z, z0, zn, rfl, hd3, hs3⟩
      have hown3 := row_chg (row_chg hown hd2.chg (by omega)) hd3.chg (by omega)
      have hdd := (hd.trans hd2).trans hd3
      have hs := hdd.chg.size
      have hb := hown3.lt
      go_wp2_with (at_builtin; refine wpList_append_own _ rfl _ _ 25 rfl w.heap.size 41 i0 (.agg #[.int .i64 0, .int .i64 0]) 2 16 Try.underlying25 hi hz0 hz1 hz2 rfl (by decide) _ _ _ rfl (hown3.alloc _) ⟨w3.heap.size, 0, none⟩ 1 1 [.int .i64 y, .int .i64 (1 + z)] rfl rfl (news2 (Blk.new w3 _ _)) (one2 _ _) ?c3 ?c4 ?c5 ?_)
      case c3 => unfold maxLen; omega
      case c4 => omega
      case c5 => simp; omega
      intro v' w4 hown4 hgrow _
      obtain ⟨g3, c3, rfl, hc3⟩ := row_atN hown4 (by omega)
      go_wp2
      obtain ⟨k', hk'⟩ : ∃ k' : Nat, k = k' + 1 := ⟨k - 1, by omega⟩
      exact ⟨⟨k', l ++ [⟨y, 1 + z⟩], g3, c3, by rw [hk']; go_num, by simp; omega, by simp, by simpa using hc3, by rw [flat_app, List.map_append]; simpa [flatShip] using hown4, by
        intro q hq
        rcases List.mem_append.1 hq with h1 | h1
        · exact Hl.out q h1
        · rw [List.mem_singleton.1 h1]; unfold smallV; simp only; omega, ((hdd.alloc _).grown hgrow hg (fun b e => (hb b e).1)).more (by simp; omega)⟩, by simp [intOf]; omega⟩
    · have hl8 : l.length ≤ 5 := by omega
      go_wp2_with fail
      refine (odd_any lo g _ n _ hd.rdr (by omega) (by omega) (by omega)).mono ?_
      rintro e w2 ⟨b, rfl, hd2, Hs2⟩
      have hown2 := row_chg hown hd2.chg (by omega)
      have hdd2 := hd.trans hd2
      cases b with
      | false =>
        have HF := Lib.hid (drew_list (p := p) hown2 hlc (by omega) Hl.out hdd2 (by omega))
        go_wp2_with fail
        go_ret
        exact HF.out
      | true =>
        go_wp2_with fail
        refine (pick_any lo g _ 3 _ hd2.rdr (by omega) (by omega) (by omega)).mono ?_
        rintro e w3 ⟨z, z0, zn, rfl, hd3, Hs3⟩
        have hown3 := row_chg hown2 hd3.chg (by omega)
        have hdd := hdd2.trans hd3
        have hs3 := hdd.chg.size
        have hrd : Rd w3 (some ⟨g1, 0, none⟩) (flatShip l) := (Own.of_row hown3 (Nat.le_refl _)).rd
        have hfl := flatShip_length l
        have HDD := Lib.hid hdd
        have m1 : 1 ≤ maxLen := by unfold maxLen; omega
        clear hown hown2 hown3 hdd hdd2 hd hd2 hd3
        rcases (by omega : z = 0 ∨ z = 1 ∨ z = 2) with rfl | rfl | rfl
        · go_wp2_with (at_make; refine wpList_make_full _ rfl _ _ 25 rfl w.heap.size 41 i0 (.agg #[.int .i64 0, .int .i64 0]) 2 Try.underlying25 hi hz0 hz1 .i64 .i64 6 6 6 rfl rfl rfl rfl ?c1 ?c2 hs3 ?_)
          case c1 => rw [hz2]; omega
          case c2 => unfold maxLen; omega
          intro w4 hown4 hg4
          have K4 : Hid (w4.ownsRow w.heap.size 41 2 (.slice (some ⟨w3.heap.size, 0, none⟩) 6 6) (List.replicate 6 (⟨0, 0⟩ : ShipV)).length ((flatShip (List.replicate 6 ⟨0, 0⟩)).map (Value.int .i64))) := by
            show w4.ownsRow _ _ _ _ _ _
            have h := hown4
            have e : (madeCells #[Value.int .i64 0, Value.int .i64 0] 12).toList = (List.replicate 12 (0 : Int)).map (Value.int .i64) := cells2 6
            rw [e] at h
            rw [flat_rep]
            simpa using h
          clear hown4
          go_wp2
          go_ret
          exact drew_list (l := List.replicate 6 ⟨0, 0⟩) K4.out (by simp) (by simp) (by intro y hy; rw [List.eq_of_mem_replicate hy]; unfold smallV; simp) (HDD.out.grown hg4 hg (by simp)) (by omega)
        · go_wp2_with (at_builtin; refine wpList_append_own _ rfl _ _ 25 rfl w.heap.size 41 i0 (.agg #[.int .i64 0, .int .i64 0]) 2 16 Try.underlying25 hi hz0 hz1 hz2 rfl (by decide) _ 1 [.int .i64 (-1), .int .i64 (1)] rfl (World.ownsRow_lit w3 #[.int .i64 (-1), .int .i64 (1)] 1 hs3 m1 rfl) ⟨g1, 0, none⟩ l.length c1 ((flatShip l).map (Value.int .i64)) rfl (by simp [hfl]) (hrd.news (cell_alloc_old _)) (ints_oneCell .i64 (flatShip l)) ?c3 ?c4 ?c5 ?_)
          case c3 => unfold maxLen; omega
          case c4 => omega
          case c5 => simp; omega
          intro v5 w5 hown5 hgrow5 _
          obtain ⟨g5, c5, rfl, hc5⟩ := row_atN hown5 (by omega)
          have K5 : Hid (w5.ownsRow w.heap.size 41 2 (.slice (some ⟨g5, 0, none⟩) (⟨-1, 1⟩ :: l).length c5) (⟨-1, 1⟩ :: l).length ((flatShip (⟨-1, 1⟩ :: l)).map (Value.int .i64))) := by
            show w5.ownsRow _ _ _ _ _ _
            simpa [Nat.add_comm, flatShip] using hown5
          have D5 := Lib.hid ((HDD.out.alloc (.cells #[.int .i64 (-1), .int .i64 (1)] 41)).grown hgrow5 hg (fun k e => by simp [Value.ownBlock] at e; omega))
          have HC5 := Lib.hid (p := ((⟨-1, 1⟩ : ShipV) :: l).length ≤ c5) (by simp; omega)
          clear hown5 hgrow5
          go_wp2
          go_ret
          have h := drew_list (p := p) K5.out HC5.out (by simp; omega) (by
            intro y hy
            rcases List.mem_cons.1 hy with rfl | hy
            · unfold smallV; simp
            · exact Hl.out y hy) D5.out (by omega)
          rw [List.length_cons, Nat.add_comm] at h
          simpa [Nat.add_comm] using h
        · go_wp2_with (at_builtin; refine wpList_append_own _ rfl _ _ 25 rfl w.heap.size 41 i0 (.agg #[.int .i64 0, .int .i64 0]) 2 16 Try.underlying25 hi hz0 hz1 hz2 rfl (by decide) _ 1 [.int .i64 (3), .int .i64 (0)] rfl (World.ownsRow_lit w3 #[.int .i64 (3), .int .i64 (0)] 1 hs3 m1 rfl) ⟨g1, 0, none⟩ l.length c1 ((flatShip l).map (Value.int .i64)) rfl (by simp [hfl]) (hrd.news (cell_alloc_old _)) (ints_oneCell .i64 (flatShip l)) ?c3 ?c4 ?c5 ?_)
          case c3 => unfold maxLen; omega
          case c4 => omega
          case c5 => simp; omega
          intro v5 w5 hown5 hgrow5 _
          obtain ⟨g5, c5, rfl, hc5⟩ := row_atN hown5 (by omega)
          have K5 : Hid (w5.ownsRow w.heap.size 41 2 (.slice (some ⟨g5, 0, none⟩) (⟨3, 0⟩ :: l).length c5) (⟨3, 0⟩ :: l).length ((flatShip (⟨3, 0⟩ :: l)).map (Value.int .i64))) := by
            show w5.ownsRow _ _ _ _ _ _
            simpa [Nat.add_comm, flatShip] using hown5
          have D5 := Lib.hid ((HDD.out.alloc (.cells #[.int .i64 (3), .int .i64 (0)] 41)).grown hgrow5 hg (fun k e => by simp [Value.ownBlock] at e; omega))
          have HC5 := Lib.hid (p := ((⟨3, 0⟩ : ShipV) :: l).length ≤ c5) (by simp; omega)
          clear hown5 hgrow5
          go_wp2
          go_ret
          have h := drew_list (p := p) K5.out HC5.out (by simp; omega) (by
            intro y hy
            rcases List.mem_cons.1 hy with rfl | hy
            · unfold smallV; simp
            · exact Hl.out y hy) D5.out (by omega)
          rw [List.length_cons, Nat.add_comm] at h
          simpa [Nat.add_comm] using h
end Go.Proofs.Ytjbocijckoaekaa
