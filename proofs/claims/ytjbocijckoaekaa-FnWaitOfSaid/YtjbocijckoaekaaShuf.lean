/- An order that is drawn: some short list of numbers. -/
import Derived.Test.YtjbocijckoaekaaPairDraw
import Derived.Deep.RegionHeld3
import Derived.BigRegion
import Derived.Deep.RegionLaw
import Derived.IntWalk
namespace Go.Proofs.Ytjbocijckoaekaa
open Go.RowKit
set_option linter.unusedVariables false
set_option linter.unusedSimpArgs false

theorem row_take {w : World} {base g1 c1 k a : Nat} {t : TypeId} {xs : List Value} (h : w.ownsRow base t 1 (.slice (some ⟨g1, 0, none⟩) k c1) k xs) (ha : a ≤ k) : w.ownsRow base t 1 (.slice (some ⟨g1, 0, none⟩) a c1) a (xs.take a) := by
  have hl := h.1
  refine ⟨by rw [List.length_take]; omega, ?_⟩
  rcases h.2 with ⟨e, _⟩ | ⟨g, cap, cur, e, hb, hg, h1, h2, h3, h4⟩
  · cases e
  · injection e with e1 e2 e3
    injection e1 with e1
    injection e1 with e1
    subst e1 e3
    exact .inr ⟨_, _, cur, rfl, hb, hg, by omega, h2, h3, by rw [← h4, List.take_take]; congr 1; omega⟩
theorem row_some {w : World} {base n : Nat} {t : TypeId} {v : Value} {xs : List Value} (h : w.ownsRow base t 1 v n xs) (hv : v ≠ .slice none 0 0) : ∃ g c, v = .slice (some ⟨g, 0, none⟩) n c ∧ n ≤ c ∧ base ≤ g := by
  rcases h.2 with ⟨e, _⟩ | ⟨g, cap, cur, e, hb, _, h1, _⟩
  · exact absurd e hv
  · exact ⟨g, cap, e, h1, hb⟩
theorem row_keep {w w' : World} {base g1 n c : Nat} {t : TypeId} {xs : List Value} (h : w.ownsRow base t 1 (.slice (some ⟨g1, 0, none⟩) n c) n xs) (he : w'.heap[g1]? = w.heap[g1]?) : w'.ownsRow base t 1 (.slice (some ⟨g1, 0, none⟩) n c) n xs := by
  refine ⟨h.1, ?_⟩
  rcases h.2 with hn | ⟨g, cap, cur, e, hb, hg, rest⟩
  · exact .inl hn
  · injection e with e1 e2 e3
    injection e1 with e1
    injection e1 with e1
    subst e1 e3
    exact .inr ⟨_, _, cur, rfl, hb, he.trans hg, rest⟩
theorem row_lt {w : World} {base g1 n c : Nat} {t : TypeId} {xs : List Value} (h : w.ownsRow base t 1 (.slice (some ⟨g1, 0, none⟩) n c) n xs) : g1 < w.heap.size ∧ base ≤ g1 := by
  rcases h.2 with ⟨e, _⟩ | ⟨g, cap, cur, e, hb, hg, rest⟩
  · cases e
  · injection e with e1 e2 e3
    injection e1 with e1
    injection e1 with e1
    subst e1
    exact ⟨(Array.getElem?_eq_some_iff.1 hg).1, hb⟩
theorem cut_cells {w Y : World} {base g1 c1 a : Nat} {t : TypeId} {xs : List Value} {n : Nat} {a2 : Addr} (h : w.ownsRow base t 1 (.slice (some ⟨g1, 0, none⟩) n c1) n xs) (hA : (if c1 = a then some (⟨g1, 0, none⟩ : Addr) else some ⟨g1, a, none⟩) = some a2) (hY : Y.heap[g1]? = w.heap[g1]?) :
    ∀ j u, (xs.drop a)[j]? = some u → Y.cell? (a2.add j) = some u := by
  intro j u hu
  have hc := h.cells (g := g1) rfl (a + j) u (by rw [← hu, List.getElem?_drop])
  have hlen := h.1
  have hj : a + j < xs.length := by rw [List.getElem?_drop] at hu; exact (List.getElem?_eq_some_iff.1 hu).1
  have hcap : n ≤ c1 := by
    rcases h.2 with ⟨e, h0⟩ | ⟨g', cap, cur, e, _, _, h1, _⟩
    · omega
    · injection e with e1 e2 e3; omega
  rw [if_neg (by omega)] at hA
  injection hA with hA
  subst hA
  rw [addr_add] at hc ⊢
  rw [Nat.zero_add] at hc
  rw [← hc]
  exact World.cell?_of_block hY
/-- A short list of numbers, in new memory. -/
def DrewInts (lo g p : Nat) (w : World) (e : Ending) (w' : World) : Prop :=
  ∃ (g' : Nat) (l : List Int) (c : Nat), e = .returned (.slice (some ⟨g', 0, none⟩) l.length c) ∧ l.length ≤ 101 ∧ l.length ≤ c ∧ Own 3 w' w.heap.size w'.heap.size (some ⟨g', 0, none⟩) l ∧ Drawn lo g (p + 200) w w'
theorem drew_ints {lo g p q g' c k : Nat} {w w' : World} {l : List Int} (h : w'.ownsRow w.heap.size 3 1 (.slice (some ⟨g', 0, none⟩) k c) k (l.map (Value.int .i64))) (hk : l.length = k) (hc : k ≤ c) (hl : k ≤ 101) (hd : Drawn lo g q w w') (hq : q ≤ p + 200) :
    DrewInts lo g p w (.returned (.slice (some ⟨g', 0, none⟩) k c)) w' := by
  subst hk
  exact ⟨g', l, c, rfl, hl, hc, Own.of_row h (Nat.le_refl _), hd.more hq⟩
theorem mid_row {w : World} {base : Nat} {t : TypeId} {v : Value} {l : List Int} {a k : Nat} {x : Int} (ha : a ≤ k) (h : w.ownsRow base t 1 v (a + 1 + (k - a)) ((l.map (Value.int .i64)).take a ++ .int .i64 x :: (l.map (Value.int .i64)).drop a)) :
    w.ownsRow base t 1 v (k + 1) ((l.take a ++ x :: l.drop a).map (Value.int .i64)) := by
  rw [show k + 1 = a + 1 + (k - a) from by omega]
  simpa [List.map_take, List.map_drop] using h
theorem mid_mem {l : List Int} {a : Nat} {x : Int} {P : Int → Prop} (h : ∀ y ∈ l, P y) (hx : P x) : ∀ y ∈ l.take a ++ x :: l.drop a, P y := by
  intro y hy
  rcases List.mem_append.1 hy with h1 | h1
  · exact h y (List.mem_of_mem_take h1)
  · rcases List.mem_cons.1 h1 with rfl | h1
    · exact hx
    · exact h y (List.mem_of_mem_drop h1)
set_option maxHeartbeats 3200000 in
theorem shuffle_any (lo g p : Nat) (m : Nat) (n : Int) (w : World) (h : Rdr w lo g p) (hp : p ≤ 1000000) (hm : m ≤ 100) (hn : 1 ≤ n) (hn2 : n ≤ 1000) :
    Calls Try.prog 53 #[.pointer (some ⟨g, 0, none⟩), .int .i64 m, .int .i64 n] w (DrewInts lo g p w) := by
  obtain ⟨i0, hi, hz0, hz1, hz2⟩ := info_parts info_int
  have hg := h.lt
  have hd0 := (Drawn.refl h).alloc (.cells #[] 3)
  have m1 : 1 ≤ maxLen := by unfold maxLen; omega
  have hown0 : (w.alloc (.cells #[] 3)).ownsRow w.heap.size 3 1 (.slice (some ⟨w.heap.size, 0, none⟩) 0 0) 0 (([] : List Int).map (Value.int .i64)) := World.ownsRow_lit w #[] 0 (Nat.le_refl _) (by unfold maxLen; omega) rfl
  go_enter Try.func53, Try.ntmps53
  go_wp2_with fail
  go_loopw [7, 8] (fun v i wr => ∃ (k : Nat) (l : List Int) (g1 c1 : Nat), k ≤ m ∧ i = .int .i64 k ∧ Hid (l.length = k) ∧ v = .slice (some ⟨g1, 0, none⟩) k c1 ∧ k ≤ c1 ∧ wr.ownsRow w.heap.size 3 1 (.slice (some ⟨g1, 0, none⟩) k c1) k (l.map (Value.int .i64)) ∧ Hid (∀ y ∈ l, 0 ≤ y ∧ y ≤ 100) ∧ Drawn lo g (p + k) w wr) (fun _ i _ => m - (intOf i).toNat)
  case atStart => exact ⟨0, [], w.heap.size, 0, by omega, rfl, rfl, rfl, Nat.le_refl _, hown0, (fun y hy => by simp at hy), hd0⟩
  case round =>
    obtain ⟨k, l, g1, c1, hk, rfl, HL, rfl, hc, hown, HB, hd⟩ := hrel
    by_cases hlt : k < m
    · go_wp2_with fail
      refine (pick_any lo g _ (k + 1) _ hd.rdr (by omega) (by omega) (by omega)).mono ?_
      rintro e w1 ⟨x, x0, xn, rfl, hd1, hs1⟩
      obtain ⟨a, rfl⟩ := Int.eq_ofNat_of_zero_le x0
      have hown1 := row_chg hown hd1.chg (by omega)
      have hdd := hd.trans hd1
      have hsz := hdd.chg.size
      have q1 : (a : Int) ≤ (k : Int) := by omega
      have q2 : (k : Int) ≤ (c1 : Int) := by omega
      have q3 : (a : Int) ≤ (c1 : Int) := by omega
      have q4 : a ≤ k := by omega
      obtain ⟨hlt1, hbase⟩ := row_lt hown1
      obtain ⟨a2, hA2⟩ : ∃ a2, (if c1 = a then some (⟨g1, 0, none⟩ : Addr) else some ⟨g1, a, none⟩) = some a2 := by split <;> exact ⟨_, rfl⟩
      have HC := Lib.hid (cut_cells hown1 hA2 (Below.heap_alloc w1 (.cells #[] 3) g1 hlt1))
      rw [← List.map_drop] at HC
      have HLD : Hid (((l.drop a).map (Value.int .i64)).length = (k - a) * 1) := by show _ = _; rw [List.length_map, List.length_drop, HL.out]; omega
      go_wp2_with (at_builtin; refine wpList_append_own _ rfl _ _ 29 rfl w1.heap.size 3 i0 (.int .i64 0) 1 8 Try.underlying29 hi hz0 hz1 hz2 rfl (by decide) _ 0 [] rfl (World.ownsRow_lit w1 #[] 0 (Nat.le_refl _) (by unfold maxLen; omega) rfl) a2 (k - a) (c1 - a) ((l.drop a).map (Value.int .i64)) rfl HLD.out HC.out (ints_oneCell .i64 _) ?c3 ?c4 ?c5 ?_)
      case c3 => unfold maxLen; omega
      case c4 => omega
      case c5 => simp
      intro v2 w2 hown2 hgrow2 hiff2
      try simp only [Nat.zero_add, List.nil_append] at hown2
      obtain ⟨gr, cr, rfl, hcr, hgr⟩ := row_some hown2 hiff2
      have hd2 := (hdd.alloc (.cells #[] 3)).grown hgrow2 hg (fun k e => by simp [Value.ownBlock] at e; omega)
      have ho2 := row_keep hown1 ((hgrow2.block g1 (by simp; omega) (by simp [Value.ownBlock]; omega)).trans (Below.heap_alloc w1 (.cells #[] 3) g1 hlt1))
      have hs2 := hgrow2.size
      simp only [World.size_alloc] at hs2
      have hlt2 := (row_lt hown2).1
      have hd2s := hd2.chg.size
      have HT := Lib.hid (row_take ho2 q4)
      have hone : ∀ u ∈ [Value.int .i64 (k : Int)], u.oneCell' = true := fun u hu => by rw [List.mem_singleton.1 hu]; rfl
      clear hown hown1 hgrow2 hiff2 hA2 HC
      go_wp2_with (at_builtin; refine wpList_append_own _ rfl _ _ 29 rfl w.heap.size 3 i0 (.int .i64 0) 1 8 Try.underlying29 hi hz0 hz1 hz2 rfl (by decide) _ _ _ rfl (HT.out.alloc _) ⟨w2.heap.size, 0, none⟩ 1 1 [.int .i64 k] rfl rfl (cell_one_new _ _ _) hone ?c3 ?c4 ?c5 ?_)
      case c3 => unfold maxLen; omega
      case c4 => omega
      case c5 => simp; omega
      intro v3 w3 hown3 hgrow3 _
      obtain ⟨g3, c3, rfl, hc3⟩ := row_atN hown3 (by omega)
      have hd3 := (hd2.alloc (.cells #[.int .i64 (k : Int)] 3)).grown hgrow3 hg (fun k e => by simp [Value.ownBlock] at e; omega)
      have hr3 := row_keep hown2 ((hgrow3.block gr (by simp; omega) (by simp [Value.ownBlock]; omega)).trans (Below.heap_alloc w2 (.cells #[.int .i64 (k : Int)] 3) gr hlt2))
      have hd3s := hd3.chg.size
      have HC := Lib.hid (fun j u => hr3.cells (g := gr) rfl j u)
      try rw [← List.map_drop] at HC
      obtain ⟨_, hb3⟩ := row_lt hown3
      clear hown2 hgrow3 hr3 ho2
      go_wp2_with (at_builtin; refine wpList_append_own _ rfl _ _ 29 rfl w.heap.size 3 i0 (.int .i64 0) 1 8 Try.underlying29 hi hz0 hz1 hz2 rfl (by decide) _ _ _ rfl hown3 ⟨gr, 0, none⟩ (k - a) cr ((l.drop a).map (Value.int .i64)) rfl HLD.out HC.out (ints_oneCell .i64 _) ?c3 ?c4 ?c5 ?_)
      case c3 => unfold maxLen; omega
      case c4 => omega
      case c5 => omega
      intro v4 w4 hown4 hgrow4 _
      have hown5 := mid_row q4 hown4
      obtain ⟨g4, c4, rfl, hc4⟩ := row_atN hown5 (by omega)
      have hd4 := (hd3.grown hgrow4 hg (fun k e => by simp [Value.ownBlock] at e; omega)).more (show p + k + 1 ≤ p + (k + 1) by omega)
      have HLL : Hid ((l.take a ++ (k : Int) :: l.drop a).length = k + 1) := by show _ = _; rw [List.length_append, List.length_take, List.length_cons, List.length_drop, HL.out]; omega
      have HBB : Hid (∀ y ∈ l.take a ++ (k : Int) :: l.drop a, 0 ≤ y ∧ y ≤ 100) := mid_mem HB.out (by omega)
      clear hown3 hown4 hgrow4 HC HT
      go_wp2_with fail
      exact ⟨⟨k + 1, _, g4, c4, by omega, by go_num, HLL.out, rfl, hc4, hown5, HBB.out, hd4⟩, by simp [intOf]; omega⟩
    · obtain rfl : k = m := by omega
      have hd := hd.more (show p + k ≤ p + 100 by omega)
      have hds := hd.chg.size
      go_wp2_with fail
      refine (odd_any lo g _ n _ hd.rdr (by omega) (by omega) (by omega)).mono ?_
      rintro e w2 ⟨b, rfl, hd2, Hs2⟩
      have hown2 := row_chg hown hd2.chg (by omega)
      have hdd2 := hd.trans hd2
      have hdd2s := hdd2.chg.size
      obtain ⟨hg1, hg1b⟩ := row_lt hown2
      have hone : ∀ u ∈ [Value.int .i64 (k : Int)], u.oneCell' = true := fun u hu => by rw [List.mem_singleton.1 hu]; rfl
      clear hown hd hd2
      cases b with
      | false =>
        have HF := Lib.hid (drew_ints (p := p) hown2 HL.out hc (by omega) hdd2 (by omega))
        go_wp2_with fail
        go_ret
        exact HF.out
      | true =>
        by_cases h0 : 0 < k
        · go_wp2_with fail
          refine (pick_any lo g _ 2 _ hdd2.rdr (by omega) (by omega) (by omega)).mono ?_
          rintro e w3 ⟨z, z0, zn, rfl, hd3, Hs3⟩
          have hown3 := row_chg hown2 hd3.chg (by omega)
          have hdd3 := hdd2.trans hd3
          have hdd3s := hdd3.chg.size
          clear hown2 hdd2 hd3
          rcases (by omega : z = 0 ∨ z = 1) with rfl | rfl
          · obtain ⟨j, hj⟩ : ∃ j, k = j + 1 := ⟨k - 1, by omega⟩
            have HO3 := Lib.hid hown3
            have ho := Own.of_row hown3 (Nat.le_refl _)
            obtain ⟨bb, off, x, e, hbb, Hx, hcx⟩ := ho.rd.at_ (k := j) (by rw [HL.out]; omega)
            injection e with e
            injection e with e1 e2 e3
            subst e1 e2
            rw [Nat.zero_add] at hcx
            obtain ⟨bb, off, y0, e, hbb0, Hy0, hcy0⟩ := ho.rd.at_ (k := 0) (by rw [HL.out]; omega)
            injection e with e
            injection e with e1 e2 e3
            subst e1 e2
            have HCX := Lib.hid hcx
            have HCK : Hid (∀ W, Chg g (g + 1) w3 W → W.cell? ⟨g1, j, none⟩ = some (.int .i64 x) ∧ W.cell? ⟨g1, 0, none⟩ = some (.int .i64 y0) ∧ W.frozen? ⟨g1, 0, none⟩ = false) := fun W hW => by
              have he := hW.block g1 hbb (.inr (by omega))
              exact ⟨(World.cell?_of_block (a := ⟨g1, j, none⟩) he).trans HCX.out, (World.cell?_of_block (a := ⟨g1, 0, none⟩) he).trans hcy0, (World.frozen?_of_block (a := ⟨g1, 0, none⟩) he).trans (HO3.out.frozenAt 0)⟩
            have q0 : (0 : Int) ≤ (j : Int) := by omega
            have q1 : (j : Int) < (k : Int) := by omega
            have q2 : IntKind.i64.wrap ((k : Int) - 1) = (j : Int) := by rw [show (k : Int) - 1 = (j : Int) from by omega]; exact IntWalk.i64_in _ (by omega)
            have q3 : (0 : Int) < (k : Int) := by omega
            have q5 : IntKind.i64.wrap (j : Int) = (j : Int) := IntWalk.i64_in _ (by omega)
            have q4 : (k : Int) - 1 = (j : Int) := by omega
            have xb := HB.out x (mem_at Hx.out)
            have HJ := Lib.hid hj
            clear hown3 ho hj hcy0
            go_wp2_with fail
            go_region_law (first | (go_simp; go_at_call 58; refine (pick_any lo g _ 2 _ (by first | exact hdd3.rdr | exact hdd3.rdr.drewN _) (by omega) (by omega) (by omega)).mono ?_; rintro e w5 ⟨y, y0, yn, rfl, hd5, Hs5⟩; obtain ⟨c5, c6, c7⟩ := HCK.out _ (((Chg.refl _ _ _).drewN 1).trans hd5.chg)))
            all_goals
              obtain ⟨V, HV⟩ : ∃ V, Hid (IntKind.i64.wrap (x + IntKind.i64.wrap (y * 9)) = V) := ⟨_, rfl⟩
              rw [HV.out]
              have hdd5 := ((hdd3.drew).trans hd5).setNew (a := ⟨g1, 0, none⟩) (by show w.heap.size ≤ g1; omega) hg (.int .i64 V)
              have hst := (row_chg (w := w3.drew) HO3.out hd5.chg (by omega)).stored 0 (.int .i64 V)
              rw [← List.map_set] at hst
              have HF := Lib.hid (drew_ints (p := p) hst.1 (by rw [List.length_set, HL.out]) hc (by omega) hdd5 (by omega))
              clear hst hdd5 c5 c6 c7
              go_wp2_with fail
              go_ret
              exact HF.out
          · go_wp2_with (at_builtin; refine wpList_append_own _ rfl _ _ 29 rfl w.heap.size 3 i0 (.int .i64 0) 1 8 Try.underlying29 hi hz0 hz1 hz2 rfl (by decide) _ _ _ rfl (hown3.alloc _) ⟨w3.heap.size, 0, none⟩ 1 1 [.int .i64 k] rfl rfl (cell_one_new _ _ _) hone ?c3 ?c4 ?c5 ?_)
            case c3 => unfold maxLen; omega
            case c4 => omega
            case c5 => simp; omega
            intro v4 w4 hown4 hgrow4 _
            obtain ⟨g4, c4, rfl, hc4⟩ := row_atN hown4 (by omega)
            have hd4 := (hdd3.alloc (.cells #[.int .i64 (k : Int)] 3)).grown hgrow4 hg (fun k e => by simp [Value.ownBlock] at e; omega)
            have HF := Lib.hid (drew_ints (p := p) (l := l ++ [(k : Int)]) (by simpa using hown4) (by rw [List.length_append, HL.out]; rfl) hc4 (by omega) hd4 (by omega))
            clear hown4 hgrow4 hown3
            go_wp2_with fail
            go_ret
            exact HF.out
        · have t0 : decide (0 < (k : Int)) = false := by simp; omega
          go_wp2_with (at_builtin; refine wpList_append_own _ rfl _ _ 29 rfl w.heap.size 3 i0 (.int .i64 0) 1 8 Try.underlying29 hi hz0 hz1 hz2 rfl (by decide) _ _ _ rfl (hown2.alloc _) ⟨w2.heap.size, 0, none⟩ 1 1 [.int .i64 k] rfl rfl (cell_one_new _ _ _) hone ?c3 ?c4 ?c5 ?_)
          case c3 => unfold maxLen; omega
          case c4 => omega
          case c5 => simp; omega
          intro v4 w4 hown4 hgrow4 _
          obtain ⟨g4, c4, rfl, hc4⟩ := row_atN hown4 (by omega)
          have hd4 := (hdd2.alloc (.cells #[.int .i64 (k : Int)] 3)).grown hgrow4 hg (fun k e => by simp [Value.ownBlock] at e; omega)
          have HF := Lib.hid (drew_ints (p := p) (l := l ++ [(k : Int)]) (by simpa using hown4) (by rw [List.length_append, HL.out]; rfl) hc4 (by omega) hd4 (by omega))
          clear hown4 hgrow4 hown2
          go_wp2_with fail
          go_ret
          exact HF.out
end Go.Proofs.Ytjbocijckoaekaa
