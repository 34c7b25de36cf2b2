/- Boxes that are drawn: some short list. -/
import Derived.Test.YtphncbnnnickhaaBoxDraw
import Derived.Test.YtphncbnnnickhaaTBox
namespace Go.Proofs.Ytphncbnnnickhaa
open Go.RowKit
set_option linter.unusedVariables false
set_option linter.unusedSimpArgs false

theorem row_atN {w : World} {base n size : Nat} {t : TypeId} {v : Value} {xs : List Value} (h : w.ownsRow base t size v n xs) (hn : 0 < n) : ∃ g c, v = .slice (some ⟨g, 0, none⟩) n c ∧ n ≤ c := by
  rcases h.2 with ⟨rfl, h0⟩ | ⟨g, cap, cur, rfl, _, _, h1, _⟩
  · omega
  · exact ⟨g, cap, rfl, h1⟩
theorem flat_appB (l m : List BoxV) : flatBox (l ++ m) = flatBox l ++ flatBox m := by
  induction l with
  | nil => rfl
  | cons x l ih => simp [flatBox, ih]
theorem newsN {w : World} {cs : List Value} {H : Nat} {t : TypeId} (h : Blk w H t cs.toArray) : ∀ (j : Nat) (u : Value), cs[j]? = some u → w.cell? ((⟨H, 0, none⟩ : Addr).add j) = some u := by
  intro j u hu
  rw [addr_add, Nat.zero_add, h.cell, List.getElem?_toArray]
  exact hu
def DrewBoxes (lo g p : Nat) (w : World) (e : Ending) (w' : World) : Prop :=
  ∃ (g' : Nat) (l : List BoxV) (c : Nat), e = .returned (.slice (some ⟨g', 0, none⟩) l.length c) ∧ l.length ≤ 12 ∧ l.length ≤ c ∧ OwnV 45 w' w.heap.size w'.heap.size (some ⟨g', 0, none⟩) (flatBox l) ∧ Drawn lo g (p + 200) w w'
theorem drew_boxes {lo g p q g' c : Nat} {w w' : World} {l : List BoxV} (h : w'.ownsRow w.heap.size 45 5 (.slice (some ⟨g', 0, none⟩) l.length c) l.length (flatBox l)) (hc : l.length ≤ c) (hl : l.length ≤ 12) (hd : Drawn lo g q w w') (hq : q ≤ p + 200) :
    DrewBoxes lo g p w (.returned (.slice (some ⟨g', 0, none⟩) l.length c)) w' := ⟨g', l, c, rfl, hl, hc, OwnV.of_row h (flatBox_length l) (Nat.le_refl _), hd.more hq⟩
def zBox : BoxV := ⟨0, 0, 0, 0, false⟩
theorem cells5 : (madeCells (Value.agg #[.int .i64 0, .int .i64 0, .int .i64 0, .int .i64 0, .bool false]).cells 55).toList = flatBox (List.replicate 11 zBox) := by kernel_rfl
theorem one5 (x : BoxV) : ∀ u ∈ [Value.int .i64 x.id, Value.int .i64 x.weight, Value.int .i64 x.class_, Value.int .i64 x.port, Value.bool x.cold], u.oneCell' = true := by
  intro u hu
  simp only [List.mem_cons, List.not_mem_nil, or_false] at hu
  rcases hu with rfl | rfl | rfl | rfl | rfl <;> rfl

set_option maxHeartbeats 3200000 in
theorem boxes_any (lo g p : Nat) (n : Int) (w : World) (h : Rdr w lo g p) (hp : p ≤ 900000) (hn : 1 ≤ n) (hn2 : n ≤ 1000) :
    Calls Try.prog 52 #[.pointer (some ⟨g, 0, none⟩), .int .i64 10, .int .i64 n] w (DrewBoxes lo g p w) := by
  obtain ⟨i0, hi, hz0, hz1, hz2⟩ := info_parts info_Box
  have hg := h.lt
  have m0 : 0 ≤ maxLen := by unfold maxLen; omega
  have m20 : 20 ≤ maxLen := by unfold maxLen; omega
  go_enter Try.func52, Try.ntmps52
  go_wp2_with fail
  refine (pick_any lo g p 11 _ (h.alloc _) (by omega) (by omega) (by omega)).mono ?_
  rintro e w1 ⟨x, x0, xn, rfl, hd1, hs1⟩
  go_wp2_with fail
  go_loopw [7, 8] (fun v i wr => ∃ (k : Nat) (l : List BoxV) (g1 c1 : Nat), i = .int .i64 k ∧ l.length + k ≤ 10 ∧ v = .slice (some ⟨g1, 0, none⟩) l.length c1 ∧ l.length ≤ c1 ∧ wr.ownsRow w.heap.size 45 5 (.slice (some ⟨g1, 0, none⟩) l.length c1) l.length (flatBox l) ∧ Drawn lo g (p + 1 + 10 * l.length) w wr) (fun _ i _ => (intOf i).toNat)
  case atStart =>
    obtain ⟨k, rfl⟩ := Int.eq_ofNat_of_zero_le x0
    refine ⟨k, [], w.heap.size, 0, rfl, by simp; omega, rfl, Nat.le_refl _, ?_, ?_⟩
    · exact row_chg (World.ownsRow_lit w #[] 0 (Nat.le_refl _) m0 rfl) hd1.chg (by omega)
    · exact ((Drawn.refl h).alloc _).trans hd1
  case round =>
    obtain ⟨k, l, g1, c1, rfl, hk, rfl, hlc, hown, hd⟩ := hrel
    by_cases hlt : 0 < k
    · go_wp2_with fail
      refine (box_any lo g _ _ 0 _ hd.rdr (by omega) (by omega) (by omega)).mono ?_
      rintro e w2 ⟨y, rfl, hd2⟩
      have hown3 := row_chg hown hd2.chg (by omega)
      have hdd := hd.trans hd2
      have hs := hdd.chg.size
      have hb := hown3.lt
      go_wp2_with (at_builtin; refine wpList_append_own _ rfl _ _ 26 rfl w.heap.size 45 i0 (.agg #[.int .i64 0, .int .i64 0, .int .i64 0, .int .i64 0, .bool false]) 5 40 Try.underlying26 hi hz0 hz1 hz2 rfl (by decide) _ _ _ rfl (hown3.alloc _) ⟨w2.heap.size, 0, none⟩ 1 1 [.int .i64 y.id, .int .i64 y.weight, .int .i64 y.class_, .int .i64 y.port, .bool y.cold] rfl rfl (newsN (Blk.new w2 _ _)) (one5 _) ?c3 ?c4 ?c5 ?_)
      case c3 => omega
      case c4 => omega
      case c5 => simp; omega
      intro v' w4 hown4 hgrow _
      obtain ⟨g3, c3, rfl, hc3⟩ := row_atN hown4 (by omega)
      obtain ⟨k', hk'⟩ : ∃ k' : Nat, k = k' + 1 := ⟨k - 1, by omega⟩
      have HK := Lib.hid hk'
      have HR : Hid (w4.ownsRow w.heap.size 45 5 (.slice (some ⟨g3, 0, none⟩) (l ++ [y]).length c3) (l ++ [y]).length (flatBox (l ++ [y]))) := by
        show w4.ownsRow _ _ _ _ _ _
        rw [flat_appB, List.length_append, List.length_singleton]
        exact hown4
      have HD := Lib.hid (((hdd.alloc (.cells #[.int .i64 y.id, .int .i64 y.weight, .int .i64 y.class_, .int .i64 y.port, .bool y.cold] 45)).grown hgrow hg (fun b e => (hb b e).1)))
      clear hown4 hgrow hown hown3 hdd hd hd2 hk'
      go_wp2_with fail
      exact ⟨⟨k', l ++ [y], g3, c3, by rw [HK.out]; go_num, by have := HK.out; simp; omega, by simp, by simpa using hc3, HR.out, HD.out.more (by simp; omega)⟩, by simp [intOf]; omega⟩
    · have hl8 : l.length ≤ 10 := by omega
      go_wp2_with fail
      refine (odd_any lo g _ n _ hd.rdr (by omega) (by omega) (by omega)).mono ?_
      rintro e w2 ⟨b, rfl, hd2, Hs2⟩
      have hown2 := row_chg hown hd2.chg (by omega)
      have hdd2 := hd.trans hd2
      cases b with
      | false =>
        have HF := Lib.hid (drew_boxes (p := p) hown2 hlc (by omega) hdd2 (by omega))
        go_wp2_with fail
        go_ret
        exact HF.out
      | true =>
        go_wp2_with fail
        refine (pick_any lo g _ 3 _ hd2.rdr (by omega) (by omega) (by omega)).mono ?_
        rintro e w3 ⟨z, z0, zn, rfl, hd3, Hs3⟩
        have hown3 := row_chg hown2 hd3.chg (by omega)
        have hdd := hdd2.trans hd3
        have hs3 := hdd.chg.size
        have HDD := Lib.hid hdd
        have HROW := Lib.hid hown3
        clear hown hown2 hown3 hdd hdd2 hd hd2 hd3
        rcases (by omega : z = 0 ∨ z = 1 ∨ z = 2) with rfl | rfl | rfl
        · go_wp2_with (at_make; refine wpList_make_full _ rfl _ _ 26 rfl w.heap.size 45 i0 (.agg #[.int .i64 0, .int .i64 0, .int .i64 0, .int .i64 0, .bool false]) 5 Try.underlying26 hi hz0 hz1 .i64 .i64 11 11 11 rfl rfl rfl rfl ?c1 ?c2 hs3 ?_)
          case c1 => rw [hz2]; omega
          case c2 => omega
          intro w4 hown4 hg4
          have K4 : Hid (w4.ownsRow w.heap.size 45 5 (.slice (some ⟨w3.heap.size, 0, none⟩) 11 11) (List.replicate 11 zBox).length (flatBox (List.replicate 11 zBox))) := by
            show w4.ownsRow _ _ _ _ _ _
            rw [← cells5]
            exact hown4
          clear hown4
          go_wp2_with fail
          go_ret
          exact drew_boxes (l := List.replicate 11 zBox) K4.out (by simp) (by simp) (HDD.out.grown hg4 hg (by simp)) (by omega)
        · go_wp2_with fail
          refine (box_any lo g _ 50 1 _ HDD.out.rdr (by omega) (by omega) (by omega)).mono ?_
          rintro e w4 ⟨y, rfl, hd4⟩
          have hown4 := row_chg HROW.out hd4.chg (by omega)
          have hdd4 := HDD.out.trans hd4
          have hs4 := hdd4.chg.size
          have hb4 := hown4.lt
          go_wp2_with (at_builtin; refine wpList_append_own _ rfl _ _ 26 rfl w.heap.size 45 i0 (.agg #[.int .i64 0, .int .i64 0, .int .i64 0, .int .i64 0, .bool false]) 5 40 Try.underlying26 hi hz0 hz1 hz2 rfl (by decide) _ _ _ rfl (hown4.alloc _) ⟨w4.heap.size, 0, none⟩ 1 1 [.int .i64 y.id, .int .i64 y.weight, .int .i64 y.class_, .int .i64 y.port, .bool y.cold] rfl rfl (newsN (Blk.new w4 _ _)) (one5 _) ?c3 ?c4 ?c5 ?_)
          case c3 => omega
          case c4 => omega
          case c5 => simp; omega
          intro v5 w5 hown5 hgrow5 _
          obtain ⟨g5, c5, rfl, hc5⟩ := row_atN hown5 (by omega)
          have K5 : Hid (w5.ownsRow w.heap.size 45 5 (.slice (some ⟨g5, 0, none⟩) (l ++ [y]).length c5) (l ++ [y]).length (flatBox (l ++ [y]))) := by
            show w5.ownsRow _ _ _ _ _ _
            rw [flat_appB, List.length_append, List.length_singleton]
            exact hown5
          have D5 := Lib.hid ((hdd4.alloc (.cells #[.int .i64 y.id, .int .i64 y.weight, .int .i64 y.class_, .int .i64 y.port, .bool y.cold] 45)).grown hgrow5 hg (fun b e => (hb4 b e).1))
          have HC5 := Lib.hid (p := (l ++ [y]).length ≤ c5) (by simpa using hc5)
          clear hown5 hgrow5 hown4 hdd4 hd4
          go_wp2_with fail
          go_ret
          have h := drew_boxes (p := p) K5.out HC5.out (by simp; omega) D5.out (by omega)
          rw [List.length_append, List.length_singleton] at h
          exact h
        · have hown4 := HROW.out
          have hb4 := hown4.lt
          go_wp2_with (at_builtin; refine wpList_append_own _ rfl _ _ 26 rfl w.heap.size 45 i0 (.agg #[.int .i64 0, .int .i64 0, .int .i64 0, .int .i64 0, .bool false]) 5 40 Try.underlying26 hi hz0 hz1 hz2 rfl (by decide) _ _ _ rfl (hown4.alloc _) ⟨w3.heap.size, 0, none⟩ 2 2 [.int .i64 7, .int .i64 3, .int .i64 0, .int .i64 0, .bool false, .int .i64 7, .int .i64 4, .int .i64 0, .int .i64 0, .bool false] rfl rfl (newsN (Blk.new w3 _ _)) (flatBox_one [⟨7, 3, 0, 0, false⟩, ⟨7, 4, 0, 0, false⟩]) ?c3 ?c4 ?c5 ?_)
          case c3 => omega
          case c4 => omega
          case c5 => simp; omega
          intro v5 w5 hown5 hgrow5 _
          obtain ⟨g5, c5, rfl, hc5⟩ := row_atN hown5 (by omega)
          have K5 : Hid (w5.ownsRow w.heap.size 45 5 (.slice (some ⟨g5, 0, none⟩) (l ++ [⟨7, 3, 0, 0, false⟩, ⟨7, 4, 0, 0, false⟩] : List BoxV).length c5) (l ++ [⟨7, 3, 0, 0, false⟩, ⟨7, 4, 0, 0, false⟩] : List BoxV).length (flatBox (l ++ [⟨7, 3, 0, 0, false⟩, ⟨7, 4, 0, 0, false⟩]))) := by
            show w5.ownsRow _ _ _ _ _ _
            rw [flat_appB, List.length_append]
            exact hown5
          have D5 := Lib.hid ((HDD.out.alloc (.cells #[.int .i64 7, .int .i64 3, .int .i64 0, .int .i64 0, .bool false, .int .i64 7, .int .i64 4, .int .i64 0, .int .i64 0, .bool false] 45)).grown hgrow5 hg (fun b e => (hb4 b e).1))
          have HC5 := Lib.hid (p := (l ++ [⟨7, 3, 0, 0, false⟩, ⟨7, 4, 0, 0, false⟩] : List BoxV).length ≤ c5) (by simpa using hc5)
          clear hown5 hgrow5 hown4
          go_wp2_with fail
          go_ret
          have h := drew_boxes (p := p) K5.out HC5.out (by simp; omega) D5.out (by omega)
          rw [List.length_append] at h
          exact h
end Go.Proofs.Ytphncbnnnickhaa
