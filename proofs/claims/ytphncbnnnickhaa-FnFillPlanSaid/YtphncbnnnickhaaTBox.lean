/- Lists of Box: copies. -/
import Derived.Test.YtphncbnnnickhaaSBox
namespace Go.Proofs.Ytphncbnnnickhaa
open Go.RowKit
set_option linter.unusedVariables false
set_option linter.unusedSimpArgs false

set_option maxHeartbeats 400000 in
theorem toBox_any (a0 : Int) (a1 : Int) (a2 : Int) (a3 : Int) (a4 : Bool) (w : World) :
    Calls Try.prog 38 #[.agg #[.int .i64 a0, .int .i64 a1, .int .i64 a2, .int .i64 a3, .bool a4]] w fun e w' => e = .returned (.agg #[.int .i64 a0, .int .i64 a1, .int .i64 a2, .int .i64 a3, .bool a4]) ∧ Below w.heap.size w w' := by
  go_enter Try.func38, Try.ntmps38
  go_wp2
  exact bodyPost_ret (v := .agg #[.int .i64 a0, .int .i64 a1, .int .i64 a2, .int .i64 a3, .bool a4]) (by simp [results, Try.results38, go_sem]) rfl ⟨rfl, (((Below.refl _ _).alloc (Nat.le_refl _) _).alloc (by simp) _).alloc (by simp; omega) _⟩
theorem info_Box : (Try.prog.info? 45).map (fun i => (i.zero, i.size, i.bytes)) = some (some (.agg #[.int .i64 0, .int .i64 0, .int .i64 0, .int .i64 0, .bool false]), 5, 40) := by kernel_rfl
theorem cellsBox_own {cs : Array Value} {l : List BoxV} (h : ∀ (j : Nat) (x : BoxV), j < l.length → l[j]? = some x → cs[j * 5]? = some (Value.int .i64 x.id) ∧ cs[j * 5 + 1]? = some (Value.int .i64 x.weight) ∧ cs[j * 5 + 2]? = some (Value.int .i64 x.class_) ∧ cs[j * 5 + 3]? = some (Value.int .i64 x.port) ∧ cs[j * 5 + 4]? = some (Value.bool x.cold)) : ∀ (k : Nat) (y : Value), (flatBox l)[k]? = some y → cs[k]? = some y := by
  intro k y hy
  obtain ⟨j, x, hx, hd⟩ := flatBox_inv hy
  have hj := (List.getElem?_eq_some_iff.1 hx).1
  have hc := h j x hj hx
  rcases hd with ⟨rfl, rfl⟩ | ⟨rfl, rfl⟩ | ⟨rfl, rfl⟩ | ⟨rfl, rfl⟩ | ⟨rfl, rfl⟩
  · exact hc.1
  · exact hc.2.1
  · exact hc.2.2.1
  · exact hc.2.2.2.1
  · exact hc.2.2.2.2
theorem cellsBox_next {cs : Array Value} {l : List BoxV} {k : Nat} {x : BoxV} (hk : k < l.length) (hs : cs.size = l.length * 5) (hx : l[k]? = some x) (h : ∀ (j : Nat) (x : BoxV), j < k → l[j]? = some x → cs[j * 5]? = some (Value.int .i64 x.id) ∧ cs[j * 5 + 1]? = some (Value.int .i64 x.weight) ∧ cs[j * 5 + 2]? = some (Value.int .i64 x.class_) ∧ cs[j * 5 + 3]? = some (Value.int .i64 x.port) ∧ cs[j * 5 + 4]? = some (Value.bool x.cold)) :
    ∀ (j : Nat) (y : BoxV), j < k + 1 → l[j]? = some y → (((((cs.setIfInBounds (k * 5) (Value.int .i64 x.id)).setIfInBounds (k * 5 + 1) (Value.int .i64 x.weight)).setIfInBounds (k * 5 + 2) (Value.int .i64 x.class_)).setIfInBounds (k * 5 + 3) (Value.int .i64 x.port)).setIfInBounds (k * 5 + 4) (Value.bool x.cold))[j * 5]? = some (Value.int .i64 y.id) ∧ (((((cs.setIfInBounds (k * 5) (Value.int .i64 x.id)).setIfInBounds (k * 5 + 1) (Value.int .i64 x.weight)).setIfInBounds (k * 5 + 2) (Value.int .i64 x.class_)).setIfInBounds (k * 5 + 3) (Value.int .i64 x.port)).setIfInBounds (k * 5 + 4) (Value.bool x.cold))[j * 5 + 1]? = some (Value.int .i64 y.weight) ∧ (((((cs.setIfInBounds (k * 5) (Value.int .i64 x.id)).setIfInBounds (k * 5 + 1) (Value.int .i64 x.weight)).setIfInBounds (k * 5 + 2) (Value.int .i64 x.class_)).setIfInBounds (k * 5 + 3) (Value.int .i64 x.port)).setIfInBounds (k * 5 + 4) (Value.bool x.cold))[j * 5 + 2]? = some (Value.int .i64 y.class_) ∧ (((((cs.setIfInBounds (k * 5) (Value.int .i64 x.id)).setIfInBounds (k * 5 + 1) (Value.int .i64 x.weight)).setIfInBounds (k * 5 + 2) (Value.int .i64 x.class_)).setIfInBounds (k * 5 + 3) (Value.int .i64 x.port)).setIfInBounds (k * 5 + 4) (Value.bool x.cold))[j * 5 + 3]? = some (Value.int .i64 y.port) ∧ (((((cs.setIfInBounds (k * 5) (Value.int .i64 x.id)).setIfInBounds (k * 5 + 1) (Value.int .i64 x.weight)).setIfInBounds (k * 5 + 2) (Value.int .i64 x.class_)).setIfInBounds (k * 5 + 3) (Value.int .i64 x.port)).setIfInBounds (k * 5 + 4) (Value.bool x.cold))[j * 5 + 4]? = some (Value.bool y.cold) := by
  intro j y hj hy
  by_cases e : j = k
  · subst e
    rw [hx] at hy
    injection hy with hy
    subst hy
    refine ⟨?_, ?_, ?_, ?_, ?_⟩ <;> simp [Array.getElem?_setIfInBounds] <;> omega
  · have := h j y (by omega) hy
    have hne : ∀ a b : Nat, a < 5 → b < 5 → k * 5 + a ≠ j * 5 + b := by intro a b; omega
    refine ⟨?_, ?_, ?_, ?_, ?_⟩ <;> simp only [Array.getElem?_setIfInBounds] <;> (repeat rw [if_neg (by omega)]) <;> simp [this]
set_option maxHeartbeats 800000 in
theorem toBoxS_any (A : Option Addr) (l : List BoxV) (c : Nat) (w : World) (ha : RdBox w A l) (hl : l.length ≤ 1048576) :
    Calls Try.prog 10 #[.slice A l.length c] w fun e w' => ∃ A', e = .returned (.slice A' l.length l.length) ∧ OwnV 45 w' w.heap.size w'.heap.size A' (flatBox l) ∧ Below w.heap.size w w' := by
  obtain ⟨i0, hi, hz0, hz1, hz2⟩ := info_parts info_Box
  go_enter Try.func10, Try.ntmps10
  go_wp2_with (at_make; refine wpList_make_full _ rfl _ _ 26 rfl w.heap.size 45 i0 (.agg #[.int .i64 0, .int .i64 0, .int .i64 0, .int .i64 0, .bool false]) 5 Try.underlying26 hi hz0 hz1 .i64 .i64 _ _ l.length rfl rfl rfl rfl ?c1 ?c2 (Nat.le_refl _) ?_)
  case c1 => rw [hz2]; omega
  case c2 => unfold maxLen; omega
  intro w1 hrow hg1
  obtain ⟨cs0, hb0, hcs0⟩ := blk_of_full hrow rfl
  have H0 : Hid (cs0.size = l.length * 5) := by
    have h := congrArg List.length hcs0
    simp [size_madeCells] at h
    exact h
  have hb1 := below_grown hg1
  clear hrow hg1 hcs0 hz0 hz1 hz2 hi
  go_wp2
  go_loopw [4] (fun i wr => ∃ (k : Nat) (cs : Array Value), k ≤ l.length ∧ i = .int .i64 k ∧ Blk wr w.heap.size 45 cs ∧ Hid (cs.size = l.length * 5) ∧ Hid (∀ (j : Nat) (x : BoxV), j < k → l[j]? = some x → cs[j * 5]? = some (Value.int .i64 x.id) ∧ cs[j * 5 + 1]? = some (Value.int .i64 x.weight) ∧ cs[j * 5 + 2]? = some (Value.int .i64 x.class_) ∧ cs[j * 5 + 3]? = some (Value.int .i64 x.port) ∧ cs[j * 5 + 4]? = some (Value.bool x.cold)) ∧ Below w.heap.size w wr) (fun i _ => l.length - (intOf i).toNat)
  case atStart => exact ⟨0, cs0, by omega, rfl, hb0, H0, (fun j x hj => absurd hj (by omega)), hb1⟩
  case round =>
    obtain ⟨k, cs, hk, rfl, hblk, Hs, Hc, hbw⟩ := hrel
    by_cases hlt : k < l.length
    · obtain ⟨b, off, x, rfl, hbx, Hx, hx0, hx1, hx2, hx3, hx4⟩ := (ha.below hbw).at_ hlt
      have q0 : (0 : Int) ≤ (k : Int) := by omega
      have q1 : (k : Int) < (l.length : Int) := by omega
      have hwl := hblk.lt
      go_wp2_with fail
      refine (toBox_any x.id x.weight x.class_ x.port x.cold _).mono ?_
      rintro e w2 ⟨rfl, hb2⟩
      have hblk2 := hblk.below hb2 hwl
      have hss := Hs.out
      obtain ⟨u0, hu0⟩ : ∃ u, cs[k * 5]? = some u := ⟨_, Array.getElem?_eq_getElem (by omega)⟩
      have hc20 : _ := (hblk2.cell (k * 5)).trans hu0
      have hf20 := hblk2.frozen (k * 5)
      clear hu0
      obtain ⟨u1, hu1⟩ : ∃ u, cs[k * 5 + 1]? = some u := ⟨_, Array.getElem?_eq_getElem (by omega)⟩
      have hc21 : _ := (hblk2.cell (k * 5 + 1)).trans hu1
      have hf21 := hblk2.frozen (k * 5 + 1)
      clear hu1
      obtain ⟨u2, hu2⟩ : ∃ u, cs[k * 5 + 2]? = some u := ⟨_, Array.getElem?_eq_getElem (by omega)⟩
      have hc22 : _ := (hblk2.cell (k * 5 + 2)).trans hu2
      have hf22 := hblk2.frozen (k * 5 + 2)
      clear hu2
      obtain ⟨u3, hu3⟩ : ∃ u, cs[k * 5 + 3]? = some u := ⟨_, Array.getElem?_eq_getElem (by omega)⟩
      have hc23 : _ := (hblk2.cell (k * 5 + 3)).trans hu3
      have hf23 := hblk2.frozen (k * 5 + 3)
      clear hu3
      obtain ⟨u4, hu4⟩ : ∃ u, cs[k * 5 + 4]? = some u := ⟨_, Array.getElem?_eq_getElem (by omega)⟩
      have hc24 : _ := (hblk2.cell (k * 5 + 4)).trans hu4
      have hf24 := hblk2.frozen (k * 5 + 4)
      clear hu4
      clear hss
      go_wp2_with fail
      exact ⟨⟨k + 1, _, by omega, by go_num, (((((hblk2.set_ (k * 5) _).set_ (k * 5 + 1) _).set_ (k * 5 + 2) _).set_ (k * 5 + 3) _).set_ (k * 5 + 4) _), by have h := Hs.out; show _ = _; simpa using h, cellsBox_next hlt Hs.out Hx.out Hc.out, ((((((hbw.trans (hb2.mono hbw.size)).setCell (Nat.le_refl _) _).setCell (Nat.le_refl _) _).setCell (Nat.le_refl _) _).setCell (Nat.le_refl _) _).setCell (Nat.le_refl _) _)⟩, by simp [intOf]; omega⟩
    · go_wp2
      go_ret
      exact ⟨_, rfl, OwnV.of_blk hblk (Nat.le_refl _) hblk.lt (cellsBox_own (fun j x hj hx => Hc.out j x (by omega) hx)), hbw⟩
end Go.Proofs.Ytphncbnnnickhaa
