/- Lists of Ship: copies. -/
import Derived.Test.YtjbocijckoaekaaSShip
namespace Go.Proofs.Ytjbocijckoaekaa
open Go.RowKit
set_option linter.unusedVariables false
set_option linter.unusedSimpArgs false

set_option maxHeartbeats 400000 in
theorem toShip_any (a0 a1 : Int) (w : World) :
    Calls Try.prog 39 #[.agg #[.int .i64 a0, .int .i64 a1]] w fun e w' => e = .returned (.agg #[.int .i64 a0, .int .i64 a1]) ∧ Below w.heap.size w w' := by
  go_enter Try.func39, Try.ntmps39
  go_wp2
  exact bodyPost_ret (v := .agg #[.int .i64 a0, .int .i64 a1]) (by simp [results, Try.results39, go_sem]) rfl ⟨rfl, (((Below.refl _ _).alloc (Nat.le_refl _) _).alloc (by simp) _).alloc (by simp; omega) _⟩
theorem info_Ship : (Try.prog.info? 41).map (fun i => (i.zero, i.size, i.bytes)) = some (some (.agg #[.int .i64 0, .int .i64 0]), 2, 16) := by kernel_rfl
theorem cellsShip_own {cs : Array Value} {l : List ShipV} (h : ∀ (j : Nat) (x : ShipV), j < l.length → l[j]? = some x → cs[j * 2]? = some (Value.int .i64 x.arrive) ∧ cs[j * 2 + 1]? = some (Value.int .i64 x.hours)) : ∀ (k : Nat) (y : Int), (flatShip l)[k]? = some y → cs[k]? = some (Value.int .i64 y) := by
  intro k y hy
  obtain ⟨j, x, hx, hd⟩ := flatShip_inv hy
  have hj := (List.getElem?_eq_some_iff.1 hx).1
  have hc := h j x hj hx
  rcases hd with ⟨rfl, rfl⟩ | ⟨rfl, rfl⟩
  · exact hc.1
  · exact hc.2
theorem cellsShip_next {cs : Array Value} {l : List ShipV} {k : Nat} {x : ShipV} (hk : k < l.length) (hs : cs.size = l.length * 2) (hx : l[k]? = some x) (h : ∀ (j : Nat) (x : ShipV), j < k → l[j]? = some x → cs[j * 2]? = some (Value.int .i64 x.arrive) ∧ cs[j * 2 + 1]? = some (Value.int .i64 x.hours)) :
    ∀ (j : Nat) (y : ShipV), j < k + 1 → l[j]? = some y → ((cs.setIfInBounds (k * 2) (Value.int .i64 x.arrive)).setIfInBounds (k * 2 + 1) (Value.int .i64 x.hours))[j * 2]? = some (Value.int .i64 y.arrive) ∧ ((cs.setIfInBounds (k * 2) (Value.int .i64 x.arrive)).setIfInBounds (k * 2 + 1) (Value.int .i64 x.hours))[j * 2 + 1]? = some (Value.int .i64 y.hours) := by
  intro j y hj hy
  by_cases e : j = k
  · subst e
    rw [hx] at hy
    injection hy with hy
    subst hy
    refine ⟨?_, ?_⟩ <;> simp [Array.getElem?_setIfInBounds] <;> omega
  · have := h j y (by omega) hy
    have hne : ∀ a b : Nat, a < 2 → b < 2 → k * 2 + a ≠ j * 2 + b := by intro a b; omega
    refine ⟨?_, ?_⟩ <;> simp only [Array.getElem?_setIfInBounds] <;> (repeat rw [if_neg (by omega)]) <;> simp [this]
set_option maxHeartbeats 800000 in
theorem toShipS_any (A : Option Addr) (l : List ShipV) (c : Nat) (w : World) (ha : RdShip w A l) (hl : l.length ≤ 1048576) :
    Calls Try.prog 15 #[.slice A l.length c] w fun e w' => ∃ A', e = .returned (.slice A' l.length l.length) ∧ Own 41 w' w.heap.size w'.heap.size A' (flatShip l) ∧ Below w.heap.size w w' := by
  obtain ⟨i0, hi, hz0, hz1, hz2⟩ := info_parts info_Ship
  go_enter Try.func15, Try.ntmps15
  go_wp2_with (at_make; refine wpList_make_full _ rfl _ _ 25 rfl w.heap.size 41 i0 (.agg #[.int .i64 0, .int .i64 0]) 2 Try.underlying25 hi hz0 hz1 .i64 .i64 _ _ l.length rfl rfl rfl rfl ?c1 ?c2 (Nat.le_refl _) ?_)
  case c1 => rw [hz2]; omega
  case c2 => unfold maxLen; omega
  intro w1 hrow hg1
  obtain ⟨cs0, hb0, hcs0⟩ := blk_of_full hrow rfl
  have H0 : Hid (cs0.size = l.length * 2) := by
    have h := congrArg List.length hcs0
    simp [size_madeCells] at h
    exact h
  have hb1 := below_grown hg1
  clear hrow hg1 hcs0 hz0 hz1 hz2 hi
  go_wp2
  go_loopw [4] (fun i wr => ∃ (k : Nat) (cs : Array Value), k ≤ l.length ∧ i = .int .i64 k ∧ Blk wr w.heap.size 41 cs ∧ Hid (cs.size = l.length * 2) ∧ Hid (∀ (j : Nat) (x : ShipV), j < k → l[j]? = some x → cs[j * 2]? = some (Value.int .i64 x.arrive) ∧ cs[j * 2 + 1]? = some (Value.int .i64 x.hours)) ∧ Below w.heap.size w wr) (fun i _ => l.length - (intOf i).toNat)
  case atStart => exact ⟨0, cs0, by omega, rfl, hb0, H0, (fun j x hj => absurd hj (by omega)), hb1⟩
  case round =>
    obtain ⟨k, cs, hk, rfl, hblk, Hs, Hc, hbw⟩ := hrel
    by_cases hlt : k < l.length
    · obtain ⟨b, off, x, rfl, hbx, Hx, hx0, hx1⟩ := (ha.below hbw).at_ hlt
      have q0 : (0 : Int) ≤ (k : Int) := by omega
      have q1 : (k : Int) < (l.length : Int) := by omega
      have hwl := hblk.lt
      go_wp2_with fail
      refine (toShip_any x.arrive x.hours _).mono ?_
      rintro e w2 ⟨rfl, hb2⟩
      have hblk2 := hblk.below hb2 hwl
      have hss := Hs.out
      obtain ⟨u0, hu0⟩ : ∃ u, cs[k * 2]? = some u := ⟨_, Array.getElem?_eq_getElem (by omega)⟩
      have hc20 : _ := (hblk2.cell (k * 2)).trans hu0
      have hf20 := hblk2.frozen (k * 2)
      clear hu0
      obtain ⟨u1, hu1⟩ : ∃ u, cs[k * 2 + 1]? = some u := ⟨_, Array.getElem?_eq_getElem (by omega)⟩
      have hc21 : _ := (hblk2.cell (k * 2 + 1)).trans hu1
      have hf21 := hblk2.frozen (k * 2 + 1)
      clear hu1
      clear hss
      go_wp2_with fail
      exact ⟨⟨k + 1, _, by omega, by go_num, ((hblk2.set_ (k * 2) _).set_ (k * 2 + 1) _), by have h := Hs.out; show _ = _; simpa using h, cellsShip_next hlt Hs.out Hx.out Hc.out, (((hbw.trans (hb2.mono hbw.size)).setCell (Nat.le_refl _) _).setCell (Nat.le_refl _) _)⟩, by simp [intOf]; omega⟩
    · go_wp2
      go_ret
      exact ⟨_, rfl, Own.of_blk hblk (Nat.le_refl _) hblk.lt (cellsShip_own (fun j x hj hx => Hc.out j x (by omega) hx)), hbw⟩
end Go.Proofs.Ytjbocijckoaekaa
