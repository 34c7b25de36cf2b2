/- Lists of Call: marks. -/
import Derived.Test.YtiejkcjbjjnacaaSCall
namespace Go.Proofs.Ytiejkcjbjjnacaa
open Go.RowKit
set_option linter.unusedVariables false
set_option linter.unusedSimpArgs false

set_option maxHeartbeats 800000 in
theorem heldCallS_any (A : Option Addr) (n : Nat) (c : Nat) (k0 : Int) (w : World) (ha : Rd w A (marks (n * 4) k0)) (hl : n ≤ 1048576) (h1 : 0 ≤ k0) (h2 : k0 ≤ 1073741824) :
    Calls Try.prog 32 #[.slice A n c, .int .i64 k0] w fun e w' => e = .returned (.int .i64 (k0 + (n : Int) * 4)) ∧ w = w' := by
  go_enter Try.func32, Try.ntmps32
  go_wp2
  go_loop [1, 5] (fun q i => ∃ k : Nat, k ≤ n ∧ i = .int .i64 k ∧ q = .int .i64 (k0 + (k : Int) * 4)) (fun _ i => n - (intOf i).toNat)
  case atStart => exact ⟨0, by omega, rfl, by simp⟩
  case round =>
    obtain ⟨k, hk, rfl, rfl⟩ := hrel
    by_cases hlt : k < n
    · obtain ⟨b, off, x0, rfl, hb0, Hx0, hc0⟩ := ha.at_ (k := k * 4) (by rw [marks_length]; omega)
      obtain ⟨_, rfl⟩ := marks_at_inv Hx0.out
      obtain ⟨b1, off1, x1, e1, hb1, Hx1, hc1⟩ := ha.at_ (k := k * 4 + 1) (by rw [marks_length]; omega)
      obtain ⟨_, rfl⟩ := marks_at_inv Hx1.out
      injection e1 with e1
      injection e1 with e1a e1b e1c
      subst e1a e1b
      rw [← Nat.add_assoc] at hc1
      obtain ⟨b2, off2, x2, e2, hb2, Hx2, hc2⟩ := ha.at_ (k := k * 4 + 2) (by rw [marks_length]; omega)
      obtain ⟨_, rfl⟩ := marks_at_inv Hx2.out
      injection e2 with e2
      injection e2 with e2a e2b e2c
      subst e2a e2b
      rw [← Nat.add_assoc] at hc2
      obtain ⟨b3, off3, x3, e3, hb3, Hx3, hc3⟩ := ha.at_ (k := k * 4 + 3) (by rw [marks_length]; omega)
      obtain ⟨_, rfl⟩ := marks_at_inv Hx3.out
      injection e3 with e3
      injection e3 with e3a e3b e3c
      subst e3a e3b
      rw [← Nat.add_assoc] at hc3
      rw [show (k0 + ((k * 4 : Nat) : Int)) = k0 + (k : Int) * 4 from by omega] at hc0
      rw [show (k0 + ((k * 4 + 1 : Nat) : Int)) = k0 + (k : Int) * 4 + 1 from by omega] at hc1
      rw [show (k0 + ((k * 4 + 2 : Nat) : Int)) = k0 + (k : Int) * 4 + 2 from by omega] at hc2
      rw [show (k0 + ((k * 4 + 3 : Nat) : Int)) = k0 + (k : Int) * 4 + 3 from by omega] at hc3
      go_wp2
      exact ⟨⟨k + 1, by omega, by go_num, by go_num⟩, by simp [intOf]; omega⟩
    · go_wp2
      go_ret
      exact ⟨ret_int (by omega), rfl⟩
set_option maxHeartbeats 1600000 in
theorem markCallS_any (lo hi : Nat) (A : Option Addr) (m : Nat) (l : List Int) (c : Nat) (k0 : Int) (w : World) (ha : Own 25 w lo hi A l) (hlen : l.length = m * 4) (hl : m ≤ 1048576) (h1 : 0 ≤ k0) (h2 : k0 ≤ 1073741824) :
    Calls Try.prog 31 #[.slice A m c, .int .i64 k0] w fun e w' => e = .returned (.int .i64 (k0 + (m : Int) * 4)) ∧ Own 25 w' lo hi A (marks (m * 4) k0) ∧ Chg lo hi w w' := by
  rcases ha with rfl | ⟨g, cs0, rfl, g1, g2, hb0, hc0⟩
  · obtain rfl : m = 0 := by simp at hlen; omega
    go_enter Try.func31, Try.ntmps31
    go_wp2
    go_loop [1, 5] (fun q i => i = .int .i64 0 ∧ q = .int .i64 k0) (fun _ i => 0)
    case atStart => exact ⟨rfl, rfl⟩
    case round =>
      obtain ⟨rfl, rfl⟩ := hrel
      go_wp2
      go_ret
      exact ⟨ret_int (by simp), Own.nil_, Chg.refl _ _ _⟩
  · have hsz : m * 4 ≤ cs0.size := by
      by_cases h0 : l.length = 0
      · omega
      · have := hc0 (l.length - 1) _ (List.getElem?_eq_getElem (by omega))
        have := (Array.getElem?_eq_some_iff.1 this).1
        omega
    clear hc0 hlen
    go_enter Try.func31, Try.ntmps31
    go_wp2
    go_loopw [1, 5] (fun q i wr => ∃ (k : Nat) (cs : Array Value), k ≤ m ∧ i = .int .i64 k ∧ q = .int .i64 (k0 + (k : Int) * 4) ∧ Blk wr g 25 cs ∧ Hid (cs.size = cs0.size) ∧ Hid (∀ (j : Nat) (x : Int), j < k * 4 → (marks (m * 4) k0)[j]? = some x → cs[j]? = some (Value.int .i64 x)) ∧ Chg lo hi w wr) (fun _ i _ => m - (intOf i).toNat)
    case atStart => exact ⟨0, cs0, by omega, rfl, by simp, hb0, rfl, (fun j x hj => absurd hj (by omega)), Chg.refl _ _ _⟩
    case round =>
      obtain ⟨k, cs, hk, rfl, rfl, hblk, Hs, Hc, hbw⟩ := hrel
      by_cases hlt : k < m
      · have hss := Hs.out
        obtain ⟨u0, hu0⟩ : ∃ u, cs[k * 4]? = some u := ⟨_, Array.getElem?_eq_getElem (by omega)⟩
        have hc20 : _ := (hblk.cell (k * 4)).trans hu0
        have hf20 := hblk.frozen (k * 4)
        clear hu0
        obtain ⟨u1, hu1⟩ : ∃ u, cs[k * 4 + 1]? = some u := ⟨_, Array.getElem?_eq_getElem (by omega)⟩
        have hc21 : _ := (hblk.cell (k * 4 + 1)).trans hu1
        have hf21 := hblk.frozen (k * 4 + 1)
        clear hu1
        obtain ⟨u2, hu2⟩ : ∃ u, cs[k * 4 + 2]? = some u := ⟨_, Array.getElem?_eq_getElem (by omega)⟩
        have hc22 : _ := (hblk.cell (k * 4 + 2)).trans hu2
        have hf22 := hblk.frozen (k * 4 + 2)
        clear hu2
        obtain ⟨u3, hu3⟩ : ∃ u, cs[k * 4 + 3]? = some u := ⟨_, Array.getElem?_eq_getElem (by omega)⟩
        have hc23 : _ := (hblk.cell (k * 4 + 3)).trans hu3
        have hf23 := hblk.frozen (k * 4 + 3)
        clear hu3
        clear hss
        go_wp2
        have hsz2 := Hs.out
        have M0 := marks_next (k := k * 4) (k0 := k0) (n := m * 4) (cs := cs) (by omega) Hc.out
        have M1 := marks_next (k := k * 4 + 1) (k0 := k0) (n := m * 4) (cs := (cs.setIfInBounds (k * 4) (Value.int .i64 (k0 + ((k * 4 : Nat) : Int))))) (by simp; omega) M0
        have M2 := marks_next (k := k * 4 + 2) (k0 := k0) (n := m * 4) (cs := ((cs.setIfInBounds (k * 4) (Value.int .i64 (k0 + ((k * 4 : Nat) : Int)))).setIfInBounds (k * 4 + 1) (Value.int .i64 (k0 + ((k * 4 + 1 : Nat) : Int))))) (by simp; omega) M1
        have M3 := marks_next (k := k * 4 + 3) (k0 := k0) (n := m * 4) (cs := (((cs.setIfInBounds (k * 4) (Value.int .i64 (k0 + ((k * 4 : Nat) : Int)))).setIfInBounds (k * 4 + 1) (Value.int .i64 (k0 + ((k * 4 + 1 : Nat) : Int)))).setIfInBounds (k * 4 + 2) (Value.int .i64 (k0 + ((k * 4 + 2 : Nat) : Int))))) (by simp; omega) M2
        rw [show (k0 + ((k * 4 : Nat) : Int)) = k0 + (k : Int) * 4 from by omega] at M3
        rw [show (k0 + ((k * 4 + 1 : Nat) : Int)) = k0 + (k : Int) * 4 + 1 from by omega] at M3
        rw [show (k0 + ((k * 4 + 2 : Nat) : Int)) = k0 + (k : Int) * 4 + 1 + 1 from by omega] at M3
        rw [show (k0 + ((k * 4 + 3 : Nat) : Int)) = k0 + (k : Int) * 4 + 1 + 1 + 1 from by omega] at M3
        exact ⟨⟨k + 1, _, by omega, by go_num, by go_num, ((((hblk.set_ (k * 4) _).set_ (k * 4 + 1) _).set_ (k * 4 + 2) _).set_ (k * 4 + 3) _), by have h := Hs.out; show _ = _; simpa using h, (by rw [show (k + 1) * 4 = k * 4 + 4 from by omega]; exact M3), ((((hbw.setCell g1 g2 _).setCell g1 g2 _).setCell g1 g2 _).setCell g1 g2 _)⟩, by simp [intOf]; omega⟩
      · go_wp2
        go_ret
        exact ⟨ret_int (by omega), Own.of_blk hblk g1 g2 (fun j x hj => Hc.out j x (by have := (marks_at_inv hj).1; omega) hj), hbw⟩
end Go.Proofs.Ytiejkcjbjjnacaa
