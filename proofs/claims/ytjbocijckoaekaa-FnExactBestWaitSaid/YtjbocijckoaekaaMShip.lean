/- Lists of Ship: marks. -/
import Derived.Test.YtjbocijckoaekaaSShip
namespace Go.Proofs.Ytjbocijckoaekaa
open Go.RowKit
set_option linter.unusedVariables false
set_option linter.unusedSimpArgs false

set_option maxHeartbeats 1600000 in
theorem markShipS_any (lo hi : Nat) (A : Option Addr) (m : Nat) (l : List Int) (c : Nat) (k0 : Int) (w : World) (ha : Own 41 w lo hi A l) (hlen : l.length = m * 2) (hl : m ≤ 1048576) (h1 : 0 ≤ k0) (h2 : k0 ≤ 1073741824) :
    Calls Try.prog 22 #[.slice A m c, .int .i64 k0] w fun e w' => e = .returned (.int .i64 (k0 + (m : Int) * 2)) ∧ Own 41 w' lo hi A (marks (m * 2) k0) ∧ Chg lo hi w w' := by
  rcases ha with rfl | ⟨g, cs0, rfl, g1, g2, hb0, hc0⟩
  · obtain rfl : m = 0 := by simp at hlen; omega
    go_enter Try.func22, Try.ntmps22
    go_wp2
    go_loop [1, 5] (fun q i => i = .int .i64 0 ∧ q = .int .i64 k0) (fun _ i => 0)
    case atStart => exact ⟨rfl, rfl⟩
    case round =>
      obtain ⟨rfl, rfl⟩ := hrel
      go_wp2
      go_ret
      exact ⟨ret_int (by simp), Own.nil_, Chg.refl _ _ _⟩
  · have hsz : m * 2 ≤ cs0.size := by
      by_cases h0 : l.length = 0
      · omega
      · have := hc0 (l.length - 1) _ (List.getElem?_eq_getElem (by omega))
        have := (Array.getElem?_eq_some_iff.1 this).1
        omega
    clear hc0 hlen
    go_enter Try.func22, Try.ntmps22
    go_wp2
    go_loopw [1, 5] (fun q i wr => ∃ (k : Nat) (cs : Array Value), k ≤ m ∧ i = .int .i64 k ∧ q = .int .i64 (k0 + (k : Int) * 2) ∧ Blk wr g 41 cs ∧ Hid (cs.size = cs0.size) ∧ Hid (∀ (j : Nat) (x : Int), j < k * 2 → (marks (m * 2) k0)[j]? = some x → cs[j]? = some (Value.int .i64 x)) ∧ Chg lo hi w wr) (fun _ i _ => m - (intOf i).toNat)
    case atStart => exact ⟨0, cs0, by omega, rfl, by simp, hb0, rfl, (fun j x hj => absurd hj (by omega)), Chg.refl _ _ _⟩
    case round =>
      obtain ⟨k, cs, hk, rfl, rfl, hblk, Hs, Hc, hbw⟩ := hrel
      by_cases hlt : k < m
      · have hss := Hs.out
        obtain ⟨u0, hu0⟩ : ∃ u, cs[k * 2]? = some u := ⟨_, Array.getElem?_eq_getElem (by omega)⟩
        have hc20 : _ := (hblk.cell (k * 2)).trans hu0
        have hf20 := hblk.frozen (k * 2)
        clear hu0
        obtain ⟨u1, hu1⟩ : ∃ u, cs[k * 2 + 1]? = some u := ⟨_, Array.getElem?_eq_getElem (by omega)⟩
        have hc21 : _ := (hblk.cell (k * 2 + 1)).trans hu1
        have hf21 := hblk.frozen (k * 2 + 1)
        clear hu1
        clear hss
        go_wp2
        have hsz2 := Hs.out
        have M0 := marks_next (k := k * 2) (k0 := k0) (n := m * 2) (cs := cs) (by omega) Hc.out
        have M1 := marks_next (k := k * 2 + 1) (k0 := k0) (n := m * 2) (cs := (cs.setIfInBounds (k * 2) (Value.int .i64 (k0 + ((k * 2 : Nat) : Int))))) (by simp; omega) M0
        rw [show (k0 + ((k * 2 : Nat) : Int)) = k0 + (k : Int) * 2 from by omega] at M1
        rw [show (k0 + ((k * 2 + 1 : Nat) : Int)) = k0 + (k : Int) * 2 + 1 from by omega] at M1
        exact ⟨⟨k + 1, _, by omega, by go_num, by go_num, ((hblk.set_ (k * 2) _).set_ (k * 2 + 1) _), by have h := Hs.out; show _ = _; simpa using h, (by rw [show (k + 1) * 2 = k * 2 + 2 from by omega]; exact M1), ((hbw.setCell g1 g2 _).setCell g1 g2 _)⟩, by simp [intOf]; omega⟩
      · go_wp2
        go_ret
        exact ⟨ret_int (by omega), Own.of_blk hblk g1 g2 (fun j x hj => Hc.out j x (by have := (marks_at_inv hj).1; omega) hj), hbw⟩
end Go.Proofs.Ytjbocijckoaekaa
