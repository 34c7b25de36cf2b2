/- Lists of Box: marks. -/
import Derived.Test.YtphncbnnnickhaaSBox
namespace Go.Proofs.Ytphncbnnnickhaa
open Go.RowKit
set_option linter.unusedVariables false
set_option linter.unusedSimpArgs false

set_option maxHeartbeats 1600000 in
theorem markBoxS_any (lo hi : Nat) (A : Option Addr) (m : Nat) (l : List Value) (c : Nat) (k0 : Int) (w : World) (ha : OwnV 45 w lo hi A l) (hlen : l.length = m * 5) (hl : m ≤ 1048576) (h1 : 0 ≤ k0) (h2 : k0 ≤ 1073741824) :
    Calls Try.prog 14 #[.slice A m c, .int .i64 k0] w fun e w' => e = .returned (.int .i64 (k0 + (m : Int) * 5)) ∧ Chg lo hi w w' := by
  rcases ha with rfl | ⟨g, cs0, rfl, g1, g2, hb0, hc0⟩
  · obtain rfl : m = 0 := by simp at hlen; omega
    go_enter Try.func14, Try.ntmps14
    go_wp2
    go_loop [1, 5] (fun q i => i = .int .i64 0 ∧ q = .int .i64 k0) (fun _ i => 0)
    case atStart => exact ⟨rfl, rfl⟩
    case round =>
      obtain ⟨rfl, rfl⟩ := hrel
      go_wp2
      go_ret
      exact ⟨ret_int (by simp), Chg.refl _ _ _⟩
  · have hsz : m * 5 ≤ cs0.size := by
      by_cases h0 : l.length = 0
      · omega
      · have := hc0 (l.length - 1) _ (List.getElem?_eq_getElem (by omega))
        have := (Array.getElem?_eq_some_iff.1 this).1
        omega
    clear hc0 hlen
    go_enter Try.func14, Try.ntmps14
    go_wp2
    go_loopw [1, 5] (fun q i wr => ∃ (k : Nat) (cs : Array Value), k ≤ m ∧ i = .int .i64 k ∧ q = .int .i64 (k0 + (k : Int) * 5) ∧ Blk wr g 45 cs ∧ Hid (cs.size = cs0.size) ∧ Chg lo hi w wr) (fun _ i _ => m - (intOf i).toNat)
    case atStart => exact ⟨0, cs0, by omega, rfl, by simp, hb0, rfl, Chg.refl _ _ _⟩
    case round =>
      obtain ⟨k, cs, hk, rfl, rfl, hblk, Hs, hbw⟩ := hrel
      by_cases hlt : k < m
      · have hss := Hs.out
        obtain ⟨u0, hu0⟩ : ∃ u, cs[k * 5]? = some u := ⟨_, Array.getElem?_eq_getElem (by omega)⟩
        have hc20 : _ := (hblk.cell (k * 5)).trans hu0
        have hf20 := hblk.frozen (k * 5)
        clear hu0
        obtain ⟨u1, hu1⟩ : ∃ u, cs[k * 5 + 1]? = some u := ⟨_, Array.getElem?_eq_getElem (by omega)⟩
        have hc21 : _ := (hblk.cell (k * 5 + 1)).trans hu1
        have hf21 := hblk.frozen (k * 5 + 1)
        clear hu1
        obtain ⟨u2, hu2⟩ : ∃ u, cs[k * 5 + 2]? = some u := ⟨_, Array.getElem?_eq_getElem (by omega)⟩
        have hc22 : _ := (hblk.cell (k * 5 + 2)).trans hu2
        have hf22 := hblk.frozen (k * 5 + 2)
        clear hu2
        obtain ⟨u3, hu3⟩ : ∃ u, cs[k * 5 + 3]? = some u := ⟨_, Array.getElem?_eq_getElem (by omega)⟩
        have hc23 : _ := (hblk.cell (k * 5 + 3)).trans hu3
        have hf23 := hblk.frozen (k * 5 + 3)
        clear hu3
        obtain ⟨u4, hu4⟩ : ∃ u, cs[k * 5 + 4]? = some u := ⟨_, Array.getElem?_eq_getElem (by omega)⟩
        have hc24 : _ := (hblk.cell (k * 5 + 4)).trans hu4
        have hf24 := hblk.frozen (k * 5 + 4)
        clear hu4
        clear hss
        go_wp2
        exact ⟨⟨k + 1, _, by omega, by go_num, by go_num, (((((hblk.set_ (k * 5) _).set_ (k * 5 + 1) _).set_ (k * 5 + 2) _).set_ (k * 5 + 3) _).set_ (k * 5 + 4) _), by have h := Hs.out; show _ = _; simpa using h, (((((hbw.setCell g1 g2 _).setCell g1 g2 _).setCell g1 g2 _).setCell g1 g2 _).setCell g1 g2 _)⟩, by simp [intOf]; omega⟩
      · go_wp2
        go_ret
        exact ⟨ret_int (by omega), hbw⟩
end Go.Proofs.Ytphncbnnnickhaa
