/- Lists of numbers that the statement writes over and reads back. -/
import Derived.Test.YtphncbnnnickhaaCom
namespace Go.Proofs.Ytphncbnnnickhaa
open Go.RowKit
set_option linter.unusedVariables false

/-- n numbers from k on. -/
def marks (n : Nat) (k : Int) : List Int := (List.range n).map fun (i : Nat) => k + (i : Int)
theorem marks_length (n : Nat) (k : Int) : (marks n k).length = n := by simp [marks]
theorem marks_at (n : Nat) (k : Int) (j : Nat) (h : j < n) : (marks n k)[j]? = some (k + j) := by simp [marks, h]
theorem marks_at_inv {n : Nat} {k x : Int} {j : Nat} (h : (marks n k)[j]? = some x) : j < n ∧ x = k + j := by
  have hj : j < n := by have := (List.getElem?_eq_some_iff.1 h).1; simpa [marks] using this
  rw [marks_at n k j hj] at h
  exact ⟨hj, by injection h with h; exact h.symm⟩

set_option maxHeartbeats 400000 in
theorem heldIntS_any (A : Option Addr) (n : Nat) (c : Nat) (k0 : Int) (w : World) (ha : Rd w A (marks n k0)) (hl : n ≤ 1048576) (h1 : 0 ≤ k0) (h2 : k0 ≤ 1073741824) :
    Calls Try.prog 16 #[.slice A n c, .int .i64 k0] w fun e w' => e = .returned (.int .i64 (k0 + n)) ∧ w = w' := by
  go_enter Try.func16, Try.ntmps16
  go_wp2
  go_loop [1, 5] (fun q i => ∃ k : Nat, k ≤ n ∧ i = .int .i64 k ∧ q = .int .i64 (k0 + k)) (fun _ i => n - (intOf i).toNat)
  case atStart => exact ⟨0, by omega, rfl, by simp⟩
  case round =>
    obtain ⟨k, hk, rfl, rfl⟩ := hrel
    by_cases hlt : k < n
    · obtain ⟨b, off, x, rfl, hbx, Hx, hcx⟩ := ha.at_ (k := k) (by rw [marks_length]; exact hlt)
      obtain ⟨_, rfl⟩ := marks_at_inv Hx.out
      go_wp2
      exact ⟨⟨k + 1, by omega, by go_num, by go_num⟩, by simp [intOf]; omega⟩
    · go_wp2
      go_ret
      exact ⟨ret_int (by omega), rfl⟩
theorem marks_next {cs : Array Value} {n k : Nat} {k0 : Int} (hk : k < cs.size) (h : ∀ (j : Nat) (y : Int), j < k → (marks n k0)[j]? = some y → cs[j]? = some (Value.int .i64 y)) :
    ∀ (j : Nat) (y : Int), j < k + 1 → (marks n k0)[j]? = some y → (cs.setIfInBounds k (Value.int .i64 (k0 + k)))[j]? = some (Value.int .i64 y) := by
  by_cases hn : k < n
  · exact cells_next hk (marks_at n k0 k hn) h
  · intro j y hj hy
    obtain ⟨h1, _⟩ := marks_at_inv hy
    rw [Array.getElem?_setIfInBounds_ne (by omega)]
    exact h j y (by omega) hy
set_option maxHeartbeats 400000 in
theorem markIntS_any (lo hi : Nat) (A : Option Addr) (l : List Int) (c : Nat) (k0 : Int) (w : World) (ha : Own 3 w lo hi A l) (hl : l.length ≤ 1048576) (h1 : 0 ≤ k0) (h2 : k0 ≤ 1073741824) :
    Calls Try.prog 15 #[.slice A l.length c, .int .i64 k0] w fun e w' => e = .returned (.int .i64 (k0 + l.length)) ∧ Own 3 w' lo hi A (marks l.length k0) ∧ Chg lo hi w w' := by
  rcases ha with rfl | ⟨g, cs0, rfl, g1, g2, hb0, hc0⟩
  · go_enter Try.func15, Try.ntmps15
    go_wp2
    go_loop [1, 5] (fun q i => i = .int .i64 0 ∧ q = .int .i64 k0) (fun _ i => 0)
    case atStart => exact ⟨rfl, rfl⟩
    case round =>
      obtain ⟨rfl, rfl⟩ := hrel
      go_wp2
      go_ret
      exact ⟨ret_int (by simp), Own.nil_, Chg.refl _ _ _⟩
  · have hsz : l.length ≤ cs0.size := by
      by_cases h0 : l.length = 0
      · omega
      · have := hc0 (l.length - 1) _ (List.getElem?_eq_getElem (by omega))
        have := (Array.getElem?_eq_some_iff.1 this).1
        omega
    go_enter Try.func15, Try.ntmps15
    go_wp2
    go_loopw [1, 5] (fun q i wr => ∃ (k : Nat) (cs : Array Value), k ≤ l.length ∧ i = .int .i64 k ∧ q = .int .i64 (k0 + k) ∧ Blk wr g 3 cs ∧ Hid (cs.size = cs0.size) ∧ Hid (∀ (j : Nat) (x : Int), j < k → (marks l.length k0)[j]? = some x → cs[j]? = some (Value.int .i64 x)) ∧ Chg lo hi w wr) (fun _ i _ => l.length - (intOf i).toNat)
    case atStart => exact ⟨0, cs0, by omega, rfl, by simp, hb0, rfl, (fun j x hj => absurd hj (by omega)), Chg.refl _ _ _⟩
    case round =>
      obtain ⟨k, cs, hk, rfl, rfl, hblk, Hs, Hc, hbw⟩ := hrel
      by_cases hlt : k < l.length
      · have hks : k < cs.size := by have := Hs.out; omega
        obtain ⟨u, hu⟩ : ∃ u, cs[k]? = some u := ⟨cs[k], by simp [hks]⟩
        have hc2 : _ := (hblk.cell k).trans hu
        have hf2 := hblk.frozen k
        clear hu
        go_wp2
        exact ⟨⟨k + 1, _, by omega, by go_num, by go_num, hblk.set_ k _, by have h := Hs.out; show _ = _; simpa using h, marks_next hks Hc.out, hbw.setCell g1 g2 _⟩, by simp [intOf]; omega⟩
      · go_wp2
        go_ret
        exact ⟨ret_int (by omega), Own.of_blk hblk g1 g2 (fun j x hj => Hc.out j x (by have := (marks_at_inv hj).1; omega) hj), hbw⟩
end Go.Proofs.Ytphncbnnnickhaa
