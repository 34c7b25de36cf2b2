/- nextCuts in place. -/
import Derived.Test.YtoopmikcehmpdaaShareBest
namespace Go.Proofs.Ytoopmikcehmpdaa
open Go.RowKit
set_option linter.unusedVariables false
set_option linter.unusedSimpArgs false

theorem bump_length (l : List Int) (i : Nat) (h : i ≤ l.length) : (bump l i).length = l.length := by simp [bump]; omega
theorem bump_low {l : List Int} {i j : Nat} (hi : i ≤ l.length) (h : j < i) : (bump l i)[j]? = l[j]? := by
  unfold bump; rw [List.getElem?_append_left (by simp; omega)]; simp [h]
theorem bump_high {l : List Int} {i j : Nat} {x : Int} (hx : l[i]? = some x) (h : i ≤ j) (hj : j < l.length) : (bump l i)[j]? = some (x + 1) := by
  have hi : i < l.length := (List.getElem?_eq_some_iff.1 hx).1
  unfold bump; rw [List.getElem?_append_right (by simp; omega)]
  simp only [List.length_take, Nat.min_eq_left (Nat.le_of_lt hi)]
  rw [List.getElem?_replicate, if_pos (by omega), List.getD_eq_getElem?_getD, hx]; rfl
theorem bump_next {cs : Array Value} {l : List Int} {i k : Nat} {x : Int} (hx : l[i]? = some x) (hik : i ≤ k) (hk : k < cs.size) (hkl : k < l.length) (h : ∀ (j : Nat) (y : Int), j < k → (bump l i)[j]? = some y → cs[j]? = some (Value.int .i64 y)) :
    ∀ (j : Nat) (y : Int), j < k + 1 → (bump l i)[j]? = some y → (cs.setIfInBounds k (Value.int .i64 (x + 1)))[j]? = some (Value.int .i64 y) :=
  cells_next hk (bump_high hx hik hkl) h

set_option maxHeartbeats 800000 in
theorem nextCuts_any (lo hi : Nat) (A : Option Addr) (l : List Int) (c n : Nat) (w : World) (ha : Own 3 w lo hi A l) (hl : l.length ≤ 1048576) (hn : n ≤ 1048576) (hv : ∀ x ∈ l, 0 ≤ x ∧ x ≤ n) :
    Calls Try.prog 36 #[.slice A l.length c, .int .i64 n] w fun e w' => e = .returned (.bool (nextL n l).isSome) ∧ Own 3 w' lo hi A ((nextL n l).getD l) ∧ Chg lo hi w w' := by
  have hr := ha.rd
  obtain ⟨N, HN⟩ : ∃ N, Hid (nextL n l = N) := ⟨_, rfl⟩
  rw [HN.out]
  have HV := Lib.hid hv
  go_enter Try.func36, Try.ntmps36
  go_wp2_with fail
  go_loop [5] (fun i => ∃ m : Nat, m ≤ l.length ∧ i = .int .i64 ((m : Int) - 1) ∧ Hid (nextAt n l m = N)) (fun i => (intOf i + 1).toNat)
  case atStart => exact ⟨l.length, by omega, by go_num, HN⟩
  case round =>
    obtain ⟨m, hm, rfl, HM⟩ := hrel
    rcases Nat.eq_zero_or_pos m with rfl | hpos
    · have HZ : Hid (N = none) := HM.out.symm
      clear HM HN
      go_wp2_with fail
      go_ret
      exact ⟨ret_bool (by rw [HZ.out]; rfl), by rw [HZ.out]; exact ha, Chg.refl _ _ _⟩
    · obtain ⟨i, rfl⟩ : ∃ i, m = i + 1 := ⟨m - 1, by omega⟩
      obtain ⟨b, off, x, rfl, _, Hx, hcx⟩ := hr.at_ (k := i) (by omega)
      have hxb := HV.out x (List.mem_of_getElem? Hx.out)
      have h1 : ((i + 1 : Nat) : Int) - 1 = (i : Int) := by omega
      rw [h1]
      by_cases hlt : x < n
      · have HB : Hid (N = some (bump l i)) := by
          rw [← HM.out]; show _ = _
          unfold nextAt; rw [List.getD_eq_getElem?_getD, Hx.out]; simp [hlt]
        clear HM HN
        rcases ha with h0 | ⟨g, cs0, e, g1, g2, hb0, hc0⟩
        · rw [h0] at hm; simp at hm
        injection e with e
        injection e with e1 e2 e3
        subst e1 e2
        rw [Nat.zero_add] at hcx
        have hsz : l.length ≤ cs0.size := by
          have := hc0 (l.length - 1) _ (List.getElem?_eq_getElem (by omega))
          have := (Array.getElem?_eq_some_iff.1 this).1
          omega
        have HC0 := Lib.hid hc0
        clear hc0
        go_wp2_with fail
        go_loopw [7] (fun q wr => ∃ (k : Nat) (cs : Array Value), i ≤ k ∧ k ≤ l.length ∧ q = .int .i64 k ∧ Blk wr b 3 cs ∧ Hid (cs.size = cs0.size) ∧ Hid (∀ (j : Nat) (y : Int), j < k → (bump l i)[j]? = some y → cs[j]? = some (Value.int .i64 y)) ∧ Chg lo hi w wr) (fun q _ => l.length - (intOf q).toNat)
        case atStart => exact ⟨i, cs0, Nat.le_refl _, by omega, rfl, hb0, rfl, (fun j y hj hy => HC0.out j y (by rw [bump_low (by omega) hj] at hy; exact hy)), Chg.refl _ _ _⟩
        case round =>
          obtain ⟨k, cs, hik, hk, rfl, hblk, Hs, Hc, hbw⟩ := hrel
          by_cases hkl : k < l.length
          · have hks : k < cs.size := by have := Hs.out; omega
            obtain ⟨u, hu⟩ : ∃ u, cs[k]? = some u := ⟨cs[k], by simp [hks]⟩
            have hc2 : _ := (hblk.cell k).trans hu
            have hf2 := hblk.frozen k
            clear hu
            go_wp2_with fail
            exact ⟨⟨k + 1, _, by omega, by omega, by go_num, hblk.set_ k _, by have h := Hs.out; show _ = _; simpa using h, bump_next Hx.out hik hks hkl Hc.out, hbw.setCell g1 g2 _⟩, by simp [intOf]; omega⟩
          · go_wp2_with fail
            go_ret
            exact ⟨ret_bool (by rw [HB.out]; rfl), by rw [HB.out]; show Own _ _ _ _ _ (bump l i); exact Own.of_blk hblk g1 g2 (fun j y hj => Hc.out j y (by have := (List.getElem?_eq_some_iff.1 hj).1; rw [bump_length l i (by omega)] at this; omega) hj), hbw⟩
      · have HB : Hid (nextAt n l i = N) := by
          have h := HM.out
          unfold nextAt at h; rw [List.getD_eq_getElem?_getD, Hx.out] at h
          show nextAt n l i = N
          simpa [hlt] using h
        clear HM
        go_wp2_with fail
        exact ⟨⟨i, by omega, by go_num, HB⟩, by simp [intOf]⟩
end Go.Proofs.Ytoopmikcehmpdaa
