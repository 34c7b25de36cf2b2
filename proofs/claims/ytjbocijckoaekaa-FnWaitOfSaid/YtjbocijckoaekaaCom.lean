/- What the small helpers of the program and of the statements compute: the range tests, and the lists of numbers that are copied and compared. -/
import Derived.Test.YtjbocijckoaekaaRows
import Derived.Test.YtjbocijckoaekaaBase
namespace Go.Proofs.Ytjbocijckoaekaa
open Go.RowKit
set_option linter.unusedVariables false

set_option maxHeartbeats 400000 in
theorem within_any (n lo hi : Int) (w : World) :
    Calls Try.prog 40 #[.int .i64 n, .int .i64 lo, .int .i64 hi] w fun e w' => e = .returned (.bool (decide (lo ≤ n ∧ n ≤ hi))) ∧ w = w' := by
  go_enter Try.func40, Try.ntmps40
  go_wp2
  · go_ret
    exact ⟨ret_bool (by simp_all), rfl⟩
  · go_ret
    exact ⟨ret_bool (by simp; omega), rfl⟩
set_option maxHeartbeats 400000 in
theorem l1In_any (n lo hi : Int) (w : World) :
    Calls Try.prog 38 #[.int .i64 n, .int .i64 lo, .int .i64 hi] w fun e w' => e = .returned (.bool (decide (lo ≤ n ∧ n ≤ hi))) ∧ w = w' := by
  go_enter Try.func38, Try.ntmps38
  go_wp2
  · go_ret
    exact ⟨ret_bool (by simp_all), rfl⟩
  · go_ret
    exact ⟨ret_bool (by simp; omega), rfl⟩

theorem within_t (n lo hi : Int) (w : World) (h : lo ≤ n ∧ n ≤ hi) : Calls Try.prog 40 #[.int .i64 n, .int .i64 lo, .int .i64 hi] w fun e w' => e = .returned (.bool true) ∧ w = w' :=
  (within_any n lo hi w).mono fun _ _ ⟨he, hw⟩ => ⟨he.trans (ret_bool (by simp [h])), hw⟩
theorem within_f (n lo hi : Int) (w : World) (h : ¬ (lo ≤ n ∧ n ≤ hi)) : Calls Try.prog 40 #[.int .i64 n, .int .i64 lo, .int .i64 hi] w fun e w' => e = .returned (.bool false) ∧ w = w' :=
  (within_any n lo hi w).mono fun _ _ ⟨he, hw⟩ => ⟨he.trans (ret_bool (by simp; omega)), hw⟩
theorem l1In_t (n lo hi : Int) (w : World) (h : lo ≤ n ∧ n ≤ hi) : Calls Try.prog 38 #[.int .i64 n, .int .i64 lo, .int .i64 hi] w fun e w' => e = .returned (.bool true) ∧ w = w' :=
  (l1In_any n lo hi w).mono fun _ _ ⟨he, hw⟩ => ⟨he.trans (ret_bool (by simp [h])), hw⟩
theorem l1In_f (n lo hi : Int) (w : World) (h : ¬ (lo ≤ n ∧ n ≤ hi)) : Calls Try.prog 38 #[.int .i64 n, .int .i64 lo, .int .i64 hi] w fun e w' => e = .returned (.bool false) ∧ w = w' :=
  (l1In_any n lo hi w).mono fun _ _ ⟨he, hw⟩ => ⟨he.trans (ret_bool (by simp; omega)), hw⟩

set_option maxHeartbeats 400000 in
theorem eqIntS_any (A B : Option Addr) (l m : List Int) (c d : Nat) (w : World) (ha : Rd w A l) (hb : Rd w B m) (hl : l.length ≤ 1048576) (hm : m.length ≤ 1048576) :
    Calls Try.prog 21 #[.slice A l.length c, .slice B m.length d] w fun e w' => e = .returned (.bool (decide (l = m))) ∧ ∃ n, w' = w.drewN n := by
  by_cases h : l.length = m.length
  · go_enter Try.func21, Try.ntmps21
    have H := Lib.hid h
    have h1 : ((l.length : Int) != (m.length : Int)) = false := by simp [h]
    clear h
    go_wp2
    go_loopw [5] (fun i wr => ∃ k n : Nat, k ≤ l.length ∧ i = .int .i64 k ∧ wr = w.drewN n ∧ Hid (l.take k = m.take k)) (fun i _ => l.length - (intOf i).toNat)
    case atStart => exact ⟨0, 0, by omega, rfl, rfl, rfl⟩
    case round =>
      obtain ⟨k, n, hk, rfl, rfl, Hk⟩ := hrel
      by_cases hlt : k < l.length
      · obtain ⟨b, off, x, rfl, hbx, Hx, hcx⟩ := ha.at_ hlt
        obtain ⟨b', off', y, rfl, hby, Hy, hcy⟩ := hb.at_ (k := k) (by have := H.out; omega)
        have hkm : k < m.length := by have := H.out; omega
        by_cases hxy : x = y
        · have h2 : (x != y) = false := by simp [hxy]
          have Hxy := Lib.hid hxy
          clear hxy
          go_wp2
          go_quiet (fail)
          go_wp2
          exact ⟨⟨k + 1, _, by omega, by go_num, rfl, take_eq_next Hx.out (by rw [Hxy.out]; exact Hy.out) Hk.out⟩, by simp [intOf]; omega⟩
        · have h2 : (x != y) = true := by simp [hxy]
          go_wp2
          go_quiet (fail)
          go_wp2
          go_ret
          exact ⟨ret_bool (by simp; exact ne_of_at Hx.out Hy.out hxy), _, World.drewN_drewN _ _ _⟩
      · go_wp2
        go_ret
        exact ⟨ret_bool (by simp; exact eq_of_takes (by omega) (by have := H.out; omega) Hk.out), _, rfl⟩
  · have h1 : ((l.length : Int) != (m.length : Int)) = true := by simp; omega
    go_enter Try.func21, Try.ntmps21
    go_wp2
    go_ret
    exact ⟨ret_bool (by simp; intro e; exact h (by rw [e])), 0, rfl⟩

theorem eqIntS_b (A B : Option Addr) (l m : List Int) (c d : Nat) (w : World) (ha : Rd w A l) (hb : Rd w B m) (hl : l.length ≤ 1048576) (hm : m.length ≤ 1048576) :
    Calls Try.prog 21 #[.slice A l.length c, .slice B m.length d] w fun e w' => e = .returned (.bool (decide (l = m))) ∧ Below w.heap.size w w' :=
  (eqIntS_any A B l m c d w ha hb hl hm).mono fun _ _ ⟨he, n, hw⟩ => ⟨he, by rw [hw]; exact below_draws n⟩
/-- A call hands back a slice in new memory, of m elements whose numbers are fl; v says what stands around it. -/
def Ans (v : Value → Value) (m : Nat) (fl : List Int) (t : TypeId) (w : World) (e : Ending) (w' : World) : Prop :=
  ∃ A c, e = .returned (v (.slice A m c)) ∧ Own t w' w.heap.size w'.heap.size A fl ∧ Below w.heap.size w w'

theorem info_int : (Try.prog.info? 3).map (fun i => (i.zero, i.size, i.bytes)) = some (some (.int .i64 0), 1, 8) := by kernel_rfl

set_option maxHeartbeats 400000 in
theorem toIntS_any (A : Option Addr) (l : List Int) (c : Nat) (w : World) (ha : Rd w A l) (hl : l.length ≤ 1048576) :
    Calls Try.prog 19 #[.slice A l.length c] w fun e w' => ∃ A', e = .returned (.slice A' l.length l.length) ∧ Own 3 w' w.heap.size w'.heap.size A' l ∧ Below w.heap.size w w' := by
  obtain ⟨i0, hi, hz0, hz1, hz2⟩ := info_parts info_int
  go_enter Try.func19, Try.ntmps19
  go_wp2_with (at_make; refine wpList_make_full _ rfl _ _ 29 rfl w.heap.size 3 i0 (.int .i64 0) 1 Try.underlying29 hi hz0 hz1 .i64 .i64 _ _ l.length rfl rfl rfl rfl ?c1 ?c2 (Nat.le_refl _) ?_)
  case c1 => rw [hz2]; omega
  case c2 => unfold maxLen; omega
  intro w1 hrow hg1
  obtain ⟨cs0, hb0, hcs0⟩ := blk_of_full hrow rfl
  have H0 : Hid (cs0.size = l.length) := by
    have h := congrArg List.length hcs0
    simp [size_madeCells] at h
    exact h
  have hb1 := below_grown hg1
  clear hrow hg1 hcs0 hz0 hz1 hz2 hi
  go_wp2
  go_loopw [4] (fun i wr => ∃ (k : Nat) (cs : Array Value), k ≤ l.length ∧ i = .int .i64 k ∧ Blk wr w.heap.size 3 cs ∧ Hid (cs.size = l.length) ∧ Hid (∀ (j : Nat) (x : Int), j < k → l[j]? = some x → cs[j]? = some (Value.int .i64 x)) ∧ Below w.heap.size w wr) (fun i _ => l.length - (intOf i).toNat)
  case atStart => exact ⟨0, cs0, by omega, rfl, hb0, H0, (fun j x hj => absurd hj (by omega)), hb1⟩
  case round =>
    obtain ⟨k, cs, hk, rfl, hblk, Hs, Hc, hbw⟩ := hrel
    by_cases hlt : k < l.length
    · obtain ⟨b, off, x, rfl, hbx, Hx, hcx⟩ := (ha.below hbw).at_ hlt
      have hks : k < cs.size := by have := Hs.out; omega
      have hcell : ∃ u, cs[k]? = some u := ⟨cs[k], by simp [hks]⟩
      obtain ⟨u, hu⟩ := hcell
      have hc2 : _ := (hblk.cell k).trans hu
      have hf2 := hblk.frozen k
      clear hu
      go_wp2
      exact ⟨⟨k + 1, _, by omega, by go_num, hblk.set_ k _, by have h := Hs.out; show _ = _; simpa using h, cells_next hks Hx.out Hc.out, hbw.setCell (Nat.le_refl _) _⟩, by simp [intOf]; omega⟩
    · go_wp2
      go_ret
      exact ⟨_, rfl, Own.of_blk hblk (Nat.le_refl _) hblk.lt (fun j x hj => Hc.out j x (by have := (List.getElem?_eq_some_iff.1 hj).1; omega) hj), hbw⟩
end Go.Proofs.Ytjbocijckoaekaa
