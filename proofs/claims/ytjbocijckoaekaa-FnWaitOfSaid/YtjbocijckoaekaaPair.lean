/- Valid lists of Ships: law and walks; orders of indices. -/
import Derived.Test.YtjbocijckoaekaaSShip
import Derived.Deep.LoopGhost
import Derived.Deep.RegionHeld3
namespace Go.Proofs.Ytjbocijckoaekaa
open Go.RowKit
set_option linter.unusedVariables false
set_option linter.unusedSimpArgs false

def oneV (x : ShipV) : Prop := (0 ≤ x.arrive ∧ x.arrive ≤ 999) ∧ (1 ≤ x.hours ∧ x.hours ≤ 99)
instance (x : ShipV) : Decidable (oneV x) := by unfold oneV; infer_instance
def listV (l : List ShipV) : Bool := decide ((∀ x ∈ l, oneV x) ∧ l.length ≤ 5)
theorem listV_spec {l : List ShipV} (h : listV l = true) : (∀ x ∈ l, oneV x) ∧ l.length ≤ 5 := by simpa [listV] using h
theorem listV_yes {l : List ShipV} (h : ∀ x ∈ l, oneV x) : listV l = decide (l.length ≤ 5) := by
  rw [Bool.eq_iff_iff]; simp only [listV, decide_eq_true_eq]; exact ⟨fun a => a.2, fun a => ⟨h, a⟩⟩
theorem listV_no {l : List ShipV} {x : ShipV} (hx : x ∈ l) (h : ¬ oneV x) : listV l = false := by
  rw [Bool.eq_false_iff]; intro a; exact h ((listV_spec a).1 x hx)

set_option maxHeartbeats 800000 in
theorem lv_impl (A : Option Addr) (l : List ShipV) (c : Nat) (w : World) (ha : RdShip w A l) (hl : l.length ≤ 1048576) :
    Calls Try.prog 16 #[.slice A l.length c] w fun e w' => e = .returned (.bool (listV l)) ∧ Below w.heap.size w w' := by
  go_enter Try.func16, Try.ntmps16
  go_wp2_with fail
  go_loopw [7] (fun i wr => ∃ k : Nat, k ≤ l.length ∧ i = .int .i64 k ∧ Hid (∀ y ∈ l.take k, oneV y) ∧ Below w.heap.size w wr) (fun i _ => l.length - (intOf i).toNat)
  case atStart => exact ⟨0, by omega, rfl, by intro y hy; simp at hy, Below.refl _ _⟩
  case round =>
    obtain ⟨k, hk, rfl, Hk, hbw⟩ := hrel
    by_cases hlt : k < l.length
    · obtain ⟨b, off, x, rfl, hbx, Hx, hx0, hx1⟩ := (ha.below hbw).at_ (k := k) (by omega)
      have q0 : (0 : Int) ≤ (k : Int) := by omega
      have q1 : (k : Int) < (l.length : Int) := by omega
      have HBW := Lib.hid (hbw.alloc hbw.size (.cells #[.int .i64 x.arrive, .int .i64 x.hours] 41))
      by_cases h0 : 0 ≤ x.arrive ∧ x.arrive ≤ 999
      · by_cases h1 : 1 ≤ x.hours ∧ x.hours ≤ 99
        · have HN := Lib.hid (all_next (P := oneV) Hk.out Hx.out ⟨h0, h1⟩)
          have T0 := Lib.hid (fun W => within_t _ _ _ W h0)
          have T1 := Lib.hid (fun W => within_t _ _ _ W h1)
          clear h0 h1
          go_wp2_with fail
          refine (T0.out _).mono ?_
          rintro e w' ⟨rfl, rfl⟩
          go_wp2_with fail
          refine (T1.out _).mono ?_
          rintro e w' ⟨rfl, rfl⟩
          go_wp2_with fail
          exact ⟨⟨k + 1, by omega, by go_num, HN.out, HBW.out⟩, by simp [intOf]; omega⟩
        · have HO := Lib.hid (listV_no (mem_at Hx.out) (fun a => h1 a.2))
          have T0 := Lib.hid (fun W => within_t _ _ _ W h0)
          have T1 := Lib.hid (fun W => within_f _ _ _ W h1)
          clear h0 h1
          go_wp2_with fail
          refine (T0.out _).mono ?_
          rintro e w' ⟨rfl, rfl⟩
          go_wp2_with fail
          refine (T1.out _).mono ?_
          rintro e w' ⟨rfl, rfl⟩
          go_wp2_with fail
          go_ret
          exact ⟨ret_bool HO.out.symm, HBW.out⟩
      · have HO := Lib.hid (listV_no (mem_at Hx.out) (fun a => h0 a.1))
        have T0 := Lib.hid (fun W => within_f _ _ _ W h0)
        clear h0
        go_wp2_with fail
        refine (T0.out _).mono ?_
        rintro e w' ⟨rfl, rfl⟩
        go_wp2_with fail
        go_ret
        exact ⟨ret_bool HO.out.symm, HBW.out⟩
    · have HA := Lib.hid (listV_yes (all_end Hk.out (by omega)))
      go_wp2_with fail
      go_ret
      exact ⟨ret_bool (by rw [HA.out, Bool.eq_iff_iff]; simp; omega), hbw⟩

set_option maxHeartbeats 800000 in
theorem lv_spec (A : Option Addr) (l : List ShipV) (c : Nat) (w : World) (ha : RdShip w A l) (hl : l.length ≤ 1048576) :
    Calls Try.prog 14 #[.slice A l.length c] w fun e w' => e = .returned (.bool (listV l)) ∧ w = w' := by
  go_enter Try.func14, Try.ntmps14
  go_wp2_with fail
  go_loop [3] (fun i => ∃ k : Nat, k ≤ l.length ∧ i = .int .i64 k ∧ Hid (∀ y ∈ l.take k, oneV y)) (fun i => l.length - (intOf i).toNat)
  case atStart => exact ⟨0, by omega, rfl, by intro y hy; simp at hy⟩
  case round =>
    obtain ⟨k, hk, rfl, Hk⟩ := hrel
    by_cases hlt : k < l.length
    · obtain ⟨b, off, x, rfl, hbx, Hx, hx0, hx1⟩ := ha.at_ (k := k) (by omega)
      have q0 : (0 : Int) ≤ (k : Int) := by omega
      have q1 : (k : Int) < (l.length : Int) := by omega
      by_cases h0 : 0 ≤ x.arrive ∧ x.arrive ≤ 999
      · by_cases h1 : 1 ≤ x.hours ∧ x.hours ≤ 99
        · have HN := Lib.hid (all_next (P := oneV) Hk.out Hx.out ⟨h0, h1⟩)
          have T0 := Lib.hid (fun W => l1In_t _ _ _ W h0)
          have T1 := Lib.hid (fun W => l1In_t _ _ _ W h1)
          clear h0 h1
          go_wp2_with fail
          refine (T0.out _).mono ?_
          rintro e w' ⟨rfl, rfl⟩
          go_wp2_with fail
          refine (T1.out _).mono ?_
          rintro e w' ⟨rfl, rfl⟩
          go_wp2_with fail
          exact ⟨⟨k + 1, by omega, by go_num, HN.out⟩, by simp [intOf]; omega⟩
        · have HO := Lib.hid (listV_no (mem_at Hx.out) (fun a => h1 a.2))
          have T0 := Lib.hid (fun W => l1In_t _ _ _ W h0)
          have T1 := Lib.hid (fun W => l1In_f _ _ _ W h1)
          clear h0 h1
          go_wp2_with fail
          refine (T0.out _).mono ?_
          rintro e w' ⟨rfl, rfl⟩
          go_wp2_with fail
          refine (T1.out _).mono ?_
          rintro e w' ⟨rfl, rfl⟩
          go_wp2_with fail
          go_ret
          exact ⟨ret_bool HO.out.symm, rfl⟩
      · have HO := Lib.hid (listV_no (mem_at Hx.out) (fun a => h0 a.1))
        have T0 := Lib.hid (fun W => l1In_f _ _ _ W h0)
        clear h0
        go_wp2_with fail
        refine (T0.out _).mono ?_
        rintro e w' ⟨rfl, rfl⟩
        go_wp2_with fail
        go_ret
        exact ⟨ret_bool HO.out.symm, rfl⟩
    · have HA := Lib.hid (listV_yes (all_end Hk.out (by omega)))
      go_wp2_with fail
      go_ret
      exact ⟨ret_bool (by rw [HA.out, Bool.eq_iff_iff]; simp; omega), rfl⟩

theorem lvb {f : FuncId} {args : Array Value} {w : World} {v x : Bool} (h : Calls Try.prog f args w fun e w' => e = .returned (.bool v) ∧ Below w.heap.size w w') (e : v = x) :
    Calls Try.prog f args w fun e w' => e = .returned (.bool x) ∧ Below w.heap.size w w' := by rw [← e]; exact h
theorem lvs {f : FuncId} {args : Array Value} {w : World} {v x : Bool} (h : Calls Try.prog f args w fun e w' => e = .returned (.bool v) ∧ w = w') (e : v = x) :
    Calls Try.prog f args w fun e w' => e = .returned (.bool x) ∧ Below w.heap.size w w' := h.mono fun _ _ ⟨he, hw⟩ => ⟨he.trans (ret_bool e), by rw [← hw]; exact Below.refl _ _⟩

def hasB (l : List Int) (m : Nat) (n : Int) : Bool := (l.take m).contains n
theorem hasB_0 (l : List Int) (n : Int) : hasB l 0 n = false := by simp [hasB]
theorem hasB_next {l : List Int} {k : Nat} {n x : Int} (hx : l[k]? = some x) : hasB l (k + 1) n = (hasB l k n || decide (x = n)) := by
  unfold hasB
  rw [take_next hx, Bool.eq_iff_iff]
  simp only [List.contains_iff_mem, List.mem_append, List.mem_singleton, decide_eq_true_eq, Bool.or_eq_true]
  constructor
  · rintro (h | h)
    · exact .inl h
    · exact .inr h.symm
  · rintro (h | h)
    · exact .inl h
    · exact .inr h.symm
theorem has_hit {l : List Int} {k m : Nat} {x : Int} (hx : l[k]? = some x) (hk : k < m) : hasB l m x = true := List.contains_iff_mem.2 (List.mem_of_getElem? (by rw [List.getElem?_take, if_pos hk]; exact hx))
set_option maxHeartbeats 400000 in
theorem has_spec (A : Option Addr) (l : List Int) (m c : Nat) (n : Int) (w : World) (ha : Rd w A l) (hm : m ≤ l.length) (hl : l.length ≤ 1048576) :
    Calls Try.prog 42 #[.slice A m c, .int .i64 n] w fun e w' => e = .returned (.bool (hasB l m n)) ∧ w = w' := by
  obtain ⟨r, HR⟩ : ∃ r, Hid (hasB l m n = r) := ⟨_, rfl⟩
  rw [HR.out]
  go_enter Try.func42, Try.ntmps42
  go_wp2_with fail
  go_loop [5] (fun i => ∃ k : Nat, k ≤ m ∧ i = .int .i64 k ∧ Hid (hasB l k n = false)) (fun i => m - (intOf i).toNat)
  case atStart => exact ⟨0, by omega, rfl, hasB_0 l n⟩
  case round =>
    obtain ⟨k, hk, rfl, Hk⟩ := hrel
    by_cases hlt : k < m
    · obtain ⟨b, off, x, rfl, hbx, Hx, hcx⟩ := ha.at_ (k := k) (by omega)
      have q0 : (0 : Int) ≤ (k : Int) := by omega
      have q1 : (k : Int) < (m : Int) := by omega
      by_cases he : x = n
      · have t : (x == n) = true := beq_iff_eq.2 he
        have HT : Hid (r = true) := by show _ = _; rw [← HR.out, ← he]; exact has_hit Hx.out hlt
        clear he
        go_wp2_with fail
        go_ret
        exact ⟨ret_bool HT.out.symm, rfl⟩
      · have t : (x == n) = false := beq_eq_false_iff_ne.2 he
        have HN : Hid (hasB l (k + 1) n = false) := by show _ = _; rw [hasB_next Hx.out, Hk.out, decide_eq_false he]; rfl
        clear he
        go_wp2_with fail
        exact ⟨⟨k + 1, by omega, by go_num, HN.out⟩, by simp [intOf]; omega⟩
    · obtain rfl : k = m := by omega
      go_wp2_with fail
      go_ret
      exact ⟨ret_bool (by rw [← HR.out, Hk.out]), rfl⟩
set_option maxHeartbeats 400000 in
theorem index_any (A : Option Addr) (l : List Int) (m c : Nat) (n : Int) (w : World) (ha : Rd w A l) (hm : m ≤ l.length) (hl : l.length ≤ 1048576) :
    Calls Try.prog 64 #[.slice A m c, .int .i64 n] w fun e w' => (∃ k : Int, e = .returned (.int .i64 k) ∧ -1 ≤ k ∧ k ≤ 1048576 ∧ Hid (hasB l m n = decide (0 ≤ k))) ∧ w = w' := by
  go_enter Try.func64, Try.ntmps64
  go_wp2_with fail
  go_loop [8] (fun i => ∃ k : Nat, k ≤ m ∧ i = .int .i64 k ∧ Hid (hasB l k n = false)) (fun i => m - (intOf i).toNat)
  case atStart => exact ⟨0, by omega, rfl, hasB_0 l n⟩
  case round =>
    obtain ⟨k, hk, rfl, Hk⟩ := hrel
    by_cases hlt : k < m
    · obtain ⟨b, off, x, rfl, hbx, Hx, hcx⟩ := ha.at_ (k := k) (by omega)
      have q0 : (0 : Int) ≤ (k : Int) := by omega
      have q1 : (k : Int) < (m : Int) := by omega
      by_cases he : x = n
      · have t : (n == x) = true := beq_iff_eq.2 he.symm
        have HT : Hid (hasB l m n = true) := by show _ = _; rw [← he]; exact has_hit Hx.out hlt
        clear he
        go_wp2_with fail
        go_ret
        exact ⟨⟨k, rfl, by omega, by omega, by show _ = _; rw [HT.out]; simp⟩, rfl⟩
      · have t : (n == x) = false := beq_eq_false_iff_ne.2 (fun e => he e.symm)
        have HN : Hid (hasB l (k + 1) n = false) := by show _ = _; rw [hasB_next Hx.out, Hk.out, decide_eq_false he]; rfl
        clear he
        go_wp2_with fail
        exact ⟨⟨k + 1, by omega, by go_num, HN.out⟩, by simp [intOf]; omega⟩
    · obtain rfl : k = m := by omega
      go_wp2_with fail
      go_ret
      exact ⟨⟨-1, rfl, by omega, by omega, by show _ = _; rw [Hk.out]; simp⟩, rfl⟩
theorem contains_any (A : Option Addr) (l : List Int) (m c : Nat) (n : Int) (w : World) (ha : Rd w A l) (hm : m ≤ l.length) (hl : l.length ≤ 1048576) :
    Calls Try.prog 54 #[.slice A m c, .int .i64 n] w fun e w' => e = .returned (.bool (hasB l m n)) ∧ w = w' := by
  go_enter Try.func54, Try.ntmps54
  go_wp2_with fail
  refine (index_any A l m c n w ha hm hl).mono ?_
  rintro e w1 ⟨⟨k, rfl, h1, h2, h3⟩, rfl⟩
  go_wp2_with fail
  go_ret
  exact ⟨ret_bool h3.out.symm, rfl⟩
theorem bool_is {f : FuncId} {args : Array Value} {w : World} {v x : Bool} (h : Calls Try.prog f args w fun e w' => e = .returned (.bool v) ∧ w = w') (e : v = x) :
    Calls Try.prog f args w fun e w' => e = .returned (.bool x) ∧ w = w' := by rw [← e]; exact h

/-- The first k numbers are indices below n, each once. -/
def permTo (l : List Int) (n : Nat) : Nat → Bool
  | 0 => true
  | k + 1 => permTo l n k && (match l[k]? with | some x => decide (0 ≤ x ∧ x ≤ (n : Int) - 1) && !hasB l k x | none => true)
def permV (l : List Int) (n : Nat) : Bool := permTo l n l.length && decide (l.length = n)
theorem permTo_next {l : List Int} {n k : Nat} {x : Int} (h : l[k]? = some x) : permTo l n (k + 1) = (permTo l n k && (decide (0 ≤ x ∧ x ≤ (n : Int) - 1) && !hasB l k x)) := by simp only [permTo, h]
theorem permTo_mono {l : List Int} {n k m : Nat} (h : permTo l n m = true) (hk : k ≤ m) : permTo l n k = true := by
  induction m with
  | zero =>
    obtain rfl : k = 0 := by omega
    exact h
  | succ m ih =>
    by_cases e : k = m + 1
    · rw [e]; exact h
    · simp only [permTo, Bool.and_eq_true] at h
      exact ih h.1 (by omega)
theorem permV_no {l : List Int} {n k : Nat} (h : permTo l n k = false) (hk : k ≤ l.length) : permV l n = false := by
  unfold permV
  have : permTo l n l.length = false := by rw [Bool.eq_false_iff]; intro a; rw [permTo_mono a hk] at h; cases h
  rw [this]; rfl
theorem permV_len {l : List Int} {n : Nat} (h : l.length ≠ n) : permV l n = false := by unfold permV; rw [decide_eq_false h, Bool.and_false]
theorem permV_yes {l : List Int} {n : Nat} (h : permTo l n l.length = true) : permV l n = decide (l.length = n) := by unfold permV; rw [h]; rfl
theorem permV_spec {l : List Int} {n : Nat} (h : permV l n = true) : permTo l n l.length = true ∧ l.length = n := by
  unfold permV at h; simpa using h
theorem permTo_at {l : List Int} {n m k : Nat} {x : Int} (h : permTo l n m = true) (hk : k < m) (hx : l[k]? = some x) : (0 ≤ x ∧ x ≤ (n : Int) - 1) ∧ hasB l k x = false := by
  have h1 := permTo_mono h (show k + 1 ≤ m by omega)
  rw [permTo_next hx] at h1
  simp only [Bool.and_eq_true, decide_eq_true_eq, Bool.not_eq_true'] at h1
  exact h1.2

set_option maxHeartbeats 800000 in
theorem perm_impl (A : Option Addr) (l : List Int) (c n : Nat) (w : World) (ha : Rd w A l) (hl : l.length ≤ 1048576) (hlc : l.length ≤ c) (hn : n ≤ 1048576) :
    Calls Try.prog 43 #[.slice A l.length c, .int .i64 n] w fun e w' => e = .returned (.bool (permV l n)) ∧ w = w' := by
  obtain ⟨r, HR⟩ : ∃ r, Hid (permV l n = r) := ⟨_, rfl⟩
  rw [HR.out]
  go_enter Try.func43, Try.ntmps43
  go_wp2_with fail
  go_loop [9] (fun i => ∃ k : Nat, k ≤ l.length ∧ i = .int .i64 k ∧ Hid (permTo l n k = true)) (fun i => l.length - (intOf i).toNat)
  case atStart => exact ⟨0, by omega, rfl, rfl⟩
  case round =>
    obtain ⟨k, hk, rfl, Hk⟩ := hrel
    by_cases hlt : k < l.length
    · obtain ⟨b, off, x, rfl, hbx, Hx, hcx⟩ := ha.at_ (k := k) (by omega)
      have q0 : (0 : Int) ≤ (k : Int) := by omega
      have q1 : (k : Int) < (l.length : Int) := by omega
      have kc : k ≤ c := by omega
      have HP := Lib.hid (permTo_next (n := n) Hx.out)
      by_cases hx : 0 ≤ x ∧ x ≤ (n : Int) - 1
      · have T0 := Lib.hid (within_t x 0 ((n : Int) - 1) w hx)
        obtain ⟨h, HH⟩ : ∃ h, Hid (hasB l k x = h) := ⟨_, rfl⟩
        have T1 := Lib.hid (bool_is (contains_any (some ⟨b, off, none⟩) l k c x w ha hk hl) HH.out)
        have HX := Lib.hid hx
        clear hx
        cases h with
        | true =>
          have HO : Hid (r = false) := by show _ = _; rw [← HR.out]; exact permV_no (k := k + 1) (by rw [HP.out, HH.out]; simp) (by omega)
          go_wp2_with fail
          refine T0.out.mono ?_
          rintro e w' ⟨rfl, rfl⟩
          go_wp2_with fail
          refine T1.out.mono ?_
          rintro e w' ⟨rfl, rfl⟩
          go_wp2_with fail
          go_ret
          exact ⟨ret_bool HO.out.symm, rfl⟩
        | false =>
          have HN : Hid (permTo l n (k + 1) = true) := by show _ = _; rw [HP.out, Hk.out, HH.out, decide_eq_true HX.out]; rfl
          go_wp2_with fail
          refine T0.out.mono ?_
          rintro e w' ⟨rfl, rfl⟩
          go_wp2_with fail
          refine T1.out.mono ?_
          rintro e w' ⟨rfl, rfl⟩
          go_wp2_with fail
          exact ⟨⟨k + 1, by omega, by go_num, HN.out⟩, by simp [intOf]; omega⟩
      · have T0 := Lib.hid (within_f x 0 ((n : Int) - 1) w hx)
        have HO : Hid (r = false) := by show _ = _; rw [← HR.out]; exact permV_no (k := k + 1) (by rw [HP.out, decide_eq_false hx]; simp) (by omega)
        clear hx
        go_wp2_with fail
        refine T0.out.mono ?_
        rintro e w' ⟨rfl, rfl⟩
        go_wp2_with fail
        go_ret
        exact ⟨ret_bool HO.out.symm, rfl⟩
    · obtain rfl : k = l.length := by omega
      have HO := Lib.hid (HR.out.symm.trans (permV_yes Hk.out))
      go_wp2_with fail
      go_ret
      exact ⟨ret_bool (by rw [HO.out, Bool.eq_iff_iff]; simp; omega), rfl⟩
end Go.Proofs.Ytjbocijckoaekaa
