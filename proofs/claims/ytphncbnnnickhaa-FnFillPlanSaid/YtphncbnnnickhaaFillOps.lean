/- Lists of boxes: a copy of them; whether a number is in a list; which box the reference loads first. -/
import Derived.Test.YtphncbnnnickhaaFillCmp
import Derived.Test.YtphncbnnnickhaaTBox
namespace Go.Proofs.Ytphncbnnnickhaa
open Go.RowKit Go.Shelf
set_option linter.unusedVariables false
set_option linter.unusedSimpArgs false

theorem RdBox.news {w w' : World} {a : Addr} {l : List BoxV} (h : RdBox w (some a) l) (hk : ∀ p : Addr, p.block < w.heap.size → w'.cell? p = w.cell? p) : ∀ (j : Nat) (u : Value), (flatBox l)[j]? = some u → w'.cell? (a.add j) = some u := by
  intro j u hu
  obtain ⟨i, x, hx, hd⟩ := flatBox_inv hu
  obtain ⟨b, off, e, hb, hc⟩ := h i x hx
  injection e with e
  subst e
  rw [addr_add, hk ⟨b, off + j, none⟩ hb]
  rcases hd with ⟨rfl, rfl⟩ | ⟨rfl, rfl⟩ | ⟨rfl, rfl⟩ | ⟨rfl, rfl⟩ | ⟨rfl, rfl⟩
  · exact hc.1
  · exact hc.2.1
  · exact hc.2.2.1
  · exact hc.2.2.2.1
  · exact hc.2.2.2.2
theorem flatBox_one (l : List BoxV) : ∀ u ∈ flatBox l, u.oneCell' = true := by
  intro u hu
  obtain ⟨j, hj⟩ := List.getElem?_of_mem hu
  obtain ⟨i, x, hx, hd⟩ := flatBox_inv hj
  rcases hd with ⟨_, rfl⟩ | ⟨_, rfl⟩ | ⟨_, rfl⟩ | ⟨_, rfl⟩ | ⟨_, rfl⟩ <;> rfl
theorem OwnV.of_row {w : World} {lo hi n c size : Nat} {t : TypeId} {A : Option Addr} {l : List Value} (h : w.ownsRow lo t size (.slice A n c) n l) (hl : l.length = n * size) (hh : w.heap.size ≤ hi) : OwnV t w lo hi A l := by
  rcases h with ⟨_, ⟨e, h0⟩ | ⟨g, cap, cur, e, hb, hg, _, _, _, ht⟩⟩
  · exact .inl (by
      have : l.length = 0 := by rw [hl, h0]; simp
      exact List.length_eq_zero_iff.1 this)
  · injection e with e1 e2 e3
    subst e1
    refine .inr ⟨g, cur, rfl, hb, by have := (Array.getElem?_eq_some_iff.1 hg).1; omega, hg, fun k x hx => ?_⟩
    rw [← ht, List.getElem?_take] at hx
    split at hx
    · simpa using hx
    · cases hx
theorem flatBox_nil {l : List BoxV} (h : flatBox l = []) : l = [] := by
  have := flatBox_length l
  rw [h] at this
  exact List.length_eq_zero_iff.1 (by simp at this; omega)
/-- The same boxes in new memory. -/
def BoxOwn (w w' : World) (l : List BoxV) (e : Ending) : Prop := ∃ (A : Option Addr) (c : Nat), e = .returned (.slice A l.length c) ∧ OwnV 45 w' w.heap.size w'.heap.size A (flatBox l) ∧ Below w.heap.size w w'
set_option maxHeartbeats 800000 in
theorem cloneBox_any (A : Option Addr) (l : List BoxV) (c : Nat) (w : World) (ha : RdBox w A l) (hl : l.length ≤ 1048576) :
    Calls Try.prog 40 #[.slice A l.length c] w fun e w' => BoxOwn w w' l e := by
  obtain ⟨i0, hi, hz0, hz1, hz2⟩ := info_parts info_Box
  cases A with
  | none =>
    have h0 : l = [] := by
      cases l with
      | nil => rfl
      | cons x l => obtain ⟨b, off, e, _⟩ := ha 0 x rfl; cases e
    subst h0
    have hnil : ∀ w : World, (binOp .eql 26 (.slice none 0 c) (.slice none 0 0)).run Try.prog w = .ok (.bool true) w := fun w => by kernel_rfl
    go_enter Try.func40, Try.ntmps40
    go_wp2
    go_ret
    exact ⟨none, 0, rfl, OwnV.nil_, Below.refl _ _⟩
  | some a =>
    have hnil := fun W => Lib.run_eql_slice_nil (P := Try.prog) W 26 45 (some a) l.length c 0 0 Try.underlying26
    go_enter Try.func40, Try.ntmps40
    go_wp2_with (at_builtin; refine wpList_append_own _ rfl _ _ 26 rfl w.heap.size 45 i0 (.agg #[.int .i64 0, .int .i64 0, .int .i64 0, .int .i64 0, .bool false]) 5 40 Try.underlying26 hi hz0 hz1 hz2 rfl (by decide) _ 0 [] rfl (World.ownsRow_lit w #[] 0 (Nat.le_refl _) (by unfold maxLen; omega) rfl) a l.length c (flatBox l) rfl (flatBox_length l) (ha.news (cell_alloc_old _)) (flatBox_one l) ?c3 ?c4 ?c5 ?_)
    case c3 => unfold maxLen; omega
    case c4 => omega
    case c5 => simp
    intro v' w3 hown3 hgrow _
    have K3 : Hid (w3.ownsRow w.heap.size 45 5 v' l.length (flatBox l)) := by
      show w3.ownsRow _ _ _ _ _ _
      simpa using hown3
    have B3 : Hid (Below w.heap.size w w3) := ((Below.refl _ _).alloc (Nat.le_refl _) _).grown hgrow (by simp) (fun k e => by simp [Value.ownBlock] at e; omega)
    clear hown3 hgrow hnil
    go_wp2
    go_ret
    obtain ⟨A', c', e, hc'⟩ := own_slice K3.out
    exact ⟨A', c', by rw [← e]; rfl, OwnV.of_row (by rw [← e]; exact K3.out) (flatBox_length l) (Nat.le_refl _), B3.out⟩
/-- The sort, at boxes of the call's own. -/
theorem sortOwn_any (q : List BoxV) (lo hi : Nat) (A : Option Addr) (c : Nat) (w : World) (ho : OwnV 45 w lo hi A (flatBox q)) (h8 : q.length ≤ 12) :
    Calls Try.prog 41 #[.slice A q.length c, .func (.func 42) #[] #[]] w fun e w' => e = .returned (.tuple #[]) ∧ OwnV 45 w' lo hi A (flatBox (insS cfB q)) ∧ Chg lo hi w w' := by
  by_cases h0 : q = []
  · subst h0
    exact (sort0_any _ A c #[] w).mono fun e w' ⟨h1, h2⟩ => ⟨h1, .inl rfl, by rw [← h2]; exact Chg.refl _ _ _⟩
  · rcases ho with h | ⟨g, cs, rfl, g1, g2, hb, hc⟩
    · exact absurd (flatBox_nil h) h0
    · refine (sortFunc_any 42 #[] (enters_of Try.func42 (by kernel_rfl) rfl) cfB (fun _ => True) q q.length g c cs w hb hc (fun _ _ => trivial) rfl h8 (fun x y _ _ => cfB_bd x y) (fun W x y _ _ _ => cfB_any x y W)).mono ?_
      rintro e w' ⟨rfl, ⟨cs', hb', hc'⟩, hch⟩
      exact ⟨rfl, OwnV.of_blk hb' g1 g2 hc', hch.wide g1 g2⟩
set_option maxHeartbeats 400000 in
theorem l1Has_any (A : Option Addr) (l : List Int) (c : Nat) (n : Int) (w : World) (ha : Rd w A l) (hl : l.length ≤ 1048576) :
    Calls Try.prog 36 #[.slice A l.length c, .int .i64 n] w fun e w' => e = .returned (.bool (decide (n ∈ l))) ∧ w = w' := by
  obtain ⟨r, HR⟩ : ∃ r, Hid (decide (n ∈ l) = r) := ⟨_, rfl⟩
  rw [HR.out]
  go_enter Try.func36, Try.ntmps36
  go_wp2_with fail
  go_loop [5] (fun i => ∃ k : Nat, k ≤ l.length ∧ i = .int .i64 k ∧ Hid (∀ y ∈ l.take k, y ≠ n)) (fun i => l.length - (intOf i).toNat)
  case atStart => exact ⟨0, by omega, rfl, (by simp : ∀ y ∈ l.take 0, y ≠ n)⟩
  case round =>
    obtain ⟨k, hk, rfl, Hk⟩ := hrel
    by_cases hlt : k < l.length
    · obtain ⟨b, off, x, rfl, hbx, Hx, hx0⟩ := ha.at_ (k := k) hlt
      have q0 : (0 : Int) ≤ (k : Int) := by omega
      have q1 : (k : Int) < (l.length : Int) := by omega
      by_cases hq : x = n
      · have t0 : (x == n) = true := beq_iff_eq.2 hq
        have HN : Hid (r = true) := by
          show _ = _
          rw [← HR.out]
          exact decide_eq_true (by rw [← hq]; exact mem_at Hx.out)
        clear hq
        go_wp2_with fail
        go_ret
        exact ⟨ret_bool HN.out.symm, rfl⟩
      · have t0 : (x == n) = false := beq_eq_false_iff_ne.2 hq
        have HN := Lib.hid (all_next (P := fun y => y ≠ n) Hk.out Hx.out hq)
        clear hq
        go_wp2_with fail
        exact ⟨⟨k + 1, by omega, by go_num, HN.out⟩, by simp [intOf]; omega⟩
    · have HN : Hid (r = false) := by
        show _ = _
        rw [← HR.out]
        exact decide_eq_false (fun h => all_end Hk.out (by omega) n h rfl)
      go_wp2_with fail
      go_ret
      exact ⟨ret_bool HN.out.symm, rfl⟩
set_option maxHeartbeats 400000 in
theorem hasInt_any (A : Option Addr) (l : List Int) (c : Nat) (n : Int) (w : World) (ha : Rd w A l) (hl : l.length ≤ 1048576) :
    Calls Try.prog 25 #[.slice A l.length c, .int .i64 n] w fun e w' => e = .returned (.bool (decide (n ∈ l))) ∧ w = w' := by
  obtain ⟨r, HR⟩ : ∃ r, Hid (decide (n ∈ l) = r) := ⟨_, rfl⟩
  rw [HR.out]
  go_enter Try.func25, Try.ntmps25
  go_wp2_with fail
  go_loop [5] (fun i => ∃ k : Nat, k ≤ l.length ∧ i = .int .i64 k ∧ Hid (∀ y ∈ l.take k, y ≠ n)) (fun i => l.length - (intOf i).toNat)
  case atStart => exact ⟨0, by omega, rfl, (by simp : ∀ y ∈ l.take 0, y ≠ n)⟩
  case round =>
    obtain ⟨k, hk, rfl, Hk⟩ := hrel
    by_cases hlt : k < l.length
    · obtain ⟨b, off, x, rfl, hbx, Hx, hx0⟩ := ha.at_ (k := k) hlt
      have q0 : (0 : Int) ≤ (k : Int) := by omega
      have q1 : (k : Int) < (l.length : Int) := by omega
      by_cases hq : x = n
      · have t0 : (x == n) = true := beq_iff_eq.2 hq
        have HN : Hid (r = true) := by
          show _ = _
          rw [← HR.out]
          exact decide_eq_true (by rw [← hq]; exact mem_at Hx.out)
        clear hq
        go_wp2_with fail
        go_ret
        exact ⟨ret_bool HN.out.symm, rfl⟩
      · have t0 : (x == n) = false := beq_eq_false_iff_ne.2 hq
        have HN := Lib.hid (all_next (P := fun y => y ≠ n) Hk.out Hx.out hq)
        clear hq
        go_wp2_with fail
        exact ⟨⟨k + 1, by omega, by go_num, HN.out⟩, by simp [intOf]; omega⟩
    · have HN : Hid (r = false) := by
        show _ = _
        rw [← HR.out]
        exact decide_eq_false (fun h => all_end Hk.out (by omega) n h rfl)
      go_wp2_with fail
      go_ret
      exact ⟨ret_bool HN.out.symm, rfl⟩
/-- The reference's order. -/
def befB (x y : BoxV) : Bool := if x.port = y.port then (if x.weight = y.weight then decide (x.id < y.id) else decide (y.weight < x.weight)) else decide (y.port < x.port)
set_option maxHeartbeats 1600000 in
theorem before_any (x y : BoxV) (w : World) :
    Calls Try.prog 37 #[.agg #[.int .i64 x.id, .int .i64 x.weight, .int .i64 x.class_, .int .i64 x.port, .bool x.cold], .agg #[.int .i64 y.id, .int .i64 y.weight, .int .i64 y.class_, .int .i64 y.port, .bool y.cold]] w fun e w' => e = .returned (.bool (befB x y)) ∧ Below w.heap.size w w' := by
  obtain ⟨r, HR⟩ : ∃ r, Hid (befB x y = r) := ⟨_, rfl⟩
  rw [HR.out]
  by_cases h1 : x.port = y.port
  · by_cases h2 : x.weight = y.weight
    · have HN : Hid (decide (x.id < y.id) = r) := by show _ = _; rw [← HR.out, befB, if_pos h1, if_pos h2]
      have t1 : (x.port != y.port) = false := by simp [h1]
      have t2 : (x.weight != y.weight) = false := by simp [h2]
      clear h1 h2
      go_enter Try.func37, Try.ntmps37
      go_wp2_with fail
      go_ret
      exact ⟨ret_bool HN.out, ((Below.refl _ _).alloc (Nat.le_refl _) _).alloc (by simp) _⟩
    · have HN : Hid (decide (y.weight < x.weight) = r) := by show _ = _; rw [← HR.out, befB, if_pos h1, if_neg h2]
      have t1 : (x.port != y.port) = false := by simp [h1]
      have t2 : (x.weight != y.weight) = true := by simp [h2]
      clear h1 h2
      go_enter Try.func37, Try.ntmps37
      go_wp2_with fail
      go_ret
      exact ⟨ret_bool HN.out, ((Below.refl _ _).alloc (Nat.le_refl _) _).alloc (by simp) _⟩
  · have HN : Hid (decide (y.port < x.port) = r) := by show _ = _; rw [← HR.out, befB, if_neg h1]
    have t1 : (x.port != y.port) = true := by simp [h1]
    clear h1
    go_enter Try.func37, Try.ntmps37
    go_wp2_with fail
    go_ret
    exact ⟨ret_bool HN.out, ((Below.refl _ _).alloc (Nat.le_refl _) _).alloc (by simp) _⟩
end Go.Proofs.Ytphncbnnnickhaa
