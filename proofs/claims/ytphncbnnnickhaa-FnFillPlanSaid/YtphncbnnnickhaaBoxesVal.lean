/- Boxes: BoxesValid, of the program and of the reference. -/
import Derived.Test.YtphncbnnnickhaaBoxVal
import Derived.Deep.RegionHeld3
namespace Go.Proofs.Ytphncbnnnickhaa
open Go.RowKit Go.Shelf
set_option linter.unusedVariables false
set_option linter.unusedSimpArgs false

def bvTo (l : List BoxV) : Nat → Bool
  | 0 => true
  | k + 1 => bvTo l k && match l[k]? with
    | some x => decide (boxOk x) && decide (atTo l x.id k < 0)
    | none => true
def bvS (l : List BoxV) : Bool := bvTo l l.length && decide (l.length ≤ 10)
theorem bvTo_next {l : List BoxV} {k : Nat} {x : BoxV} (hx : l[k]? = some x) : bvTo l (k + 1) = (bvTo l k && (decide (boxOk x) && decide (atTo l x.id k < 0))) := by
  simp only [bvTo, hx]
theorem bvTo_false {l : List BoxV} {k : Nat} (h : bvTo l k = false) : ∀ n, k ≤ n → bvTo l n = false := by
  intro n hn
  induction n with
  | zero => obtain rfl : k = 0 := by omega
            exact h
  | succ n ih =>
    by_cases e : k = n + 1
    · rw [← e]; exact h
    · unfold bvTo; rw [ih (by omega)]; rfl
theorem bvS_no {l : List BoxV} {k : Nat} {x : BoxV} (hx : l[k]? = some x) (h : ¬ (boxOk x ∧ atTo l x.id k < 0)) : bvS l = false := by
  unfold bvS
  rw [bvTo_false (k := k + 1) (by rw [bvTo_next hx]; simp; intro _ h1; exact Int.not_lt.1 (fun h2 => h ⟨h1, h2⟩)) _ (by have := (List.getElem?_eq_some_iff.1 hx).1; omega)]
  rfl
/-- The place of a box's id among all boxes is not ahead of the box just where none ahead of it has the id. -/
theorem at_self {l : List BoxV} {k : Nat} {x : BoxV} (hx : l[k]? = some x) : (atTo l x.id l.length < k) ↔ ¬ (atTo l x.id k < 0) := by
  have hk := (List.getElem?_eq_some_iff.1 hx).1
  have hb := at_bd l x.id k
  by_cases h : atTo l x.id k = -1
  · rw [at_hit h hx rfl _ hk, h]
    simp
  · have hs : ∀ n, k ≤ n → atTo l x.id n = atTo l x.id k := by
      intro n hn
      induction n with
      | zero => obtain rfl : k = 0 := by omega
                rfl
      | succ n ih =>
        by_cases e : k = n + 1
        · rw [← e]
        · have := ih (by omega)
          have h2 : 0 ≤ atTo l x.id n := by omega
          have e2 : atTo l x.id (n + 1) = atTo l x.id n := by
            show (if 0 ≤ atTo l x.id n then atTo l x.id n else _) = _
            rw [if_pos h2]
          rw [e2, this]
    rw [hs _ (by omega)]
    omega
set_option maxHeartbeats 1600000 in
theorem bsv_spec (A : Option Addr) (l : List BoxV) (c : Nat) (w : World) (ha : RdBox w A l) (hl : l.length ≤ 1048576) :
    Calls Try.prog 22 #[.slice A l.length c] w fun e w' => e = .returned (.bool (bvS l)) ∧ Below w.heap.size w w' := by
  obtain ⟨r, HR⟩ : ∃ r, Hid (bvS l = r) := ⟨_, rfl⟩
  rw [HR.out]
  go_enter Try.func22, Try.ntmps22
  go_wp2_with fail
  go_loopw [3] (fun i wr => ∃ k : Nat, k ≤ l.length ∧ i = .int .i64 k ∧ Hid (bvTo l k = true) ∧ Below w.heap.size w wr) (fun i _ => l.length - (intOf i).toNat)
  case atStart => exact ⟨0, by omega, rfl, rfl, Below.refl _ _⟩
  case round =>
    obtain ⟨k, hk, rfl, Hk, hbw⟩ := hrel
    by_cases hlt : k < l.length
    · obtain ⟨b, off, x, rfl, hbx, Hx, hx0, hx1, hx2, hx3, hx4⟩ := (ha.below hbw).at_ (k := k) hlt
      have q0 : (0 : Int) ≤ (k : Int) := by omega
      have q1 : (k : Int) < (l.length : Int) := by omega
      have HC := Lib.hid (bv_ones x wr)
      obtain ⟨ok, HOK⟩ : ∃ r, Hid (decide (boxOk x) = r) := ⟨_, rfl⟩
      rw [HOK.out] at HC
      cases ok with
      | false =>
        have HF : Hid (bvS l = false) := bvS_no Hx.out (fun h => by have := of_decide_eq_false HOK.out; exact this h.1)
        go_wp2_with fail
        refine HC.out.mono ?_
        rintro e w1 ⟨rfl, b1⟩
        go_wp2_with fail
        go_ret
        exact ⟨ret_bool (by rw [← HR.out]; exact HF.out.symm), hbw.trans (b1.mono hbw.size)⟩
      | true =>
        have hok : boxOk x := of_decide_eq_true HOK.out
        go_wp2_with fail
        refine HC.out.mono ?_
        rintro e w1 ⟨rfl, b1⟩
        have HA1 := Lib.hid ((ha.below hbw).below b1)
        have cx := (b1.cell (p := ⟨b, off + k * 5, none⟩) hbx).trans hx0
        have HB1 := Lib.hid (hbw.trans (b1.mono hbw.size))
        have hq := l2Find_any (some ⟨b, off, none⟩) l c x.id w1 HA1.out hl
        clear b1
        by_cases hj : atTo l x.id l.length < k
        · have HF : Hid (bvS l = false) := bvS_no Hx.out (fun h => (at_self Hx.out).1 hj h.2)
          have HQ := Lib.hid hq
          obtain ⟨v, HVV⟩ : ∃ v, Hid (atTo l x.id l.length = v) := ⟨_, rfl⟩
          rw [HVV.out] at HQ hj
          go_wp2_with fail
          refine HQ.out.mono ?_
          rintro e w2 ⟨rfl, rfl⟩
          go_wp2_with fail
          go_ret
          exact ⟨ret_bool (by rw [← HR.out]; exact HF.out.symm), HB1.out⟩
        · have HN : Hid (bvTo l (k + 1) = true) := by
            show _ = _
            rw [bvTo_next Hx.out, Hk.out, decide_eq_true hok, decide_eq_true (Decidable.not_not.1 (fun h => hj ((at_self Hx.out).2 h)))]
            rfl
          have HQ := Lib.hid hq
          obtain ⟨v, HVV⟩ : ∃ v, Hid (atTo l x.id l.length = v) := ⟨_, rfl⟩
          rw [HVV.out] at HQ hj
          go_wp2_with fail
          refine HQ.out.mono ?_
          rintro e w2 ⟨rfl, rfl⟩
          go_wp2_with fail
          exact ⟨⟨k + 1, by omega, by go_num, HN.out, HB1.out⟩, by simp [intOf]; omega⟩
    · obtain rfl : k = l.length := by omega
      go_wp2_with fail
      go_ret
      exact ⟨ret_bool (by rw [← HR.out]; unfold bvS; rw [Hk.out, Bool.true_and]; exact decide_eq_decide.2 (by omega)), hbw⟩
end Go.Proofs.Ytphncbnnnickhaa
