/- BerthAll called by its statement. -/
import Derived.Test.YtiejkcjbjjnacaaBerth7
import Derived.Test.YtiejkcjbjjnacaaMCall
import Derived.Test.YtiejkcjbjjnacaaTCall
namespace Go.Proofs.Ytiejkcjbjjnacaa
open Go.RowKit
set_option linter.unusedVariables false
set_option linter.unusedSimpArgs false

theorem allFrom_length : ∀ (a b c : List Int) (out L : List CallV), allFrom out a b c = some L → L.length ≤ out.length + a.length := by
  intro a
  induction a with
  | nil => intro b c out L h; simp [allFrom] at h; subst h; simp
  | cons x a ih =>
    intro b c out L h
    cases b with
    | nil => simp [allFrom] at h; subst h; simp
    | cons y b =>
      cases c with
      | nil => simp [allFrom] at h; subst h; simp
      | cons z c =>
        unfold allFrom at h
        split at h
        · have := ih _ _ _ _ h
          simp at this ⊢; omega
        · cases h
theorem allC_short (a b c : List Int) : ((allC a b c).getD []).length ≤ a.length := by
  cases h : allC a b c with
  | none => simp
  | some L =>
    unfold allC at h
    split at h
    · have := allFrom_length _ _ _ _ _ h
      simpa using this
    · cases h
theorem all_val {f : FuncId} {args : Array Value} {w : World} {N : Option (List CallV)} {L : List CallV} {b : Bool} (h : Calls Try.prog f args w (AllPost N w)) (e : (N.getD [], N.isSome) = (L, b)) :
    Calls Try.prog f args w (Ans (fun s => .tuple #[s, .bool b]) L.length (flatCall L) 25 w) := by
  injection e with e1 e2
  rw [← e1, ← e2]; exact h
set_option maxHeartbeats 4000000 in
theorem law_ExBerthAll {A0 : Option Addr} {l0 : List Int} {c0 : Nat} {A1 : Option Addr} {l1 : List Int} {c1 : Nat} {A2 : Option Addr} {l2 : List Int} {c2 : Nat} (w : World) (ha0 : Rd w A0 l0) (hl0 : l0.length ≤ 9223372036854775807) (ha1 : Rd w A1 l1) (hl1 : l1.length ≤ 9223372036854775807) (ha2 : Rd w A2 l2) (hl2 : l2.length ≤ 9223372036854775807) :
    Calls Try.prog 7 #[.slice A0 l0.length c0, .slice A1 l1.length c1, .slice A2 l2.length c2] w fun e w' => e = .returned (.bool true) ∧ Below w.heap.size w w' := by
  by_cases hs0 : l0.length ≤ 1048576
  · skip
    by_cases hs1 : l1.length ≤ 1048576
    · skip
      by_cases hs2 : l2.length ≤ 1048576
      · skip
        obtain ⟨L, b, HV⟩ : ∃ L b, Hid (((allC l0 l1 l2).getD [], (allC l0 l1 l2).isSome) = (L, b)) := ⟨_, _, rfl⟩
        have hL : L.length ≤ 1048576 := by
          have h1 := allC_short l0 l1 l2; have h2 := HV.out; injection h2 with h3 h4; rw [h3] at h1; omega
        go_enter Try.func7, Try.ntmps7
        have bw : Below w.heap.size w w := Below.refl _ _
        go_wp2_with fail
        refine (toIntS_any A0 l0 c0 _ (ha0.below bw) hs0).mono ?_
        rintro e w1 ⟨B1, rfl, o1, b1⟩
        have k1 : w.heap.size ≤ w1.heap.size := b1.size
        have bw := bw.trans (b1.mono bw.size)
        go_wp2_with fail
        refine (toIntS_any A1 l1 c1 _ (ha1.below bw) hs1).mono ?_
        rintro e w2 ⟨B2, rfl, o2, b2⟩
        have k2 : w1.heap.size ≤ w2.heap.size := b2.size
        have o1 := o1.below b2 (by omega)
        have bw := bw.trans (b2.mono bw.size)
        go_wp2_with fail
        refine (toIntS_any A2 l2 c2 _ (ha2.below bw) hs2).mono ?_
        rintro e w3 ⟨B3, rfl, o3, b3⟩
        have k3 : w2.heap.size ≤ w3.heap.size := b3.size
        have o1 := o1.below b3 (by omega)
        have o2 := o2.below b3 (by omega)
        have bw := bw.trans (b3.mono bw.size)
        go_wp2_with fail
        refine (all_val (ba_spec B1 B2 B3 l0 l1 l2 l0.length l1.length l2.length _ o1.rd o2.rd o3.rd hs0 hs1 hs2) HV.out).mono ?_
        rintro e w4 ⟨B4, C4, rfl, o4, b4⟩
        have k4 : w3.heap.size ≤ w4.heap.size := b4.size
        have o1 := o1.below b4 (by omega)
        have o2 := o2.below b4 (by omega)
        have o3 := o3.below b4 (by omega)
        have bw := bw.trans (b4.mono bw.size)
        clear o1
        clear o2
        clear o3
        go_wp2_with fail
        refine (toIntS_any A0 l0 c0 _ (ha0.below bw) hs0).mono ?_
        rintro e w5 ⟨B5, rfl, o5, b5⟩
        have k5 : w4.heap.size ≤ w5.heap.size := b5.size
        have o4 := o4.below b5 (by omega)
        have bw := bw.trans (b5.mono bw.size)
        go_wp2_with fail
        refine (toIntS_any A1 l1 c1 _ (ha1.below bw) hs1).mono ?_
        rintro e w6 ⟨B6, rfl, o6, b6⟩
        have k6 : w5.heap.size ≤ w6.heap.size := b6.size
        have o4 := o4.below b6 (by omega)
        have o5 := o5.below b6 (by omega)
        have bw := bw.trans (b6.mono bw.size)
        go_wp2_with fail
        refine (toIntS_any A2 l2 c2 _ (ha2.below bw) hs2).mono ?_
        rintro e w7 ⟨B7, rfl, o7, b7⟩
        have k7 : w6.heap.size ≤ w7.heap.size := b7.size
        have o4 := o4.below b7 (by omega)
        have o5 := o5.below b7 (by omega)
        have o6 := o6.below b7 (by omega)
        have bw := bw.trans (b7.mono bw.size)
        go_wp2_with fail
        refine (all_val (ba_impl B5 B6 B7 l0 l1 l2 l0.length l1.length l2.length _ o5.rd o6.rd o7.rd hs0 hs1 hs2) HV.out).mono ?_
        rintro e w8 ⟨B8, C8, rfl, o8, b8⟩
        have k8 : w7.heap.size ≤ w8.heap.size := b8.size
        have o4 := o4.below b8 (by omega)
        have o5 := o5.below b8 (by omega)
        have o6 := o6.below b8 (by omega)
        have o7 := o7.below b8 (by omega)
        have bw := bw.trans (b8.mono bw.size)
        go_wp2_with fail
        refine (eqCallS_any B8 B4 L L _ _ _ (RdCall.of_rd o8.rd) (RdCall.of_rd o4.rd) hL hL).mono ?_
        rintro e w9 ⟨rfl, b9⟩
        have k9 : w8.heap.size ≤ w9.heap.size := b9.size
        have o4 := o4.below b9 (by omega)
        have o5 := o5.below b9 (by omega)
        have o6 := o6.below b9 (by omega)
        have o7 := o7.below b9 (by omega)
        have o8 := o8.below b9 (by omega)
        have bw := bw.trans (b9.mono bw.size)
        go_wp2_with fail
        refine (toIntS_any A0 l0 c0 _ (ha0.below bw) hs0).mono ?_
        rintro e w10 ⟨B10, rfl, o10, b10⟩
        have k10 : w9.heap.size ≤ w10.heap.size := b10.size
        have o4 := o4.below b10 (by omega)
        have o5 := o5.below b10 (by omega)
        have o6 := o6.below b10 (by omega)
        have o7 := o7.below b10 (by omega)
        have o8 := o8.below b10 (by omega)
        have bw := bw.trans (b10.mono bw.size)
        go_wp2_with fail
        refine (eqIntS_b B5 B10 l0 l0 _ _ _ o5.rd o10.rd hs0 hs0).mono ?_
        rintro e w11 ⟨rfl, b11⟩
        have k11 : w10.heap.size ≤ w11.heap.size := b11.size
        have o4 := o4.below b11 (by omega)
        have o5 := o5.below b11 (by omega)
        have o6 := o6.below b11 (by omega)
        have o7 := o7.below b11 (by omega)
        have o8 := o8.below b11 (by omega)
        have o10 := o10.below b11 (by omega)
        have bw := bw.trans (b11.mono bw.size)
        clear o10
        go_wp2_with fail
        refine (toIntS_any A1 l1 c1 _ (ha1.below bw) hs1).mono ?_
        rintro e w12 ⟨B12, rfl, o12, b12⟩
        have k12 : w11.heap.size ≤ w12.heap.size := b12.size
        have o4 := o4.below b12 (by omega)
        have o5 := o5.below b12 (by omega)
        have o6 := o6.below b12 (by omega)
        have o7 := o7.below b12 (by omega)
        have o8 := o8.below b12 (by omega)
        have bw := bw.trans (b12.mono bw.size)
        go_wp2_with fail
        refine (eqIntS_b B6 B12 l1 l1 _ _ _ o6.rd o12.rd hs1 hs1).mono ?_
        rintro e w13 ⟨rfl, b13⟩
        have k13 : w12.heap.size ≤ w13.heap.size := b13.size
        have o4 := o4.below b13 (by omega)
        have o5 := o5.below b13 (by omega)
        have o6 := o6.below b13 (by omega)
        have o7 := o7.below b13 (by omega)
        have o8 := o8.below b13 (by omega)
        have o12 := o12.below b13 (by omega)
        have bw := bw.trans (b13.mono bw.size)
        clear o12
        go_wp2_with fail
        refine (toIntS_any A2 l2 c2 _ (ha2.below bw) hs2).mono ?_
        rintro e w14 ⟨B14, rfl, o14, b14⟩
        have k14 : w13.heap.size ≤ w14.heap.size := b14.size
        have o4 := o4.below b14 (by omega)
        have o5 := o5.below b14 (by omega)
        have o6 := o6.below b14 (by omega)
        have o7 := o7.below b14 (by omega)
        have o8 := o8.below b14 (by omega)
        have bw := bw.trans (b14.mono bw.size)
        go_wp2_with fail
        refine (eqIntS_b B7 B14 l2 l2 _ _ _ o7.rd o14.rd hs2 hs2).mono ?_
        rintro e w15 ⟨rfl, b15⟩
        have k15 : w14.heap.size ≤ w15.heap.size := b15.size
        have o4 := o4.below b15 (by omega)
        have o5 := o5.below b15 (by omega)
        have o6 := o6.below b15 (by omega)
        have o7 := o7.below b15 (by omega)
        have o8 := o8.below b15 (by omega)
        have o14 := o14.below b15 (by omega)
        have bw := bw.trans (b15.mono bw.size)
        clear o14
        go_wp2_with fail
        refine (markIntS_any _ _ B5 l0 _ (1) _ o5 hs0 (by omega) (by omega)).mono ?_
        rintro e w16 ⟨rfl, o5, b16⟩
        have k16 : w15.heap.size ≤ w16.heap.size := b16.size
        have o4 := o4.chg b16 (by omega)
        have o6 := o6.chg b16 (by omega)
        have o7 := o7.chg b16 (by omega)
        have o8 := o8.chg b16 (by omega)
        have bw := bw.trans (b16.below (by omega) (by omega))
        go_wp2_with fail
        refine (markIntS_any _ _ B6 l1 _ (1 + (l0.length : Int)) _ o6 hs1 (by omega) (by omega)).mono ?_
        rintro e w17 ⟨rfl, o6, b17⟩
        have k17 : w16.heap.size ≤ w17.heap.size := b17.size
        have o4 := o4.chg b17 (by omega)
        have o5 := o5.chg b17 (by omega)
        have o7 := o7.chg b17 (by omega)
        have o8 := o8.chg b17 (by omega)
        have bw := bw.trans (b17.below (by omega) (by omega))
        go_wp2_with fail
        refine (markIntS_any _ _ B7 l2 _ (1 + (l0.length : Int) + (l1.length : Int)) _ o7 hs2 (by omega) (by omega)).mono ?_
        rintro e w18 ⟨rfl, o7, b18⟩
        have k18 : w17.heap.size ≤ w18.heap.size := b18.size
        have o4 := o4.chg b18 (by omega)
        have o5 := o5.chg b18 (by omega)
        have o6 := o6.chg b18 (by omega)
        have o8 := o8.chg b18 (by omega)
        have bw := bw.trans (b18.below (by omega) (by omega))
        go_wp2_with fail
        refine (eqCallS_any B8 B4 L L _ _ _ (RdCall.of_rd o8.rd) (RdCall.of_rd o4.rd) hL hL).mono ?_
        rintro e w19 ⟨rfl, b19⟩
        have k19 : w18.heap.size ≤ w19.heap.size := b19.size
        have o4 := o4.below b19 (by omega)
        have o5 := o5.below b19 (by omega)
        have o6 := o6.below b19 (by omega)
        have o7 := o7.below b19 (by omega)
        have o8 := o8.below b19 (by omega)
        have bw := bw.trans (b19.mono bw.size)
        go_wp2_with fail
        refine (markCallS_any _ _ B8 L.length (flatCall L) _ (1) _ o8 (flatCall_length _) hL (by omega) (by omega)).mono ?_
        rintro e w20 ⟨rfl, o8, b20⟩
        have k20 : w19.heap.size ≤ w20.heap.size := b20.size
        have o4 := o4.chg b20 (by omega)
        have o5 := o5.chg b20 (by omega)
        have o6 := o6.chg b20 (by omega)
        have o7 := o7.chg b20 (by omega)
        have bw := bw.trans (b20.below (by omega) (by omega))
        go_wp2_with fail
        refine (heldCallS_any B8 L.length _ 1 _ o8.rd hL (by omega) (by omega)).mono ?_
        rintro e w' ⟨rfl, rfl⟩
        go_wp2_with fail
        refine (toIntS_any A0 l0 c0 _ (ha0.below bw) hs0).mono ?_
        rintro e w21 ⟨B21, rfl, o21, b21⟩
        have k21 : w20.heap.size ≤ w21.heap.size := b21.size
        have o4 := o4.below b21 (by omega)
        have o5 := o5.below b21 (by omega)
        have o6 := o6.below b21 (by omega)
        have o7 := o7.below b21 (by omega)
        have o8 := o8.below b21 (by omega)
        have bw := bw.trans (b21.mono bw.size)
        go_wp2_with fail
        refine (toIntS_any A1 l1 c1 _ (ha1.below bw) hs1).mono ?_
        rintro e w22 ⟨B22, rfl, o22, b22⟩
        have k22 : w21.heap.size ≤ w22.heap.size := b22.size
        have o4 := o4.below b22 (by omega)
        have o5 := o5.below b22 (by omega)
        have o6 := o6.below b22 (by omega)
        have o7 := o7.below b22 (by omega)
        have o8 := o8.below b22 (by omega)
        have o21 := o21.below b22 (by omega)
        have bw := bw.trans (b22.mono bw.size)
        go_wp2_with fail
        refine (toIntS_any A2 l2 c2 _ (ha2.below bw) hs2).mono ?_
        rintro e w23 ⟨B23, rfl, o23, b23⟩
        have k23 : w22.heap.size ≤ w23.heap.size := b23.size
        have o4 := o4.below b23 (by omega)
        have o5 := o5.below b23 (by omega)
        have o6 := o6.below b23 (by omega)
        have o7 := o7.below b23 (by omega)
        have o8 := o8.below b23 (by omega)
        have o21 := o21.below b23 (by omega)
        have o22 := o22.below b23 (by omega)
        have bw := bw.trans (b23.mono bw.size)
        go_wp2_with fail
        refine (all_val (ba_impl B21 B22 B23 l0 l1 l2 l0.length l1.length l2.length _ o21.rd o22.rd o23.rd hs0 hs1 hs2) HV.out).mono ?_
        rintro e w24 ⟨B24, C24, rfl, o24, b24⟩
        have k24 : w23.heap.size ≤ w24.heap.size := b24.size
        have o4 := o4.below b24 (by omega)
        have o5 := o5.below b24 (by omega)
        have o6 := o6.below b24 (by omega)
        have o7 := o7.below b24 (by omega)
        have o8 := o8.below b24 (by omega)
        have o21 := o21.below b24 (by omega)
        have o22 := o22.below b24 (by omega)
        have o23 := o23.below b24 (by omega)
        have bw := bw.trans (b24.mono bw.size)
        go_wp2_with fail
        refine (eqCallS_any B24 B4 L L _ _ _ (RdCall.of_rd o24.rd) (RdCall.of_rd o4.rd) hL hL).mono ?_
        rintro e w25 ⟨rfl, b25⟩
        have k25 : w24.heap.size ≤ w25.heap.size := b25.size
        have o4 := o4.below b25 (by omega)
        have o5 := o5.below b25 (by omega)
        have o6 := o6.below b25 (by omega)
        have o7 := o7.below b25 (by omega)
        have o8 := o8.below b25 (by omega)
        have o21 := o21.below b25 (by omega)
        have o22 := o22.below b25 (by omega)
        have o23 := o23.below b25 (by omega)
        have o24 := o24.below b25 (by omega)
        have bw := bw.trans (b25.mono bw.size)
        go_wp2_with fail
        refine (heldCallS_any B8 L.length _ 1 _ o8.rd hL (by omega) (by omega)).mono ?_
        rintro e w' ⟨rfl, rfl⟩
        go_wp2_with fail
        go_ret
        exact ⟨rfl, bw⟩
      · go_enter Try.func7, Try.ntmps7
        go_wp2_with fail
        go_ret
        exact ⟨rfl, Below.refl _ _⟩
    · go_enter Try.func7, Try.ntmps7
      go_wp2_with fail
      go_ret
      exact ⟨rfl, Below.refl _ _⟩
  · go_enter Try.func7, Try.ntmps7
    go_wp2_with fail
    go_ret
    exact ⟨rfl, Below.refl _ _⟩
end Go.Proofs.Ytiejkcjbjjnacaa
