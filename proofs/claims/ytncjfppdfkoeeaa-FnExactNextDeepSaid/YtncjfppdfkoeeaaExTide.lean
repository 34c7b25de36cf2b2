/- Each function on tides, called by its statement: the program's answer is the reference's, and the argument's copy reads as before. -/
import Derived.Test.YtncjfppdfkoeeaaTide
namespace Go.Proofs.Ytncjfppdfkoeeaa
open Go.RowKit
set_option linter.unusedVariables false

set_option maxHeartbeats 400000 in
theorem law_ExTideValid {A : Option Addr} {l : List Int} {c : Nat} (w : World) (ha : Rd w A l) (hl : l.length ≤ 9223372036854775807)  :
    Calls Try.prog 3 #[.slice A l.length c] w fun e w' => e = .returned (.bool true) ∧ Below w.heap.size w w' := by
  by_cases hs : l.length ≤ 1048576
  · go_enter Try.func3, Try.ntmps3
    go_wp2_with fail
    refine (toIntS_any A l c _ ha hs).mono ?_
    rintro e w1 ⟨A1, rfl, o1, b1⟩
    go_wp2_with fail
    refine (tv_spec A1 l l.length  _ o1.rd hs).mono ?_
    rintro e w1' ⟨rfl, rfl⟩
    go_wp2_with fail
    refine (toIntS_any A l c _ (ha.below b1) hs).mono ?_
    rintro e w2 ⟨A2, rfl, o2, b2⟩
    go_wp2_with fail
    refine (tv_impl A2 l l.length  _ o2.rd hs).mono ?_
    rintro e w2' ⟨rfl, rfl⟩
    go_wp2_with fail
    refine (toIntS_any A l c _ ((ha.below b1).below b2) hs).mono ?_
    rintro e w3 ⟨A3, rfl, o3, b3⟩
    go_wp2_with fail
    refine (eqIntS_any A2 A3 l l _ _ _ (o2.rd.below b3) o3.rd hs hs).mono ?_
    rintro e w4 ⟨rfl, n, rfl⟩
    go_wp2_with fail
    go_ret
    exact ⟨by simp, below_drewN (b1.trans ((b2.mono b1.size).trans (b3.mono (Nat.le_trans b1.size b2.size)))) n⟩
  · go_enter Try.func3, Try.ntmps3
    go_wp2
    go_ret
    exact ⟨rfl, Below.refl _ _⟩

set_option maxHeartbeats 400000 in
theorem law_ExDepthAt {A : Option Addr} {l : List Int} {c : Nat} {h : Int} (w : World) (ha : Rd w A l) (hl : l.length ≤ 9223372036854775807) (hh1 : -9223372036854775808 ≤ h) (hh2 : h ≤ 9223372036854775807) :
    Calls Try.prog 4 #[.slice A l.length c, .int .i64 h] w fun e w' => e = .returned (.bool true) ∧ Below w.heap.size w w' := by
  by_cases hs : l.length ≤ 1048576
  · go_enter Try.func4, Try.ntmps4
    go_wp2_with fail
    refine (toIntS_any A l c _ ha hs).mono ?_
    rintro e w1 ⟨A1, rfl, o1, b1⟩
    go_wp2_with fail
    refine (da_spec A1 l l.length _ _ o1.rd hs).mono ?_
    rintro e w1' ⟨rfl, rfl⟩
    go_wp2_with fail
    refine (toIntS_any A l c _ (ha.below b1) hs).mono ?_
    rintro e w2 ⟨A2, rfl, o2, b2⟩
    go_wp2_with fail
    refine (da_impl A2 l l.length _ _ o2.rd hs).mono ?_
    rintro e w2' ⟨rfl, rfl⟩
    go_wp2_with fail
    refine (toIntS_any A l c _ ((ha.below b1).below b2) hs).mono ?_
    rintro e w3 ⟨A3, rfl, o3, b3⟩
    go_wp2_with fail
    refine (eqIntS_any A2 A3 l l _ _ _ (o2.rd.below b3) o3.rd hs hs).mono ?_
    rintro e w4 ⟨rfl, n, rfl⟩
    go_wp2_with fail
    go_ret
    exact ⟨by simp, below_drewN (b1.trans ((b2.mono b1.size).trans (b3.mono (Nat.le_trans b1.size b2.size)))) n⟩
  · go_enter Try.func4, Try.ntmps4
    go_wp2
    go_ret
    exact ⟨rfl, Below.refl _ _⟩

set_option maxHeartbeats 400000 in
theorem law_ExDeepFor {A : Option Addr} {l : List Int} {c : Nat} {h m d : Int} (w : World) (ha : Rd w A l) (hl : l.length ≤ 9223372036854775807) (hh1 : -9223372036854775808 ≤ h) (hh2 : h ≤ 9223372036854775807) (hm1 : -9223372036854775808 ≤ m) (hm2 : m ≤ 9223372036854775807) (hd1 : -9223372036854775808 ≤ d) (hd2 : d ≤ 9223372036854775807) :
    Calls Try.prog 5 #[.slice A l.length c, .int .i64 h, .int .i64 m, .int .i64 d] w fun e w' => e = .returned (.bool true) ∧ Below w.heap.size w w' := by
  by_cases hs : l.length ≤ 1048576
  · go_enter Try.func5, Try.ntmps5
    go_wp2_with fail
    refine (toIntS_any A l c _ ha hs).mono ?_
    rintro e w1 ⟨A1, rfl, o1, b1⟩
    go_wp2_with fail
    refine (df_spec A1 l l.length _ _ _ _ o1.rd hs).mono ?_
    rintro e w1' ⟨rfl, rfl⟩
    go_wp2_with fail
    refine (toIntS_any A l c _ (ha.below b1) hs).mono ?_
    rintro e w2 ⟨A2, rfl, o2, b2⟩
    go_wp2_with fail
    refine (df_impl A2 l l.length _ _ _ _ o2.rd hs).mono ?_
    rintro e w2' ⟨rfl, rfl⟩
    go_wp2_with fail
    refine (toIntS_any A l c _ ((ha.below b1).below b2) hs).mono ?_
    rintro e w3 ⟨A3, rfl, o3, b3⟩
    go_wp2_with fail
    refine (eqIntS_any A2 A3 l l _ _ _ (o2.rd.below b3) o3.rd hs hs).mono ?_
    rintro e w4 ⟨rfl, n, rfl⟩
    go_wp2_with fail
    go_ret
    exact ⟨by simp, below_drewN (b1.trans ((b2.mono b1.size).trans (b3.mono (Nat.le_trans b1.size b2.size)))) n⟩
  · go_enter Try.func5, Try.ntmps5
    go_wp2
    go_ret
    exact ⟨rfl, Below.refl _ _⟩

set_option maxHeartbeats 400000 in
theorem law_ExDeepMost {A : Option Addr} {l : List Int} {c : Nat} {h m : Int} (w : World) (ha : Rd w A l) (hl : l.length ≤ 9223372036854775807) (hh1 : -9223372036854775808 ≤ h) (hh2 : h ≤ 9223372036854775807) (hm1 : -9223372036854775808 ≤ m) (hm2 : m ≤ 9223372036854775807) :
    Calls Try.prog 6 #[.slice A l.length c, .int .i64 h, .int .i64 m] w fun e w' => e = .returned (.bool true) ∧ Below w.heap.size w w' := by
  by_cases hs : l.length ≤ 1048576
  · go_enter Try.func6, Try.ntmps6
    go_wp2_with fail
    refine (toIntS_any A l c _ ha hs).mono ?_
    rintro e w1 ⟨A1, rfl, o1, b1⟩
    go_wp2_with fail
    refine (dm_spec A1 l l.length _ _ _ o1.rd hs).mono ?_
    rintro e w1' ⟨rfl, rfl⟩
    go_wp2_with fail
    refine (toIntS_any A l c _ (ha.below b1) hs).mono ?_
    rintro e w2 ⟨A2, rfl, o2, b2⟩
    go_wp2_with fail
    refine (dm_impl A2 l l.length _ _ _ o2.rd hs).mono ?_
    rintro e w2' ⟨rfl, rfl⟩
    go_wp2_with fail
    refine (toIntS_any A l c _ ((ha.below b1).below b2) hs).mono ?_
    rintro e w3 ⟨A3, rfl, o3, b3⟩
    go_wp2_with fail
    refine (eqIntS_any A2 A3 l l _ _ _ (o2.rd.below b3) o3.rd hs hs).mono ?_
    rintro e w4 ⟨rfl, n, rfl⟩
    go_wp2_with fail
    go_ret
    exact ⟨by simp, below_drewN (b1.trans ((b2.mono b1.size).trans (b3.mono (Nat.le_trans b1.size b2.size)))) n⟩
  · go_enter Try.func6, Try.ntmps6
    go_wp2
    go_ret
    exact ⟨rfl, Below.refl _ _⟩

set_option maxHeartbeats 400000 in
theorem law_ExNextDeep {A : Option Addr} {l : List Int} {c : Nat} {h m d : Int} (w : World) (ha : Rd w A l) (hl : l.length ≤ 9223372036854775807) (hh1 : -9223372036854775808 ≤ h) (hh2 : h ≤ 9223372036854775807) (hm1 : -9223372036854775808 ≤ m) (hm2 : m ≤ 9223372036854775807) (hd1 : -9223372036854775808 ≤ d) (hd2 : d ≤ 9223372036854775807) :
    Calls Try.prog 7 #[.slice A l.length c, .int .i64 h, .int .i64 m, .int .i64 d] w fun e w' => e = .returned (.bool true) ∧ Below w.heap.size w w' := by
  by_cases hs : l.length ≤ 1048576
  · go_enter Try.func7, Try.ntmps7
    go_wp2_with fail
    refine (toIntS_any A l c _ ha hs).mono ?_
    rintro e w1 ⟨A1, rfl, o1, b1⟩
    go_wp2_with fail
    refine (nd_spec A1 l l.length _ _ _ _ o1.rd hs).mono ?_
    rintro e w1' ⟨⟨r, Hr, rfl⟩, rfl⟩
    go_wp2_with fail
    refine (toIntS_any A l c _ (ha.below b1) hs).mono ?_
    rintro e w2 ⟨A2, rfl, o2, b2⟩
    go_wp2_with fail
    refine (nd_impl A2 l l.length _ _ _ _ o2.rd hs).mono ?_
    rintro e w2' ⟨⟨s, Hs, rfl⟩, rfl⟩
    obtain rfl := isNext_unique Hr Hs
    go_wp2_with fail
    refine (toIntS_any A l c _ ((ha.below b1).below b2) hs).mono ?_
    rintro e w3 ⟨A3, rfl, o3, b3⟩
    go_wp2_with fail
    refine (eqIntS_any A2 A3 l l _ _ _ (o2.rd.below b3) o3.rd hs hs).mono ?_
    rintro e w4 ⟨rfl, n, rfl⟩
    go_wp2_with fail
    go_ret
    exact ⟨by simp, below_drewN (b1.trans ((b2.mono b1.size).trans (b3.mono (Nat.le_trans b1.size b2.size)))) n⟩
  · go_enter Try.func7, Try.ntmps7
    go_wp2
    go_ret
    exact ⟨rfl, Below.refl _ _⟩
end Go.Proofs.Ytncjfppdfkoeeaa
