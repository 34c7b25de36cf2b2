/- Boxes in the order in which they are loaded: the comparison. -/
import Derived.Test.YtphncbnnnickhaaSortF
namespace Go.Proofs.Ytphncbnnnickhaa
open Go.RowKit Go.Shelf
set_option linter.unusedVariables false
set_option linter.unusedSimpArgs false

def orI : List Int → Int
  | [] => 0
  | x :: l => if x = 0 then orI l else x
theorem orI_drop_go {l : List Int} {k : Nat} (h : l[k]? = some 0) : orI (l.drop k) = orI (l.drop (k + 1)) := by
  obtain ⟨hk, e⟩ := List.getElem?_eq_some_iff.1 h
  rw [List.drop_eq_getElem_cons hk, e]; simp [orI]
theorem orI_drop_stop {l : List Int} {k : Nat} {x : Int} (h : l[k]? = some x) (hx : x ≠ 0) : orI (l.drop k) = x := by
  obtain ⟨hk, e⟩ := List.getElem?_eq_some_iff.1 h
  rw [List.drop_eq_getElem_cons hk, e]; simp [orI, hx]
set_option maxHeartbeats 800000 in
theorem or_any (A : Option Addr) (l : List Int) (c : Nat) (w : World) (ha : Rd w A l) (hl : l.length ≤ 1048576) :
    Calls Try.prog 43 #[.slice A l.length c] w fun e w' => e = .returned (.int .i64 (orI l)) ∧ w = w' := by
  obtain ⟨r, HR⟩ : ∃ r, Hid (orI l = r) := ⟨_, rfl⟩
  rw [HR.out]
  go_enter Try.func43, Try.ntmps43
  go_wp2_with fail
  go_loop [8] (fun i => ∃ k : Nat, k ≤ l.length ∧ i = .int .i64 k ∧ Hid (orI (l.drop k) = r)) (fun i => l.length - (intOf i).toNat)
  case atStart => exact ⟨0, by omega, rfl, HR.out⟩
  case round =>
    obtain ⟨k, hk, rfl, Hk⟩ := hrel
    by_cases hlt : k < l.length
    · obtain ⟨b, off, x, rfl, hbx, Hx, hx0⟩ := ha.at_ (k := k) hlt
      have q0 : (0 : Int) ≤ (k : Int) := by omega
      have q1 : (k : Int) < (l.length : Int) := by omega
      by_cases h0 : x = 0
      · have t0 : (x != 0) = false := by simp [h0]
        have HN : Hid (orI (l.drop (k + 1)) = r) := by show _ = _; rw [← Hk.out]; exact (orI_drop_go (by rw [Hx.out, h0])).symm
        clear h0
        go_wp2_with fail
        exact ⟨⟨k + 1, by omega, by go_num, HN.out⟩, by simp [intOf]; omega⟩
      · have t0 : (x != 0) = true := by simp [h0]
        have HN : Hid (r = x) := by show _ = _; rw [← Hk.out, orI_drop_stop Hx.out h0]
        clear h0
        go_wp2_with fail
        go_ret
        exact ⟨ret_int HN.out.symm, rfl⟩
    · have HN : Hid (r = 0) := by show _ = _; rw [← Hk.out, List.drop_eq_nil_of_le (by omega)]; rfl
      go_wp2_with fail
      go_ret
      exact ⟨ret_int HN.out.symm, rfl⟩
/-- Less than 0: x is loaded before y. -/
def cfB (x y : BoxV) : Int := orI [cmpI y.port x.port, cmpI y.weight x.weight, cmpI x.id y.id]
theorem cmpI_bd (x y : Int) : -1 ≤ cmpI x y ∧ cmpI x y ≤ 1 := by unfold cmpI; split <;> (try split) <;> omega
theorem cfB_bd (x y : BoxV) : -100000 ≤ cfB x y ∧ cfB x y ≤ 100000 := by
  have h1 := cmpI_bd y.port x.port
  have h2 := cmpI_bd y.weight x.weight
  have h3 := cmpI_bd x.id y.id
  unfold cfB
  simp only [orI]
  split
  · split
    · split <;> omega
    · omega
  · omega
set_option maxHeartbeats 3200000 in
theorem cfB_any (x y : BoxV) (w : World) :
    Calls Try.prog 42 #[.agg #[.int .i64 x.id, .int .i64 x.weight, .int .i64 x.class_, .int .i64 x.port, .bool x.cold], .agg #[.int .i64 y.id, .int .i64 y.weight, .int .i64 y.class_, .int .i64 y.port, .bool y.cold]] w fun e w' => e = .returned (.int .i64 (cfB x y)) ∧ Below w.heap.size w w' := by
  obtain ⟨r, HR⟩ : ∃ r, Hid (cfB x y = r) := ⟨_, rfl⟩
  rw [HR.out]
  obtain ⟨r1, HR1⟩ : ∃ r, Hid (cmpI y.port x.port = r) := ⟨_, rfl⟩
  obtain ⟨r2, HR2⟩ : ∃ r, Hid (cmpI y.weight x.weight = r) := ⟨_, rfl⟩
  obtain ⟨r3, HR3⟩ : ∃ r, Hid (cmpI x.id y.id = r) := ⟨_, rfl⟩
  have HO : Hid (∀ (g : Nat) (W : World), Blk W g 3 #[.int .i64 r1, .int .i64 r2, .int .i64 r3] → Calls Try.prog 43 #[.slice (some ⟨g, 0, none⟩) 3 3] W fun e w' => e = .returned (.int .i64 r) ∧ W = w') := fun g W hb =>
    (or_any _ [r1, r2, r3] 3 W (Own.of_lit (l := [r1, r2, r3]) (lo := 0) (hi := g + 1) hb (by omega) (by omega)).rd (by simp)).mono fun e w' ⟨h1, h2⟩ => ⟨h1.trans (ret_int (by rw [← HR.out, ← HR1.out, ← HR2.out, ← HR3.out]; rfl)), h2⟩
  have HC1 : Hid (∀ W, Calls Try.prog 44 #[.int .i64 y.port, .int .i64 x.port] W fun e w' => e = .returned (.int .i64 r1) ∧ W = w') := fun W => by rw [← HR1.out]; exact compare_any _ _ _
  have HC2 : Hid (∀ W, Calls Try.prog 44 #[.int .i64 y.weight, .int .i64 x.weight] W fun e w' => e = .returned (.int .i64 r2) ∧ W = w') := fun W => by rw [← HR2.out]; exact compare_any _ _ _
  have HC3 : Hid (∀ W, Calls Try.prog 44 #[.int .i64 x.id, .int .i64 y.id] W fun e w' => e = .returned (.int .i64 r3) ∧ W = w') := fun W => by rw [← HR3.out]; exact compare_any _ _ _
  have k1 := Blk.new w 45 #[.int .i64 x.id, .int .i64 x.weight, .int .i64 x.class_, .int .i64 x.port, .bool x.cold]
  have k2 := Blk.new (w.alloc (.cells #[.int .i64 x.id, .int .i64 x.weight, .int .i64 x.class_, .int .i64 x.port, .bool x.cold] 45)) 45 #[.int .i64 y.id, .int .i64 y.weight, .int .i64 y.class_, .int .i64 y.port, .bool y.cold]
  have k1 := k1.alloc (.cells #[.int .i64 y.id, .int .i64 y.weight, .int .i64 y.class_, .int .i64 y.port, .bool y.cold] 45)
  have B0 := ((Below.refl w.heap.size w).alloc (Nat.le_refl _) (.cells #[.int .i64 x.id, .int .i64 x.weight, .int .i64 x.class_, .int .i64 x.port, .bool x.cold] 45)).alloc (by simp) (.cells #[.int .i64 y.id, .int .i64 y.weight, .int .i64 y.class_, .int .i64 y.port, .bool y.cold] 45)
  obtain ⟨W1, HW⟩ : ∃ W1, Hid ((w.alloc (.cells #[.int .i64 x.id, .int .i64 x.weight, .int .i64 x.class_, .int .i64 x.port, .bool x.cold] 45)).alloc (.cells #[.int .i64 y.id, .int .i64 y.weight, .int .i64 y.class_, .int .i64 y.port, .bool y.cold] 45) = W1) := ⟨_, rfl⟩
  rw [HW.out] at k1 k2 B0
  have k2 : Blk W1 (w.heap.size + 1) 45 #[.int .i64 y.id, .int .i64 y.weight, .int .i64 y.class_, .int .i64 y.port, .bool y.cold] := by simpa using k2
  obtain ⟨X, HX⟩ : ∃ X, Hid (w.heap.size = X) := ⟨_, rfl⟩
  rw [HX.out] at k1 k2
  have HK1 := Lib.hid k1
  have HK2 := Lib.hid k2
  have HB0 := Lib.hid B0
  clear k1 k2 B0
  have HO1 := Lib.hid (HO.out W1.heap.size (W1.alloc (.cells #[.int .i64 r1, .int .i64 r2, .int .i64 r3] 3)).drew (Blk.new W1 3 #[.int .i64 r1, .int .i64 r2, .int .i64 r3]))
  go_enter Try.func42, Try.ntmps42
  go_wp2_with fail
  rw [HW.out, HX.out]
  go_region_held3 (fun W => W.cell? ⟨X, 3, none⟩ = some (.int .i64 x.port) ∧ W.cell? ⟨X + 1, 3, none⟩ = some (.int .i64 y.port) ∧ W.cell? ⟨X, 1, none⟩ = some (.int .i64 x.weight) ∧ W.cell? ⟨X + 1, 1, none⟩ = some (.int .i64 y.weight) ∧ W.cell? ⟨X, 0, none⟩ = some (.int .i64 x.id) ∧ W.cell? ⟨X + 1, 0, none⟩ = some (.int .i64 y.id)) (first | exact ⟨HK1.out.cell 3, HK2.out.cell 3, HK1.out.cell 1, HK2.out.cell 1, HK1.out.cell 0, HK2.out.cell 0⟩ | exact ⟨((HK1.out.drewN 1).alloc _).cell 3, ((HK2.out.drewN 1).alloc _).cell 3, ((HK1.out.drewN 1).alloc _).cell 1, ((HK2.out.drewN 1).alloc _).cell 1, ((HK1.out.drewN 1).alloc _).cell 0, ((HK2.out.drewN 1).alloc _).cell 0⟩) (first | (go_at_call 44; (with_reducible refine (HC1.out _).mono ?_); rintro e w' ⟨rfl, rfl⟩) | (go_at_call 44; (with_reducible refine (HC2.out _).mono ?_); rintro e w' ⟨rfl, rfl⟩) | (go_at_call 44; (with_reducible refine (HC3.out _).mono ?_); rintro e w' ⟨rfl, rfl⟩) | (go_at_call 43; refine HO1.out.mono ?_; rintro e w' ⟨rfl, rfl⟩))
  go_wp2_with fail
  go_ret
  exact ⟨rfl, (HB0.out.alloc HB0.out.size _).drew⟩
end Go.Proofs.Ytphncbnnnickhaa
