/- The ship and the boxes that are drawn for FillPlan. -/
import Derived.Test.YtphncbnnnickhaaFillQ
namespace Go.Proofs.Ytphncbnnnickhaa
open Go.RowKit
set_option linter.unusedVariables false
set_option linter.unusedSimpArgs false

section
variable {A : Option Addr} {l : List Int} {c : Nat}
def GotFill (w : World) (e : Ending) (w' : World) : Prop := ∃ (h : HullV) (l2 : List BoxV) (g1 c1 : Nat), e = .returned (.tuple #[.agg #[.int .i64 h.bays, .int .i64 h.rows, .int .i64 h.tiers], .slice (some ⟨g1, 0, none⟩) l2.length c1]) ∧ l2.length ≤ 12 ∧ l2.length ≤ c1 ∧ RdBox w' (some ⟨g1, 0, none⟩) l2 ∧ Below w.heap.size w w'
set_option maxHeartbeats 6400000 in
set_option maxRecDepth 20000 in
theorem drawFP (w : World) (ha : RdU w A l) (hc : l.length ≤ c) (hl : l.length ≤ 1048576) : Calls Try.prog 26 #[.slice A l.length c] w (GotFill w) := by
  have kR := Blk.new w 36 #[.int .i64 0, .int .i64 0, .int .i64 0]
  have B0 := below_one (w := w) (.cells #[.int .i64 0, .int .i64 0, .int .i64 0] 36)
  go_enter Try.func26, Try.ntmps26
  go_wp2_with fail
  refine (open_any _ (ha.alloc _) hc hl).mono ?_
  rintro e w1 ⟨g, rfl, r1, b1⟩
  have kR := kR.below b1 kR.lt
  have B1 := B0.trans (b1.mono B0.size)
  have hRs := kR.lt
  obtain ⟨R, HR⟩ : ∃ R, Hid (w.heap.size = R) := ⟨_, rfl⟩
  have HWR : Hid ((w.alloc (.cells #[.int .i64 0, .int .i64 0, .int .i64 0] 36)).heap.size ≤ w1.heap.size) := b1.size
  have hRg : R < g := by have h1 := r1.lo; have h2 := HR.out; simp at h1; omega
  rw [HR.out] at kR hRs
  clear b1 B0 ha
  go_wp2_with fail
  rw [HR.out]
  refine (hull_any _ g _ 12 _ r1 (by omega) (by omega) (by omega)).mono ?_
  rintro e w2 ⟨h, rfl, hd⟩
  have kR := kR.chg hd.chg (.inl hRg)
  have HB2 : Hid (Below w.heap.size w w2) := B1.trans (hd.chg.below (B := w.heap.size) (by have := HR.out; omega) B1.size)
  have kC := Blk.new w2 36 #[.int .i64 h.bays, .int .i64 h.rows, .int .i64 h.tiers]
  have DV : Hid (Drawn _ g _ w1 (w2.alloc (.cells #[.int .i64 h.bays, .int .i64 h.rows, .int .i64 h.tiers] 36)).drew) := (hd.alloc _).drew
  have kR := kR.alloc (.cells #[.int .i64 h.bays, .int .i64 h.rows, .int .i64 h.tiers] 36)
  have HBV : Hid (Below w.heap.size w (w2.alloc (.cells #[.int .i64 h.bays, .int .i64 h.rows, .int .i64 h.tiers] 36)).drew) := bel_drB (HB2.out.alloc HB2.out.size _)
  obtain ⟨C, HC⟩ : ∃ C, Hid (w2.heap.size = C) := ⟨_, rfl⟩
  have hRC : R < C := by have h1 := hd.chg.size; have := HC.out; omega
  have hgC : g < C := by have h1 := hd.chg.size; have h3 := r1.lt; have := HC.out; omega
  rw [HC.out] at kC
  obtain ⟨V, HV⟩ : ∃ V, Hid (w2.alloc (.cells #[.int .i64 h.bays, .int .i64 h.rows, .int .i64 h.tiers] 36) = V) := ⟨_, rfl⟩
  rw [HV.out] at kR kC DV HBV
  have HSV := Lib.hid (And.intro (kC.cell 0) (And.intro (kC.cell 1) (kC.cell 2)))
  have kC := kC.drewN 1
  have kR := kR.drewN 1
  have hRV : R < (V.drew).heap.size := kR.lt
  clear hd B1 r1 HB2
  go_wp2_with fail
  rw [HV.out, HC.out]
  refine wp_region_held_drew (S := (fun W => W.cell? ⟨C, 0, none⟩ = some (.int .i64 h.bays) ∧ W.cell? ⟨C, 1, none⟩ = some (.int .i64 h.rows) ∧ W.cell? ⟨C, 2, none⟩ = some (.int .i64 h.tiers))) (by kernel_rfl) (by (try dsimp only); exact HSV.out) (fun hHeld => ?_)
  refine wpAnyH_take (i := 0) (oi := ⟨some 10, _, _, _, _, _⟩) (v := ?_) rfl (by kernel_rfl) (by kernel_rfl) (by kernel_rfl) (fun _ _ _ h => h) (Or.inl ⟨by rfl, ?_⟩) (by assumption) ?_
  rotate_left
  · intro w hSw; (try dsimp only at hSw); go_simp; try rfl
  try simp only [Act.put, List.setIfInBounds_toArray, List.set_cons_zero, List.set_cons_succ]
  refine wpAnyH_take (i := 1) (oi := ⟨some 11, _, _, _, _, _⟩) (v := ?_) rfl (by kernel_rfl) (by kernel_rfl) (by kernel_rfl) (fun _ _ _ h => h) (Or.inl ⟨by rfl, ?_⟩) (by assumption) ?_
  rotate_left
  · intro w hSw; (try dsimp only at hSw); go_simp; try rfl
  try simp only [Act.put, List.setIfInBounds_toArray, List.set_cons_zero, List.set_cons_succ]
  refine wpAnyH_ready (rs := [2]) (by kernel_rfl) (by simp) ?_
  refine AllReadyH.cons (o := ⟨some 12, _, _, _, _, _⟩) rfl (fun K hK => ?_) AllReadyH.nil
  go_simp
  refine (boxes_any _ g _ 12 _ DV.out.rdr (by omega) (by omega) (by omega)).mono ?_
  rintro e w3 ⟨g1, l2, c1, rfl, hl12, hlc, ob, hd⟩
  dsimp only
  have kC3 := kC.chg hd.chg (.inr (by omega))
  have kR3 := kR.chg hd.chg (.inl hRg)
  have HS3 := Lib.hid (And.intro (kC3.cell 0) (And.intro (kC3.cell 1) (kC3.cell 2)))
  have c0 := kR3.cell 0
  have c11 := kR3.cell 1
  have c22 := kR3.cell 2
  have f0 := kR3.frozen 0
  have f1 := kR3.frozen 1
  have f2 := kR3.frozen 2
  simp only [List.getElem?_toArray, List.getElem?_cons_zero, List.getElem?_cons_succ] at c0 c11 c22
  have HCH : Hid (Chg R (R + 1) w3 (((w3.setCell ⟨R, 0, none⟩ (.int .i64 h.bays)).setCell ⟨R, 1, none⟩ (.int .i64 h.rows)).setCell ⟨R, 2, none⟩ (.int .i64 h.tiers))) := (((Chg.refl R (R + 1) w3).setCell (p := ⟨R, 0, none⟩) (Nat.le_refl _) (Nat.lt_succ_self _) _).setCell (p := ⟨R, 1, none⟩) (Nat.le_refl _) (Nat.lt_succ_self _) _).setCell (p := ⟨R, 2, none⟩) (Nat.le_refl _) (Nat.lt_succ_self _) _
  have kC4 := kC3.chg HCH.out (.inr hRC)
  have HS4 := Lib.hid (And.intro (kC4.cell 0) (And.intro (kC4.cell 1) (kC4.cell 2)))
  have HB3 : Hid (Below w.heap.size w w3) := HBV.out.trans (hd.chg.below (B := w.heap.size) (by have := HR.out; omega) HBV.out.size)
  have HF : Hid (GotFill w (.returned (.tuple #[.agg #[.int .i64 h.bays, .int .i64 h.rows, .int .i64 h.tiers], .slice (some ⟨g1, 0, none⟩) l2.length c1])) (((w3.setCell ⟨R, 0, none⟩ (.int .i64 h.bays)).setCell ⟨R, 1, none⟩ (.int .i64 h.rows)).setCell ⟨R, 2, none⟩ (.int .i64 h.tiers))) := ⟨h, l2, g1, c1, rfl, hl12, hlc, RdBox.of_rd (ob.chg HCH.out (.inr hRV)).rd, HB3.out.trans (HCH.out.below (by have := HR.out; omega) (HB3.out.size))⟩
  have kR4 := ((kR3.set_ 0 (.int .i64 h.bays)).set_ 1 (.int .i64 h.rows)).set_ 2 (.int .i64 h.tiers)
  have HRR := Lib.hid (And.intro (kR4.cell 0) (And.intro (kR4.cell 1) (kR4.cell 2)))
  clear kC3 kR3 kC4 kR4 ob hd
  refine hK.out _ _ ?_ (fun hHeld => ?_)
  · (try dsimp only); (exact HS3.out)
  clear hK K
  try simp only [Act.put, List.setIfInBounds_toArray, List.set_cons_zero, List.set_cons_succ]
  refine wpAnyH_ready (rs := [3]) (by kernel_rfl) (by simp) ?_
  refine AllReadyH.cons (o := ⟨none, _, _, _, _, _⟩) rfl (fun K hK => ?_) AllReadyH.nil
  go_simp
  refine hK.out _ _ ?_ (fun hHeld => ?_)
  · (try dsimp only); (exact HS4.out)
  clear hK K
  try simp only [Act.put, List.setIfInBounds_toArray, List.set_cons_zero, List.set_cons_succ]
  refine wpAnyH_take (i := 4) (oi := ⟨some 3, _, _, _, _, _⟩) (v := ?_) rfl (by kernel_rfl) (by kernel_rfl) (by kernel_rfl) (fun _ _ _ h => h) (Or.inl ⟨by rfl, ?_⟩) (by assumption) ?_
  rotate_left
  · intro w hSw; (try dsimp only at hSw); go_simp; try rfl
  try simp only [Act.put, List.setIfInBounds_toArray, List.set_cons_zero, List.set_cons_succ]
  refine wpAnyH_done (by kernel_rfl) ?_ _
  obtain ⟨c0, c11, c22⟩ := HRR.out
  go_wp2_with fail
  refine bodyPost_ret (v := .tuple #[.agg #[.int .i64 h.bays, .int .i64 h.rows, .int .i64 h.tiers], .slice (some ⟨g1, 0, none⟩) l2.length c1]) (by simp [results, Try.results26, go_sem, c0, c11, c22]) rfl ?_
  exact HF.out
end
end Go.Proofs.Ytphncbnnnickhaa
