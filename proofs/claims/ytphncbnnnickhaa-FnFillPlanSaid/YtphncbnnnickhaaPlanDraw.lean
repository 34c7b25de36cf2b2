/- A plan that is drawn, with its ship and boxes. -/
import Derived.Test.YtphncbnnnickhaaPut
import Derived.Test.YtphncbnnnickhaaHullDraw
import Derived.Test.YtphncbnnnickhaaBoxesDraw
namespace Go.Proofs.Ytphncbnnnickhaa
open Go.RowKit
set_option linter.unusedVariables false
set_option linter.unusedSimpArgs false

def DrewPlan (lo g p : Nat) (w : World) (e : Ending) (w' : World) : Prop :=
  ∃ (h : HullV) (l : List BoxV) (L : List Int) (g1 c1 : Nat) (A : Option Addr) (c : Nat), e = .returned (.tuple #[.agg #[.int .i64 h.bays, .int .i64 h.rows, .int .i64 h.tiers], .slice (some ⟨g1, 0, none⟩) l.length c1, .slice A L.length c]) ∧ l.length ≤ 12 ∧ l.length ≤ c1 ∧ L.length ≤ 100 ∧ L.length ≤ c ∧ OwnV 45 w' w.heap.size w'.heap.size (some ⟨g1, 0, none⟩) (flatBox l) ∧ Own 3 w' w.heap.size w'.heap.size A L ∧ Drawn lo g (p + 500) w w'
theorem drew_plan {lo g p q R LB Z n g1 c1 c : Nat} {w W : World} {h : HullV} {l : List BoxV} {L : List Int} {A : Option Addr} {a b d : Value} (hn : L.length = n) (hl : l.length ≤ 12) (hlc : l.length ≤ c1) (h40 : n ≤ 100) (hc : n ≤ c) (ob : OwnV 45 W LB Z (some ⟨g1, 0, none⟩) (flatBox l)) (row : W.ownsRow Z 3 1 (.slice A n c) n (L.map (Value.int .i64)))
    (hD : Drawn lo g q w W) (hR : w.heap.size ≤ R) (hRZ : R < Z) (hRL : R < LB) (hZW : Z ≤ W.heap.size) (hg : g < w.heap.size) (hq : q ≤ p + 500) : DrewPlan lo g p w (.returned (.tuple #[.agg #[.int .i64 h.bays, .int .i64 h.rows, .int .i64 h.tiers], .slice (some ⟨g1, 0, none⟩) l.length c1, .slice A n c])) (((W.setCell ⟨R, 0, none⟩ a).setCell ⟨R, 1, none⟩ b).setCell ⟨R, 2, none⟩ d) := by
  subst hn
  have hch : Chg R (R + 1) W (((W.setCell ⟨R, 0, none⟩ a).setCell ⟨R, 1, none⟩ b).setCell ⟨R, 2, none⟩ d) := (((Chg.refl R (R + 1) W).setCell (p := ⟨R, 0, none⟩) (Nat.le_refl _) (Nat.lt_succ_self _) a).setCell (p := ⟨R, 1, none⟩) (Nat.le_refl _) (Nat.lt_succ_self _) b).setCell (p := ⟨R, 2, none⟩) (Nat.le_refl _) (Nat.lt_succ_self _) d
  exact ⟨h, l, L, g1, c1, A, c, rfl, hl, hlc, h40, hc, (ob.chg hch (.inr hRL)).wide (by omega) (by have := hch.size; omega), (Own.of_row (row_chg row hch hRZ) (Nat.le_refl _)).wide (by omega) (Nat.le_refl _), drawn_set3 hD hR hg hq⟩

theorem row_dr1 {w : World} {base size n : Nat} {t : TypeId} {v : Value} {xs : List Value} (h : w.ownsRow base t size v n xs) : w.drew.ownsRow base t size v n xs := h
theorem own_dr1 {t : TypeId} {w : World} {lo hi : Nat} {A : Option Addr} {l : List Int} (h : Own t w lo hi A l) : Own t w.drew lo hi A l := h
theorem putS_len (h : HullV) (l : List BoxV) (pl : List Int) (s id : Int) : (putS h l pl s id).1.length ≤ pl.length := by
  unfold putS
  split
  · split
    · simp
    · simp
  · simp
set_option maxHeartbeats 25600000 in
set_option maxRecDepth 20000 in
theorem plan_any (lo g p : Nat) (w : World) (hr : Rdr w lo g p) (hp : p ≤ 800000) :
    Calls Try.prog 66 #[.pointer (some ⟨g, 0, none⟩), .int .i64 10, .int .i64 4] w (DrewPlan lo g p w) := by
  obtain ⟨i0, hi, hz0, hz1, hz2⟩ := info_parts info_int
  have hg := hr.lt
  have kR := Blk.new w 36 #[.int .i64 0, .int .i64 0, .int .i64 0]
  have D := (Drawn.refl hr).alloc (.cells #[.int .i64 0, .int .i64 0, .int .i64 0] 36)
  go_enter Try.func66, Try.ntmps66
  go_wp2_with fail
  refine (hull_any lo g _ 12 _ D.rdr (by omega) (by omega) (by omega)).mono ?_
  rintro e w1 ⟨h, rfl, hd⟩
  have kR := kR.chg hd.chg (.inr (by omega))
  have D := (D.trans hd).alloc (.cells #[.int .i64 h.bays, .int .i64 h.rows, .int .i64 h.tiers] 36)
  have hCs := kR.lt
  have kC := Blk.new w1 36 #[.int .i64 h.bays, .int .i64 h.rows, .int .i64 h.tiers]
  have kR := kR.alloc (.cells #[.int .i64 h.bays, .int .i64 h.rows, .int .i64 h.tiers] 36)
  clear hd
  obtain ⟨R, HR⟩ : ∃ R, Hid (w.heap.size = R) := ⟨_, rfl⟩
  obtain ⟨C, HC⟩ : ∃ C, Hid (w1.heap.size = C) := ⟨_, rfl⟩
  have hRC : R < C := by have := HR.out; have := HC.out; omega
  have hgR : g < R := by have := HR.out; omega
  rw [HR.out] at kR
  rw [HC.out] at kC
  have hRw : w.heap.size ≤ R := by have := HR.out; omega
  obtain ⟨V1, HV1⟩ : ∃ W, Hid (w1.alloc (.cells #[.int .i64 h.bays, .int .i64 h.rows, .int .i64 h.tiers] 36) = W) := ⟨_, rfl⟩
  rw [HV1.out] at kC kR D
  obtain ⟨LB, HLB⟩ : ∃ n, Hid (V1.heap.size = n) := ⟨_, rfl⟩
  have hCL : C < LB := by have := kC.lt; have := HLB.out; omega
  have hRL : R < LB := by omega
  go_wp2_with fail
  rw [HV1.out, HR.out, HC.out]
  refine (boxes_any lo g _ 12 _ D.rdr (by omega) (by omega) (by omega)).mono ?_
  rintro e w2 ⟨g1, l2, c1, rfl, hl12, hlc, ob, hd⟩
  have kC := kC.chg hd.chg (.inr (by omega))
  have kR := kR.chg hd.chg (.inr (by omega))
  have D := D.trans hd
  rw [HLB.out] at ob
  have hsz12 := hd.chg.size
  clear hd
  obtain ⟨Z, HZ⟩ : ∃ n, Hid (w2.heap.size = n) := ⟨_, rfl⟩
  rw [HZ.out] at ob
  have hCZ : C < Z := by have := kC.lt; have := HZ.out; omega
  have hRZ : R < Z := by omega
  have hLZ : LB ≤ Z := by have := HZ.out; have := HLB.out; omega
  have y0 := kC.cell 0
  have y1 := kC.cell 1
  have y2 := kC.cell 2
  simp only [List.getElem?_toArray, List.getElem?_cons_zero, List.getElem?_cons_succ] at y0 y1 y2
  obtain ⟨E, HE⟩ : ∃ E, Hid (emptyS h = E) := ⟨_, rfl⟩
  have hE : E.length ≤ 36 := by
    rw [← HE.out]
    unfold emptyS
    split
    · next hk => rw [zeros_length]; exact (slots_bd hk).2.2
    · simp
  have HEM := empty_spec_all h w2
  rw [HE.out] at HEM
  have HEM := Lib.hid HEM
  go_wp2_with fail
  refine HEM.out.mono ?_
  rintro e w3 ⟨A0, c0, rfl, hc0, row, b3⟩
  rw [HZ.out] at row b3
  have kC := kC.below b3 hCZ
  have kR := kR.below b3 hRZ
  have ob := ob.below b3 (Nat.le_refl _)
  have D := D.below_new (by rw [HZ.out]; exact b3)
  have hZw : Z ≤ w3.heap.size := by have := b3.size; have := HZ.out; omega
  clear y0 y1 y2 b3 HEM
  have HSB : Hid (∀ W, Chg g (g + 1) w3 W → Blk W C 36 #[.int .i64 h.bays, .int .i64 h.rows, .int .i64 h.tiers] ∧ RdBox W (some ⟨g1, 0, none⟩) l2) := fun W hW => ⟨kC.chg hW (.inr (by omega)), RdBox.of_rd (ob.chg hW (.inr (by omega))).rd⟩
  have HKC := Lib.hid kC
  have HKR := Lib.hid kR
  have HOB := Lib.hid ob
  have HD3 := Lib.hid D
  have hrd3 := D.rdr.more (p' := p + 240 + 2 * 0) (by omega)
  clear kC kR ob D
  go_wp2_with fail
  go_loopw [11, 12] (fun v i wr => ∃ (k : Nat) (pl : List Int) (A : Option Addr) (c : Nat), k ≤ l2.length ∧ i = .int .i64 k ∧ pl.length ≤ 36 ∧ v = .slice A pl.length c ∧ pl.length ≤ c ∧ wr.ownsRow Z 3 1 (.slice A pl.length c) pl.length (pl.map (Value.int .i64)) ∧ Rdr wr lo g (p + 240 + 2 * k) ∧ Chg g (g + 1) w3 wr) (fun _ i _ => l2.length - (intOf i).toNat)
  case atStart => exact ⟨0, E, A0, c0, by omega, rfl, hE, rfl, hc0, row, hrd3, Chg.refl _ _ _⟩
  case round =>
    clear row hrd3 hE hc0
    obtain ⟨k, pl, A, c, hk, rfl, hpl, rfl, hpc, row, hrd, hch⟩ := hrel
    have hZr : Z ≤ wr.heap.size := by have := hch.size; omega
    by_cases hlt : k < l2.length
    · obtain ⟨kCw, rbw⟩ := HSB.out wr hch
      obtain ⟨bq, oq, xb, eq, hbq, Hxb, hb0, hb1, hb2, hb3, hb4⟩ := rbw.at_ (k := k) hlt
      injection eq with eq
      injection eq with eq1 eq2 eq3
      subst eq1 eq2
      clear eq3 hb0 hb1 hb2 hb3 hb4
      have q0 : (0 : Int) ≤ (k : Int) := by omega
      have q1 : (k : Int) < (l2.length : Int) := by omega
      have y0 := kCw.cell 0
      have y1 := kCw.cell 1
      have y2 := kCw.cell 2
      simp only [List.getElem?_toArray, List.getElem?_cons_zero, List.getElem?_cons_succ] at y0 y1 y2
      have HSC : Hid (∀ W, Chg g (g + 1) w3 W → W.cell? ⟨C, 0, none⟩ = some (.int .i64 h.bays) ∧ W.cell? ⟨C, 1, none⟩ = some (.int .i64 h.rows) ∧ W.cell? ⟨C, 2, none⟩ = some (.int .i64 h.tiers) ∧ W.cell? ⟨g1, k * 5, none⟩ = some (.int .i64 xb.id)) := fun W hW => by
        obtain ⟨kk, rr⟩ := HSB.out W hW
        obtain ⟨bq, oq, eq, _, hb0, _⟩ := rr k xb Hxb.out
        injection eq with eq
        injection eq with eq1 eq2 eq3
        subst eq1 eq2
        rw [Nat.zero_add] at hb0
        exact ⟨kk.cell 0, kk.cell 1, kk.cell 2, hb0⟩
      obtain ⟨NX, HNX⟩ : ∃ NX, Hid (nextS h l2 pl = NX) := ⟨_, rfl⟩
      have HNXT := next_spec h (some ⟨g1, 0, none⟩) A l2 pl c1 c wr rbw (by omega) (Own.of_row row (Nat.le_refl _)).rd (by omega) hpc
      rw [HNX.out] at HNXT
      have HNXT := Lib.hid HNXT
      have hNX : NX.length ≤ 36 := by
        rw [← HNX.out]
        unfold nextS
        split
        · have := nextTo_length h.tiers pl pl.length; omega
        · simp
      clear kCw rbw hbq
      go_wp2_with fail
      refine HNXT.out.mono ?_
      rintro e w4 ⟨A4, c4, rfl, hc4, o4, b4⟩
      have row := row_chg row (Chg.of_below (lo := 0) (hi := 0) b4 (Nat.le_refl _)) (Nat.zero_le _)
      have hch := hch.trans (Chg.of_below b4 (Nat.le_refl _))
      have hgr := hrd.lt
      have hrd := hrd.below b4 hgr
      have hz4 := b4.size
      clear y0 y1 y2 b4 HNXT
      by_cases hx0 : NX.length = 0
      · have t0 : decide (0 < NX.length) = false := by simp [hx0]
        clear hx0
        go_wp2_with fail
        exact ⟨⟨k + 1, pl, A, c, by omega, by go_num, hpl, rfl, hpc, row, hrd.more (by omega), hch⟩, by simp [intOf]; omega⟩
      · have t0 : (0 : Int) < (NX.length : Int) := by omega
        have t00 : decide (0 < NX.length) = true := by simp; omega
        obtain ⟨bn, on, xn0, en, _, _, _⟩ := o4.rd.at_ (k := 0) (by omega)
        subst en
        go_wp2_with fail
        refine (pick_any lo g _ 6 _ hrd (by omega) (by omega) (by omega)).mono ?_
        rintro e w5 ⟨x, x0, x9, rfl, hd, hs⟩
        have row := row_chg row hd.chg (by omega)
        have hch := hch.trans hd.chg
        have hrd := hd.rdr
        have o4 := o4.chg hd.chg (.inr (by omega))
        clear hd hs
        by_cases hx : 0 < x
        · have tx : decide (0 < x) = true := by simpa using hx
          have HROW := Lib.hid row
          have HCH := Lib.hid hch
          have HRD := Lib.hid hrd
          have HO4 := Lib.hid o4
          clear row hch hrd o4 hx
          go_wp2_with fail
          refine wp_region_held_drew (S := (fun W => W.cell? ⟨C, 0, none⟩ = some (.int .i64 h.bays) ∧ W.cell? ⟨C, 1, none⟩ = some (.int .i64 h.rows) ∧ W.cell? ⟨C, 2, none⟩ = some (.int .i64 h.tiers) ∧ W.cell? ⟨g1, k * 5, none⟩ = some (.int .i64 xb.id))) (by kernel_rfl) (by (try dsimp only); exact HSC.out _ (HCH.out.drewN 1)) (fun hHeld => ?_)
          refine wpAnyH_take (i := 0) (oi := ⟨some 46, _, _, _, _, _⟩) (v := ?_) rfl (by kernel_rfl) (by kernel_rfl) (by kernel_rfl) (fun _ _ _ h => h) (Or.inl ⟨by rfl, ?_⟩) (by assumption) ?_
          rotate_left
          · intro w hSw; (try dsimp only at hSw); go_simp; try rfl
          try simp only [Act.put, List.setIfInBounds_toArray, List.set_cons_zero, List.set_cons_succ]
          refine wpAnyH_take (i := 1) (oi := ⟨some 47, _, _, _, _, _⟩) (v := ?_) rfl (by kernel_rfl) (by kernel_rfl) (by kernel_rfl) (fun _ _ _ h => h) (Or.inl ⟨by rfl, ?_⟩) (by assumption) ?_
          rotate_left
          · intro w hSw; (try dsimp only at hSw); go_simp; try rfl
          try simp only [Act.put, List.setIfInBounds_toArray, List.set_cons_zero, List.set_cons_succ]
          refine wpAnyH_take (i := 2) (oi := ⟨some 48, _, _, _, _, _⟩) (v := ?_) rfl (by kernel_rfl) (by kernel_rfl) (by kernel_rfl) (fun _ _ _ h => h) (Or.inl ⟨by rfl, ?_⟩) (by assumption) ?_
          rotate_left
          · intro w hSw; (try dsimp only at hSw); go_simp; try rfl
          try simp only [Act.put, List.setIfInBounds_toArray, List.set_cons_zero, List.set_cons_succ]
          refine wpAnyH_take (i := 3) (oi := ⟨some 49, _, _, _, _, _⟩) (v := ?_) rfl (by kernel_rfl) (by kernel_rfl) (by kernel_rfl) (fun _ _ _ h => h) (Or.inl ⟨by rfl, ?_⟩) (by assumption) ?_
          rotate_left
          · intro w hSw; (try dsimp only at hSw); go_simp; try rfl
          try simp only [Act.put, List.setIfInBounds_toArray, List.set_cons_zero, List.set_cons_succ]
          refine wpAnyH_take (i := 4) (oi := ⟨some 50, _, _, _, _, _⟩) (v := ?_) rfl (by kernel_rfl) (by kernel_rfl) (by kernel_rfl) (fun _ _ _ h => h) (Or.inl ⟨by rfl, ?_⟩) (by assumption) ?_
          rotate_left
          · intro w hSw; (try dsimp only at hSw); go_simp; try rfl
          try simp only [Act.put, List.setIfInBounds_toArray, List.set_cons_zero, List.set_cons_succ]
          refine wpAnyH_take (i := 5) (oi := ⟨some 51, _, _, _, _, _⟩) (v := ?_) rfl (by kernel_rfl) (by kernel_rfl) (by kernel_rfl) (fun _ _ _ h => h) (Or.inl ⟨by rfl, ?_⟩) (by assumption) ?_
          rotate_left
          · intro w hSw; (try dsimp only at hSw); go_simp; try rfl
          try simp only [Act.put, List.setIfInBounds_toArray, List.set_cons_zero, List.set_cons_succ]
          refine wpAnyH_take (i := 6) (oi := ⟨some 52, _, _, _, _, _⟩) (v := ?_) rfl (by kernel_rfl) (by kernel_rfl) (by kernel_rfl) (fun _ _ _ h => h) (Or.inl ⟨by rfl, ?_⟩) (by assumption) ?_
          rotate_left
          · intro w hSw; (try dsimp only at hSw); go_simp; try rfl
          try simp only [Act.put, List.setIfInBounds_toArray, List.set_cons_zero, List.set_cons_succ]
          refine wpAnyH_take (i := 10) (oi := ⟨some 56, _, _, _, _, _⟩) (v := ?_) rfl (by kernel_rfl) (by kernel_rfl) (by kernel_rfl) (fun _ _ _ h => h) (Or.inl ⟨by rfl, ?_⟩) (by assumption) ?_
          rotate_left
          · intro w hSw; (try dsimp only at hSw); go_simp; try rfl
          try simp only [Act.put, List.setIfInBounds_toArray, List.set_cons_zero, List.set_cons_succ]
          refine wpAnyH_take (i := 11) (oi := ⟨some 57, _, _, _, _, _⟩) (v := ?_) rfl (by kernel_rfl) (by kernel_rfl) (by kernel_rfl) (fun _ _ _ h => h) (Or.inl ⟨by rfl, ?_⟩) (by assumption) ?_
          rotate_left
          · intro w hSw; (try dsimp only at hSw); go_simp; try rfl
          try simp only [Act.put, List.setIfInBounds_toArray, List.set_cons_zero, List.set_cons_succ]
          refine wpAnyH_take (i := 12) (oi := ⟨some 58, _, _, _, _, _⟩) (v := ?_) rfl (by kernel_rfl) (by kernel_rfl) (by kernel_rfl) (fun _ _ _ h => h) (Or.inl ⟨by rfl, ?_⟩) (by assumption) ?_
          rotate_left
          · intro w hSw; (try dsimp only at hSw); go_simp; try rfl
          try simp only [Act.put, List.setIfInBounds_toArray, List.set_cons_zero, List.set_cons_succ]
          refine wpAnyH_take (i := 13) (oi := ⟨some 59, _, _, _, _, _⟩) (v := ?_) rfl (by kernel_rfl) (by kernel_rfl) (by kernel_rfl) (fun _ _ _ h => h) (Or.inl ⟨by rfl, ?_⟩) (by assumption) ?_
          rotate_left
          · intro w hSw; (try dsimp only at hSw); go_simp; try rfl
          try simp only [Act.put, List.setIfInBounds_toArray, List.set_cons_zero, List.set_cons_succ]
          refine wpAnyH_take (i := 14) (oi := ⟨some 60, _, _, _, _, _⟩) (v := ?_) rfl (by kernel_rfl) (by kernel_rfl) (by kernel_rfl) (fun _ _ _ h => h) (Or.inl ⟨by rfl, ?_⟩) (by assumption) ?_
          rotate_left
          · intro w hSw; (try dsimp only at hSw); go_simp; try rfl
          try simp only [Act.put, List.setIfInBounds_toArray, List.set_cons_zero, List.set_cons_succ]
          refine wpAnyH_ready (rs := [7]) (by kernel_rfl) (by simp) ?_
          refine AllReadyH.cons (o := ⟨some 53, _, _, _, _, _⟩) rfl (fun K hK => ?_) AllReadyH.nil
          go_simp
          refine (pick_any lo g _ (NX.length : Int) _ (HRD.out.drewN 1) (by omega) (by omega) (by omega)).mono ?_
          rintro e w6 ⟨xi, xi0, xi9, rfl, hd6, hs6⟩
          dsimp only
          have hch6 := (HCH.out.drewN 1).trans hd6.chg
          have o46 := (own_dr1 HO4.out).chg hd6.chg (.inr (by omega))
          have hvi : xi.toNat < NX.length := by omega
          obtain ⟨bi, oi, vi, ei, _, Hvi, hvc⟩ := o46.rd.at_ hvi
          injection ei with ei
          injection ei with ei1 ei2 ei3
          subst ei1 ei2
          clear ei3
          refine hK.out _ _ ?_ (fun hHeld => ?_)
          · (try dsimp only); (exact HSC.out _ hch6)
          clear hK K
          try simp only [Act.put, List.setIfInBounds_toArray, List.set_cons_zero, List.set_cons_succ]
          refine wpAnyH_take (i := 8) (oi := ⟨some 54, _, _, _, _, _⟩) (v := ?_) rfl (by kernel_rfl) (by kernel_rfl) (by kernel_rfl) (fun _ _ _ h => h) (Or.inl ⟨by rfl, ?_⟩) (by assumption) ?_
          rotate_left
          · intro w hSw; (try dsimp only at hSw); go_simp; try rfl
          try simp only [Act.put, List.setIfInBounds_toArray, List.set_cons_zero, List.set_cons_succ]
          refine wpAnyH_ready (rs := [9]) (by kernel_rfl) (by simp) ?_
          refine AllReadyH.cons (o := ⟨some 55, _, _, _, _, _⟩) rfl (fun K hK => ?_) AllReadyH.nil
          go_simp
          refine hK.out _ _ ?_ (fun hHeld => ?_)
          · (try dsimp only); (assumption)
          clear hK K
          try simp only [Act.put, List.setIfInBounds_toArray, List.set_cons_zero, List.set_cons_succ]
          refine wpAnyH_ready (rs := [15]) (by kernel_rfl) (by simp) ?_
          refine AllReadyH.cons (o := ⟨some 61, _, _, _, _, _⟩) rfl (fun K hK => ?_) AllReadyH.nil
          go_simp
          obtain ⟨XP, HXP⟩ : ∃ X, Hid (putS h l2 pl vi xb.id = X) := ⟨_, rfl⟩
          have hL7 : XP.1.length ≤ 36 := by rw [← HXP.out]; have := putS_len h l2 pl vi xb.id; omega
          have hq := put_spec h (some ⟨g1, 0, none⟩) A l2 pl c1 c vi xb.id w6 (HSB.out w6 hch6).2 (by omega) (Own.of_row (row_chg (row_dr1 HROW.out) hd6.chg (by omega)) (Nat.le_refl _)).rd (by omega) hpc
          unfold PutPost at hq
          rw [HXP.out] at hq
          refine hq.mono ?_
          clear hq
          rintro e w7 ⟨A7, c7, rfl, hc7, row7, b7⟩
          dsimp only
          have hch7 := hch6.trans (Chg.of_below b7 (Nat.le_refl _))
          refine hK.out _ _ ?_ (fun hHeld => ?_)
          · (try dsimp only); (exact HSC.out _ hch7)
          clear hK K
          try simp only [Act.put, List.setIfInBounds_toArray, List.set_cons_zero, List.set_cons_succ]
          refine wpAnyH_take (i := 16) (oi := ⟨some 45, _, _, _, _, _⟩) (v := ?_) rfl (by kernel_rfl) (by kernel_rfl) (by kernel_rfl) (fun _ _ _ h => h) (Or.inl ⟨by rfl, ?_⟩) (by assumption) ?_
          rotate_left
          · intro w hSw; (try dsimp only at hSw); go_simp; try rfl
          try simp only [Act.put, List.setIfInBounds_toArray, List.set_cons_zero, List.set_cons_succ]
          refine wpAnyH_take (i := 17) (oi := ⟨some 62, _, _, _, _, _⟩) (v := ?_) rfl (by kernel_rfl) (by kernel_rfl) (by kernel_rfl) (fun _ _ _ h => h) (Or.inl ⟨by rfl, ?_⟩) (by assumption) ?_
          rotate_left
          · intro w hSw; (try dsimp only at hSw); go_simp; try rfl
          try simp only [Act.put, List.setIfInBounds_toArray, List.set_cons_zero, List.set_cons_succ]
          refine wpAnyH_take (i := 18) (oi := ⟨some 63, _, _, _, _, _⟩) (v := ?_) rfl (by kernel_rfl) (by kernel_rfl) (by kernel_rfl) (fun _ _ _ h => h) (Or.inl ⟨by rfl, ?_⟩) (by assumption) ?_
          rotate_left
          · intro w hSw; (try dsimp only at hSw); go_simp; try rfl
          try simp only [Act.put, List.setIfInBounds_toArray, List.set_cons_zero, List.set_cons_succ]
          refine wpAnyH_take (i := 19) (oi := ⟨some 14, _, _, _, _, _⟩) (v := ?_) rfl (by kernel_rfl) (by kernel_rfl) (by kernel_rfl) (fun _ _ _ h => h) (Or.inl ⟨by rfl, ?_⟩) (by assumption) ?_
          rotate_left
          · intro w hSw; (try dsimp only at hSw); go_simp; try rfl
          try simp only [Act.put, List.setIfInBounds_toArray, List.set_cons_zero, List.set_cons_succ]
          refine wpAnyH_take (i := 20) (oi := ⟨some 15, _, _, _, _, _⟩) (v := ?_) rfl (by kernel_rfl) (by kernel_rfl) (by kernel_rfl) (fun _ _ _ h => h) (Or.inl ⟨by rfl, ?_⟩) (by assumption) ?_
          rotate_left
          · intro w hSw; (try dsimp only at hSw); go_simp; try rfl
          try simp only [Act.put, List.setIfInBounds_toArray, List.set_cons_zero, List.set_cons_succ]
          refine wpAnyH_done (by kernel_rfl) ?_ _
          obtain ⟨L7, b7b⟩ := XP
          dsimp only at hc7 row7 hL7
          have hrow7 := row_base row7 (by have := hch6.size; omega : Z ≤ w6.heap.size)
          have hrd7 := (hd6.rdr.below b7 hd6.rdr.lt).more (p' := p + 240 + 2 * (k + 1)) (by omega)
          cases b7b with
          | true =>
            go_wp2_with fail
            exact ⟨⟨k + 1, L7, A7, c7, by omega, by go_num, by omega, rfl, hc7, hrow7, hrd7, hch7⟩, by simp [intOf]; omega⟩
          | false =>
            have hrowp := row_chg (row_chg (row_dr1 HROW.out) hd6.chg (by omega)) (Chg.of_below (lo := 0) (hi := 0) b7 (Nat.le_refl _)) (Nat.zero_le _)
            go_wp2_with fail
            exact ⟨⟨k + 1, pl, A, c, by omega, by go_num, hpl, rfl, hpc, hrowp, hrd7, hch7⟩, by simp [intOf]; omega⟩
        · have tx : decide (0 < x) = false := by simpa using hx
          clear hx
          go_wp2_with fail
          exact ⟨⟨k + 1, pl, A, c, by omega, by go_num, hpl, rfl, hpc, row, hrd.more (by omega), hch⟩, by simp [intOf]; omega⟩
    · obtain rfl : k = l2.length := by omega
      have kC := HKC.out.chg hch (.inr (by omega))
      have kR := HKR.out.chg hch (.inr (by omega))
      have ob := HOB.out.chg hch (.inr (by omega))
      have D : Drawn lo g (p + 270) w wr := ⟨hrd.more (by omega), HD3.out.chg.trans hch⟩
      have hZw := hZr
      clear hrd hch
      go_wp2_with fail
      refine (odd_any lo g _ 12 _ D.rdr (by omega) (by omega) (by omega)).mono ?_
      rintro e wp ⟨bo, rfl, hd, hs⟩
      have kC := kC.chg hd.chg (.inr (by omega))
      have kR := kR.chg hd.chg (.inr (by omega))
      have ob := ob.chg hd.chg (.inr (by omega))
      have row := row_chg row hd.chg (by omega)
      have D := D.trans hd
      have hZw : Z ≤ wp.heap.size := by have := hd.chg.size; omega
      clear hd hs
      cases bo with
      | false =>
        have x0 := kC.cell 0
        have x1 := kC.cell 1
        have x2 := kC.cell 2
        have r0 := kR.cell 0
        have r1 := kR.cell 1
        have r2 := kR.cell 2
        have f0 := kR.frozen 0
        have f1 := kR.frozen 1
        have f2 := kR.frozen 2
        simp only [List.getElem?_toArray, List.getElem?_cons_zero, List.getElem?_cons_succ] at x0 x1 x2 r0 r1 r2
        have HF := Lib.hid (drew_plan (h := h) (p := p) (a := .int .i64 h.bays) (b := .int .i64 h.rows) (d := .int .i64 h.tiers) (L := pl) (n := pl.length) rfl hl12 hlc (by omega) hpc ob row D hRw hRZ hRL hZw hg (by omega))
        clear kC kR D row ob
        go_wp2_with fail
        refine bodyPost_ret (v := .tuple #[.agg #[.int .i64 h.bays, .int .i64 h.rows, .int .i64 h.tiers], .slice (some ⟨g1, 0, none⟩) l2.length c1, .slice A (pl.length) c]) (by simp [results, Try.results66, go_sem, r0, r1, r2]) rfl ?_
        exact HF.out
      | true =>
        by_cases h0 : pl.length = 0
        · have t0 : decide (0 < pl.length) = false := by simp [h0]
          clear h0
          have hone : ∀ u ∈ [Value.int .i64 0], u.oneCell' = true := fun u hu => by rw [List.mem_singleton.1 hu]; rfl
          have hbk := row.lt
          have hZW : Z ≤ wp.heap.size := by have := hZw; have := D.chg.size; omega
          go_wp2_with (at_builtin; refine wpList_append_own _ rfl _ _ 24 rfl Z 3 i0 (.int .i64 0) 1 8 Try.underlying24 hi hz0 hz1 hz2 rfl (by decide) _ _ _ rfl (row.alloc _) ⟨_, 0, none⟩ 1 1 [.int .i64 0] rfl rfl (cell_one_new _ _ _) hone ?c3 ?c4 ?c5 ?_)
          case c3 => unfold maxLen; omega
          case c4 => omega
          case c5 => simp; omega
          intro v' w9 hown9 hgrow _
          have bz : Below Z wp w9 := ((Below.refl Z wp).alloc hZW (.cells #[.int .i64 0] 3)).grown hgrow (by simp; omega) (fun b e => (hbk b e).1)
          have D := (D.alloc (.cells #[.int .i64 0] 3)).grown hgrow hg (fun b e => by have := (hbk b e).1; omega)
          have kC := kC.below bz hCZ
          have kR := kR.below bz hRZ
          have ob := ob.below bz (Nat.le_refl _)
          have row : w9.ownsRow Z 3 1 v' (pl.length + 1) ((pl ++ [0]).map (Value.int .i64)) := row_more hown9 rfl
          obtain ⟨A9, c9, hA9, hcc⟩ := own_slice row
          subst hA9
          have hZw : Z ≤ w9.heap.size := by have := bz.size; omega
          clear hown9 hgrow hbk hone bz
          have x0 := kC.cell 0
          have x1 := kC.cell 1
          have x2 := kC.cell 2
          have r0 := kR.cell 0
          have r1 := kR.cell 1
          have r2 := kR.cell 2
          have f0 := kR.frozen 0
          have f1 := kR.frozen 1
          have f2 := kR.frozen 2
          simp only [List.getElem?_toArray, List.getElem?_cons_zero, List.getElem?_cons_succ] at x0 x1 x2 r0 r1 r2
          have HF := Lib.hid (drew_plan (h := h) (p := p) (a := .int .i64 h.bays) (b := .int .i64 h.rows) (d := .int .i64 h.tiers) (L := pl ++ [0]) (n := pl.length + 1) (by simp) hl12 hlc (by omega) hcc ob row D hRw hRZ hRL hZw hg (by omega))
          clear kC kR D row ob
          go_wp2_with fail
          refine bodyPost_ret (v := .tuple #[.agg #[.int .i64 h.bays, .int .i64 h.rows, .int .i64 h.tiers], .slice (some ⟨g1, 0, none⟩) l2.length c1, .slice A9 (pl.length + 1) c9]) (by simp [results, Try.results66, go_sem, r0, r1, r2]) rfl ?_
          exact HF.out
        · have t0 : (0 : Int) < (pl.length : Int) := by omega
          have t00 : decide (0 < pl.length) = true := by simp; omega
          clear h0
          go_wp2_with fail
          refine (pick_any lo g _ 2 _ D.rdr (by omega) (by omega) (by omega)).mono ?_
          rintro e wp2 ⟨x, x0, x9, rfl, hd, hs⟩
          have kC := kC.chg hd.chg (.inr (by omega))
          have kR := kR.chg hd.chg (.inr (by omega))
          have ob := ob.chg hd.chg (.inr (by omega))
          have row := row_chg row hd.chg (by omega)
          have D := D.trans hd
          have hZw : Z ≤ wp2.heap.size := by have := hd.chg.size; omega
          clear hd hs
          by_cases hx : x = 0
          · have tx : (x == 0) = true := beq_iff_eq.2 hx
            clear hx
            go_wp2_with fail
            refine (pick_any lo g _ (pl.length : Int) _ D.rdr (by omega) (by omega) (by omega)).mono ?_
            rintro e wp1 ⟨i, i0, i9, rfl, hd, hs⟩
            have kC := kC.chg hd.chg (.inr (by omega))
            have kR := kR.chg hd.chg (.inr (by omega))
            have ob := ob.chg hd.chg (.inr (by omega))
            have row := row_chg row hd.chg (by omega)
            have D := D.trans hd
            have hZw : Z ≤ wp1.heap.size := by have := hd.chg.size; omega
            clear hd hs
            have kC := kC.alloc (.cells #[.int .i64 1, .int .i64 2, .int .i64 900, .int .i64 (-1)] 3)
            have kR := kR.alloc (.cells #[.int .i64 1, .int .i64 2, .int .i64 900, .int .i64 (-1)] 3)
            have row := row.alloc (.cells #[.int .i64 1, .int .i64 2, .int .i64 900, .int .i64 (-1)] 3)
            have hgW := D.rdr.lt
            have ob := ob.below (below_one (.cells #[.int .i64 1, .int .i64 2, .int .i64 900, .int .i64 (-1)] 3)) (by have := D.chg.size; omega)
            have D := D.alloc (.cells #[.int .i64 1, .int .i64 2, .int .i64 900, .int .i64 (-1)] 3)
            have hwpl : Z ≤ wp1.heap.size := by omega
            go_wp2_with fail
            refine (pick_any lo g _ 4 _ D.rdr (by omega) (by omega) (by omega)).mono ?_
            rintro e wq ⟨z, z0, z9, rfl, hd, hs⟩
            have kC := kC.chg hd.chg (.inr (by omega))
            have kR := kR.chg hd.chg (.inr (by omega))
            have ob := ob.chg hd.chg (.inr (by omega))
            have row := row_chg row hd.chg (by omega)
            have D := D.trans hd
            obtain ⟨v, hv1, hv2, _⟩ := lit4 1 2 900 (-1) z z0 z9
            have cl := lit_cell hd.chg hv1 hgW
            have HV2 := Lib.hid hv2
            clear hv1 hv2 hs
            obtain ⟨gp, csp, eA, hgp, _, bkp, ccp⟩ := own_blk (Own.of_row row (Nat.le_refl _)) (by omega)
            subst eA
            have hiN : i.toNat < pl.length := by omega
            have cz := (bkp.cell i.toNat).trans (ccp i.toNat _ (List.getElem?_eq_getElem hiN))
            have fz := bkp.frozen i.toNat
            have HROW := Lib.hid row
            clear bkp ccp row
            go_upto_region 16 with fail
            have row := row_set1 (i := i.toNat) (x := v) HROW.out
            have bz : Below Z wq (wq.setCell ⟨gp, i.toNat, none⟩ (.int .i64 v)) := (Below.refl Z wq).setCell (p := ⟨gp, i.toNat, none⟩) hgp _
            have kC := kC.below bz hCZ
            have kR := kR.below bz hRZ
            have ob := ob.below bz (Nat.le_refl _)
            have D := D.setNew (a := ⟨gp, i.toNat, none⟩) (by show w.heap.size ≤ gp; omega) hg (.int .i64 v)
            obtain ⟨V9, HV9⟩ : ∃ W, Hid (wq.setCell ⟨gp, i.toNat, none⟩ (.int .i64 v) = W) := ⟨_, rfl⟩
            rw [HV9.out] at row kC kR ob D bz ⊢
            have hZw : Z ≤ V9.heap.size := by have := bz.size; have := hd.chg.size; omega
            clear bz cz fz cl hd
            have x0 := kC.cell 0
            have x1 := kC.cell 1
            have x2 := kC.cell 2
            have r0 := kR.cell 0
            have r1 := kR.cell 1
            have r2 := kR.cell 2
            have f0 := kR.frozen 0
            have f1 := kR.frozen 1
            have f2 := kR.frozen 2
            simp only [List.getElem?_toArray, List.getElem?_cons_zero, List.getElem?_cons_succ] at x0 x1 x2 r0 r1 r2
            have HF := Lib.hid (drew_plan (h := h) (p := p) (a := .int .i64 h.bays) (b := .int .i64 h.rows) (d := .int .i64 h.tiers) (L := pl.set i.toNat v) (n := pl.length) (by simp) hl12 hlc (by omega) hpc ob row D hRw hRZ hRL hZw hg (by omega))
            clear kC kR D row ob
            go_wp2_with fail
            refine bodyPost_ret (v := .tuple #[.agg #[.int .i64 h.bays, .int .i64 h.rows, .int .i64 h.tiers], .slice (some ⟨g1, 0, none⟩) l2.length c1, .slice (some ⟨gp, 0, none⟩) (pl.length) c]) (by simp [results, Try.results66, go_sem, r0, r1, r2]) rfl ?_
            exact HF.out
          · have tx : (x == 0) = false := beq_eq_false_iff_ne.2 hx
            clear hx
            have hone : ∀ u ∈ [Value.int .i64 0], u.oneCell' = true := fun u hu => by rw [List.mem_singleton.1 hu]; rfl
            have hbk := row.lt
            have hZW : Z ≤ wp2.heap.size := by have := hZw; have := D.chg.size; omega
            go_wp2_with (at_builtin; refine wpList_append_own _ rfl _ _ 24 rfl Z 3 i0 (.int .i64 0) 1 8 Try.underlying24 hi hz0 hz1 hz2 rfl (by decide) _ _ _ rfl (row.alloc _) ⟨_, 0, none⟩ 1 1 [.int .i64 0] rfl rfl (cell_one_new _ _ _) hone ?c3 ?c4 ?c5 ?_)
            case c3 => unfold maxLen; omega
            case c4 => omega
            case c5 => simp; omega
            intro v' w9 hown9 hgrow _
            have bz : Below Z wp2 w9 := ((Below.refl Z wp2).alloc hZW (.cells #[.int .i64 0] 3)).grown hgrow (by simp; omega) (fun b e => (hbk b e).1)
            have D := (D.alloc (.cells #[.int .i64 0] 3)).grown hgrow hg (fun b e => by have := (hbk b e).1; omega)
            have kC := kC.below bz hCZ
            have kR := kR.below bz hRZ
            have ob := ob.below bz (Nat.le_refl _)
            have row : w9.ownsRow Z 3 1 v' (pl.length + 1) ((pl ++ [0]).map (Value.int .i64)) := row_more hown9 rfl
            obtain ⟨A9, c9, hA9, hcc⟩ := own_slice row
            subst hA9
            have hZw : Z ≤ w9.heap.size := by have := bz.size; omega
            clear hown9 hgrow hbk hone bz
            have x0 := kC.cell 0
            have x1 := kC.cell 1
            have x2 := kC.cell 2
            have r0 := kR.cell 0
            have r1 := kR.cell 1
            have r2 := kR.cell 2
            have f0 := kR.frozen 0
            have f1 := kR.frozen 1
            have f2 := kR.frozen 2
            simp only [List.getElem?_toArray, List.getElem?_cons_zero, List.getElem?_cons_succ] at x0 x1 x2 r0 r1 r2
            have HF := Lib.hid (drew_plan (h := h) (p := p) (a := .int .i64 h.bays) (b := .int .i64 h.rows) (d := .int .i64 h.tiers) (L := pl ++ [0]) (n := pl.length + 1) (by simp) hl12 hlc (by omega) hcc ob row D hRw hRZ hRL hZw hg (by omega))
            clear kC kR D row ob
            go_wp2_with fail
            refine bodyPost_ret (v := .tuple #[.agg #[.int .i64 h.bays, .int .i64 h.rows, .int .i64 h.tiers], .slice (some ⟨g1, 0, none⟩) l2.length c1, .slice A9 (pl.length + 1) c9]) (by simp [results, Try.results66, go_sem, r0, r1, r2]) rfl ?_
            exact HF.out
end Go.Proofs.Ytphncbnnnickhaa
