/- Plans: which are valid, of the program and of the reference. -/
import Derived.Test.YtphncbnnnickhaaFillOrd
import Derived.Test.YtphncbnnnickhaaSlot
namespace Go.Proofs.Ytphncbnnnickhaa
open Go.RowKit
set_option linter.unusedVariables false
set_option linter.unusedSimpArgs false

/-- A box is in the slot that must not be. -/
def badP (l : List BoxV) (T : Int) (pl : List Int) (k : Nat) (id : Int) : Prop := atTo l id l.length < 0 ∨ id ∈ pl.take k ∨ (1 ≤ (k : Int) % T ∧ pl[k - 1]? = some 0)
instance (l : List BoxV) (T : Int) (pl : List Int) (k : Nat) (id : Int) : Decidable (badP l T pl k id) := by unfold badP; infer_instance
def pvTo (l : List BoxV) (T : Int) (pl : List Int) : Nat → Bool
  | 0 => true
  | k + 1 => pvTo l T pl k && match pl[k]? with
    | some id => decide (id = 0 ∨ ¬ badP l T pl k id)
    | none => true
def pvS (h : HullV) (l : List BoxV) (pl : List Int) : Bool := decide (hullOk h) && (bvS l && (decide (pl.length = slotsV h) && pvTo l h.tiers pl pl.length))
section
variable {l : List BoxV} {T : Int} {pl : List Int} {k : Nat} {id : Int}
theorem pvTo_next (hx : pl[k]? = some id) : pvTo l T pl (k + 1) = (pvTo l T pl k && decide (id = 0 ∨ ¬ badP l T pl k id)) := by simp only [pvTo, hx]
theorem pvTo_false (h : pvTo l T pl k = false) : ∀ n, k ≤ n → pvTo l T pl n = false := by
  intro n hn
  induction n with
  | zero => obtain rfl : k = 0 := by omega
            exact h
  | succ n ih =>
    by_cases e : k = n + 1
    · rw [← e]; exact h
    · unfold pvTo; rw [ih (by omega)]; rfl
theorem pvTo_bad (hx : pl[k]? = some id) (h0 : id ≠ 0) (hb : badP l T pl k id) : pvTo l T pl pl.length = false := by
  refine pvTo_false (k := k + 1) ?_ _ (List.getElem?_eq_some_iff.1 hx).1
  rw [pvTo_next hx, decide_eq_false (fun h => by rcases h with h | h; exact h0 h; exact h hb)]
  simp
theorem pvTo_zero (hx : pl[k]? = some 0) (h : pvTo l T pl k = true) : pvTo l T pl (k + 1) = true := by rw [pvTo_next hx, h]; simp
theorem pvTo_good (hx : pl[k]? = some id) (h : pvTo l T pl k = true) (hb : ¬ badP l T pl k id) : pvTo l T pl (k + 1) = true := by rw [pvTo_next hx, h, decide_eq_true (Or.inr hb)]; rfl
end
theorem pvS_hull {h : HullV} {l : List BoxV} {pl : List Int} (k : ¬ hullOk h) : pvS h l pl = false := by unfold pvS; rw [decide_eq_false k]; rfl
theorem pvS_boxes {h : HullV} {l : List BoxV} {pl : List Int} (k : bvS l = false) : pvS h l pl = false := by unfold pvS; rw [k]; simp
theorem pvS_len {h : HullV} {l : List BoxV} {pl : List Int} (k : pl.length ≠ slotsV h) : pvS h l pl = false := by unfold pvS; rw [decide_eq_false k]; simp
theorem pvS_rest {h : HullV} {l : List BoxV} {pl : List Int} (k : hullOk h) (b : bvS l = true) (n : pl.length = slotsV h) : pvS h l pl = pvTo l h.tiers pl pl.length := by unfold pvS; rw [decide_eq_true k, b, decide_eq_true n]; rfl
theorem Rd.cut {w : World} {A : Option Addr} {l : List Int} (h : Rd w A l) (n : Nat) : Rd w A (l.take n) := fun k x hx => h k x (by
  rw [List.getElem?_take] at hx
  split at hx
  · exact hx
  · cases hx)
set_option maxHeartbeats 800000 in
theorem index_any (A : Option Addr) (l : List Int) (c : Nat) (n : Int) (w : World) (ha : Rd w A l) (hl : l.length ≤ 1048576) :
    Calls Try.prog 89 #[.slice A l.length c, .int .i64 n] w fun e w' => (∃ k : Int, e = .returned (.int .i64 k) ∧ -1 ≤ k ∧ k ≤ 1048576 ∧ Hid ((0 ≤ k) ↔ n ∈ l)) ∧ w = w' := by
  go_enter Try.func89, Try.ntmps89
  go_wp2_with fail
  go_loop [8] (fun i => ∃ k : Nat, k ≤ l.length ∧ i = .int .i64 k ∧ Hid (∀ y ∈ l.take k, y ≠ n)) (fun i => l.length - (intOf i).toNat)
  case atStart => exact ⟨0, by omega, rfl, (by simp : ∀ y ∈ l.take 0, y ≠ n)⟩
  case round =>
    obtain ⟨k, hk, rfl, Hk⟩ := hrel
    by_cases hlt : k < l.length
    · obtain ⟨b, off, x, rfl, hbx, Hx, hx0⟩ := ha.at_ (k := k) hlt
      have q0 : (0 : Int) ≤ (k : Int) := by omega
      have q1 : (k : Int) < (l.length : Int) := by omega
      by_cases hq : x = n
      · have t0 : (n == x) = true := beq_iff_eq.2 hq.symm
        have HN : Hid ((0 ≤ (k : Int)) ↔ n ∈ l) := ⟨fun _ => by rw [← hq]; exact mem_at Hx.out, fun _ => by omega⟩
        clear hq
        go_wp2_with fail
        go_ret
        exact ⟨⟨k, rfl, by omega, by omega, HN.out⟩, rfl⟩
      · have t0 : (n == x) = false := beq_eq_false_iff_ne.2 (fun e => hq e.symm)
        have HN := Lib.hid (all_next (P := fun y => y ≠ n) Hk.out Hx.out hq)
        clear hq
        go_wp2_with fail
        exact ⟨⟨k + 1, by omega, by go_num, HN.out⟩, by simp [intOf]; omega⟩
    · have HN : Hid ((0 ≤ (-1 : Int)) ↔ n ∈ l) := ⟨fun h => by omega, fun h => absurd rfl (all_end Hk.out (by omega) n h)⟩
      go_wp2_with fail
      go_ret
      exact ⟨⟨-1, rfl, by omega, by omega, HN.out⟩, rfl⟩
set_option maxHeartbeats 800000 in
theorem contains_any (A : Option Addr) (l : List Int) (c : Nat) (n : Int) (w : World) (ha : Rd w A l) (hl : l.length ≤ 1048576) :
    Calls Try.prog 61 #[.slice A l.length c, .int .i64 n] w fun e w' => e = .returned (.bool (decide (n ∈ l))) ∧ w = w' := by
  go_enter Try.func61, Try.ntmps61
  go_wp2_with fail
  refine (index_any A l c n w ha hl).mono ?_
  rintro e w' ⟨⟨k, rfl, k1, k2, HK⟩, rfl⟩
  go_wp2_with fail
  go_ret
  exact ⟨ret_bool (decide_eq_decide.2 HK.out), rfl⟩
theorem bools {f : FuncId} {args : Array Value} {w : World} {v x : Bool} (h : Calls Try.prog f args w fun e w' => e = .returned (.bool v) ∧ w = w') (e : v = x) : Calls Try.prog f args w fun e w' => e = .returned (.bool x) ∧ w = w' := by rw [← e]; exact h
set_option maxHeartbeats 6400000 in
set_option maxRecDepth 20000 in
theorem pv_impl (h : HullV) (A P : Option Addr) (l : List BoxV) (pl : List Int) (c d : Nat) (w : World) (ha : RdBox w A l) (hl : l.length ≤ 1048576) (hlc : l.length ≤ c) (hp : Rd w P pl) (hpl : pl.length ≤ 1048576) (hpd : pl.length ≤ d) :
    Calls Try.prog 28 #[.agg #[.int .i64 h.bays, .int .i64 h.rows, .int .i64 h.tiers], .slice A l.length c, .slice P pl.length d] w fun e w' => e = .returned (.bool (pvS h l pl)) ∧ Below w.heap.size w w' := by
  obtain ⟨r, HR⟩ : ∃ r, Hid (pvS h l pl = r) := ⟨_, rfl⟩
  rw [HR.out]
  have kx := Blk.new w 36 #[.int .i64 h.bays, .int .i64 h.rows, .int .i64 h.tiers]
  have bx : Below w.heap.size w (w.alloc (.cells #[.int .i64 h.bays, .int .i64 h.rows, .int .i64 h.tiers] 36)) := below_one _
  obtain ⟨W0, HW0⟩ : ∃ W0, Hid (w.alloc (.cells #[.int .i64 h.bays, .int .i64 h.rows, .int .i64 h.tiers] 36) = W0) := ⟨_, rfl⟩
  rw [HW0.out] at kx bx
  have HA0 := Lib.hid (ha.below bx)
  have HP0 := Lib.hid (hp.below bx)
  obtain ⟨X, HX⟩ : ∃ X, Hid (w.heap.size = X) := ⟨_, rfl⟩
  rw [HX.out] at kx
  have hXl := kx.lt
  have HFIN : Hid (∀ W, Below W0.heap.size W0 W → Below w.heap.size w W) := fun W hW => bx.trans (hW.mono bx.size)
  have HS : Hid (∀ W, Below W0.heap.size W0 W → W.cell? ⟨X, 0, none⟩ = some (.int .i64 h.bays) ∧ W.cell? ⟨X, 1, none⟩ = some (.int .i64 h.rows) ∧ W.cell? ⟨X, 2, none⟩ = some (.int .i64 h.tiers)) := fun W hW => ⟨(kx.below hW hXl).cell 0, (kx.below hW hXl).cell 1, (kx.below hW hXl).cell 2⟩
  have B0 := Below.refl W0.heap.size W0
  obtain ⟨z0, z1, z2⟩ := HS.out W0 B0
  clear kx bx hXl ha hp
  by_cases hk : hullOk h
  · have HV := Lib.hid (hv_t _ (hv_impl h W0) hk)
    have HK := Lib.hid hk
    have hs := slots_bd hk
    have HM : Hid (∀ W, Below W0.heap.size W0 W → Calls Try.prog 60 #[.agg #[.int .i64 h.bays, .int .i64 h.rows, .int .i64 h.tiers]] W fun e w' => e = .returned (.int .i64 (slotsV h)) ∧ Below W0.heap.size W0 w') := fun W hW => (slots_any h W HK.out).mono fun e w' ⟨h1, h2⟩ => ⟨h1, hW.trans (h2.mono hW.size)⟩
    clear hk
    cases hv : bvS l with
    | false =>
      have HQ : Hid (∀ W, Below W0.heap.size W0 W → Calls Try.prog 39 #[.slice A l.length c] W fun e w' => e = .returned (.bool false) ∧ Below W0.heap.size W0 w') := fun W hW => (bool_to (bsv_impl A l c W (HA0.out.below hW) hl hlc) hv).mono fun e w' ⟨h1, h2⟩ => ⟨h1, hW.trans (h2.mono hW.size)⟩
      have HN := Lib.hid (HR.out.symm.trans (pvS_boxes hv))
      clear hv hs
      go_enter Try.func28, Try.ntmps28
      go_wp2_with fail
      rw [HW0.out, HX.out]
      refine HV.out.mono ?_
      rintro e w1 ⟨rfl, b1⟩
      go_wp2_with fail
      refine (HQ.out _ b1).mono ?_
      rintro e w2 ⟨rfl, b2⟩
      go_wp2_with fail
      go_ret
      exact ⟨ret_bool HN.out.symm, HFIN.out _ b2⟩
    | true =>
      have HQ : Hid (∀ W, Below W0.heap.size W0 W → Calls Try.prog 39 #[.slice A l.length c] W fun e w' => e = .returned (.bool true) ∧ Below W0.heap.size W0 w') := fun W hW => (bool_to (bsv_impl A l c W (HA0.out.below hW) hl hlc) hv).mono fun e w' ⟨h1, h2⟩ => ⟨h1, hW.trans (h2.mono hW.size)⟩
      by_cases hn : pl.length = slotsV h
      · have HN := Lib.hid (HR.out.symm.trans (pvS_rest HK.out hv hn))
        have t0 : ((pl.length : Int) != ((slotsV h : Nat) : Int)) = false := by simp [hn]
        have HNL := Lib.hid hn
        have hn36 : pl.length ≤ 36 := by omega
        obtain ⟨ns, HNS⟩ : ∃ n, Hid (slotsV h = n) := ⟨_, rfl⟩
        rw [HNS.out] at HM t0
        clear hv hn hs
        go_enter Try.func28, Try.ntmps28
        go_wp2_with fail
        rw [HW0.out, HX.out]
        refine HV.out.mono ?_
        rintro e w1 ⟨rfl, b1⟩
        go_wp2_with fail
        refine (HQ.out _ b1).mono ?_
        rintro e w2 ⟨rfl, b2⟩
        clear z0 z1 z2
        obtain ⟨z0, z1, z2⟩ := HS.out _ b2
        go_wp2_with fail
        refine (HM.out _ b2).mono ?_
        rintro e w3 ⟨rfl, b3⟩
        clear z0 z1 z2
        go_wp2_with fail
        go_loopw [26] (fun i wr => ∃ k : Nat, k ≤ pl.length ∧ i = .int .i64 k ∧ Hid (pvTo l h.tiers pl k = true) ∧ Below W0.heap.size W0 wr) (fun i _ => pl.length - (intOf i).toNat)
        case atStart => exact ⟨0, by omega, rfl, rfl, b3⟩
        case round =>
          obtain ⟨k, hk, rfl, Hk, hbw⟩ := hrel
          by_cases hlt : k < pl.length
          · obtain ⟨b, off, x, rfl, hbx, Hx, hx0⟩ := (HP0.out.below hbw).at_ (k := k) hlt
            have q0 : (0 : Int) ≤ (k : Int) := by omega
            have q1 : (k : Int) < (pl.length : Int) := by omega
            have q2 : (k : Int) ≤ (d : Int) := by omega
            by_cases h0 : x = 0
            · have t1 : (x == 0) = true := beq_iff_eq.2 h0
              have HNX : Hid (pvTo l h.tiers pl (k + 1) = true) := pvTo_zero (by rw [Hx.out, h0]) Hk.out
              clear h0
              go_wp2_with fail
              exact ⟨⟨k + 1, by omega, by go_num, HNX.out, hbw⟩, by simp [intOf]; omega⟩
            · have t1 : (x == 0) = false := beq_eq_false_iff_ne.2 h0
              have HBAD : Hid (badP l h.tiers pl k x → r = false) := fun hb => by rw [HN.out]; exact pvTo_bad Hx.out h0 hb
              have HGOOD : Hid (¬ badP l h.tiers pl k x → pvTo l h.tiers pl (k + 1) = true) := fun hb => pvTo_good Hx.out Hk.out hb
              obtain ⟨v, HVV⟩ : ∃ v, Hid (atTo l x l.length = v) := ⟨_, rfl⟩
              obtain ⟨hc, HHC⟩ : ∃ r, Hid (decide (x ∈ pl.take k) = r) := ⟨_, rfl⟩
              have hlk : (pl.take k).length = k := by rw [List.length_take]; omega
              have HHAS : Hid (∀ W, Below W0.heap.size W0 W → Calls Try.prog 61 #[.slice (some ⟨b, off, none⟩) k d, .int .i64 x] W fun e w' => e = .returned (.bool hc) ∧ W = w') := fun W hW => by
                have hq := contains_any (some ⟨b, off, none⟩) (pl.take k) d x W ((HP0.out.below hW).cut k) (by omega)
                rw [hlk, HHC.out] at hq
                exact hq
              clear h0 hlk
              have HAT : Hid (∀ W, Below W0.heap.size W0 W → Calls Try.prog 57 #[.slice A l.length c, .int .i64 x] W fun e w' => e = .returned (.int .i64 v) ∧ Below W0.heap.size W0 w') := fun W hW => by
                rw [← HVV.out]
                exact (boxAt_any A l l.length c x W (HA0.out.below hW) (Nat.le_refl _) hl).mono fun e w' ⟨h1, h2⟩ => ⟨h1, hW.trans (h2.mono hW.size)⟩
              obtain ⟨m, HMM⟩ : ∃ m, Hid ((k : Int) % h.tiers = m) := ⟨_, rfl⟩
              have HT : Hid (∀ W, Below W0.heap.size W0 W → Calls Try.prog 62 #[.agg #[.int .i64 h.bays, .int .i64 h.rows, .int .i64 h.tiers], .int .i64 k] W fun e w' => e = .returned (.int .i64 m) ∧ Below W0.heap.size W0 w') := fun W hW => by
                rw [← HMM.out]
                exact (tier_any h k W HK.out (by omega) (by omega)).mono fun e w' ⟨h1, h2⟩ => ⟨h1, hW.trans (h2.mono hW.size)⟩
              have hm0 : 0 ≤ m := by rw [← HMM.out]; exact Int.emod_nonneg _ (by have := HK.out.2.2.1; omega)
              have HM1 : Hid (k = 0 → m = 0) := fun e => by rw [← HMM.out, e]; simp
              by_cases hvv : v < 0
              · have HF : Hid (r = false) := HBAD.out (.inl (by rw [HVV.out]; exact hvv))
                go_wp2_with fail
                refine (HAT.out _ hbw).mono ?_
                rintro e w4 ⟨rfl, b4⟩
                go_wp2_with fail
                go_ret
                exact ⟨ret_bool HF.out.symm, HFIN.out _ b4⟩
              · cases hc with
                | true =>
                  have HF : Hid (r = false) := HBAD.out (.inr (.inl (of_decide_eq_true HHC.out)))
                  go_wp2_with fail
                  refine (HAT.out _ hbw).mono ?_
                  rintro e w4 ⟨rfl, b4⟩
                  go_wp2_with fail
                  refine (HHAS.out _ b4).mono ?_
                  rintro e w' ⟨rfl, rfl⟩
                  go_wp2_with fail
                  go_ret
                  exact ⟨ret_bool HF.out.symm, HFIN.out _ b4⟩
                | false =>
                  go_wp2_with fail
                  refine (HAT.out _ hbw).mono ?_
                  rintro e w4 ⟨rfl, b4⟩
                  go_wp2_with fail
                  refine (HHAS.out _ b4).mono ?_
                  rintro e w' ⟨rfl, rfl⟩
                  obtain ⟨z0, z1, z2⟩ := HS.out _ b4
                  go_wp2_with fail
                  refine (HT.out _ b4).mono ?_
                  rintro e w5 ⟨rfl, b5⟩
                  clear z0 z1 z2
                  by_cases hmp : 0 < m
                  · obtain ⟨j, rfl⟩ : ∃ j, k = j + 1 := ⟨k - 1, by have := HM1.out; omega⟩
                    obtain ⟨b2, off2, y, e2, hb2, Hy, hy0⟩ := (HP0.out.below b5).at_ (k := j) (by omega)
                    injection e2 with e2
                    injection e2 with e2a e2b e2c
                    subst e2a e2b
                    clear e2c
                    have p0 : (0 : Int) ≤ (j : Int) := by omega
                    have p1 : (j : Int) < (pl.length : Int) := by omega
                    have p2 : ((j + 1 : Nat) : Int) - 1 = (j : Int) := by omega
                    by_cases hy : y = 0
                    · have t2 : (y == 0) = true := beq_iff_eq.2 hy
                      have HF : Hid (r = false) := HBAD.out (.inr (.inr ⟨by rw [HMM.out]; omega, by rw [← hy]; exact Hy.out⟩))
                      clear hy
                      go_wp2_with fail
                      go_ret
                      exact ⟨ret_bool HF.out.symm, HFIN.out _ b5⟩
                    · have t2 : (y == 0) = false := beq_eq_false_iff_ne.2 hy
                      have HNX : Hid (pvTo l h.tiers pl (j + 1 + 1) = true) := HGOOD.out (fun hb => by
                        rcases hb with hb | hb | ⟨_, hb⟩
                        · rw [HVV.out] at hb; omega
                        · exact of_decide_eq_false HHC.out hb
                        · have h2 := Hy.out
                          rw [show j + 1 - 1 = j from rfl, h2] at hb
                          injection hb with hb
                          exact hy hb)
                      clear hy
                      go_wp2_with fail
                      exact ⟨⟨j + 1 + 1, by omega, by go_num, HNX.out, b5⟩, by simp [intOf]; omega⟩
                  · have HNX : Hid (pvTo l h.tiers pl (k + 1) = true) := HGOOD.out (fun hb => by
                      rcases hb with hb | hb | ⟨hb, _⟩
                      · rw [HVV.out] at hb; omega
                      · exact of_decide_eq_false HHC.out hb
                      · rw [HMM.out] at hb; omega)
                    go_wp2_with fail
                    exact ⟨⟨k + 1, by omega, by go_num, HNX.out, b5⟩, by simp [intOf]; omega⟩
          · obtain rfl : k = pl.length := by omega
            have HF : Hid (r = true) := HN.out.trans Hk.out
            go_wp2_with fail
            go_ret
            exact ⟨ret_bool HF.out.symm, HFIN.out _ hbw⟩
      · have HN := Lib.hid (HR.out.symm.trans (pvS_len hn))
        have t0 : ((pl.length : Int) != ((slotsV h : Nat) : Int)) = true := by simp; omega
        obtain ⟨ns, HNS⟩ : ∃ n, Hid (slotsV h = n) := ⟨_, rfl⟩
        rw [HNS.out] at HM t0
        clear hv hn hs
        go_enter Try.func28, Try.ntmps28
        go_wp2_with fail
        rw [HW0.out, HX.out]
        refine HV.out.mono ?_
        rintro e w1 ⟨rfl, b1⟩
        go_wp2_with fail
        refine (HQ.out _ b1).mono ?_
        rintro e w2 ⟨rfl, b2⟩
        clear z0 z1 z2
        obtain ⟨z0, z1, z2⟩ := HS.out _ b2
        go_wp2_with fail
        refine (HM.out _ b2).mono ?_
        rintro e w3 ⟨rfl, b3⟩
        clear z0 z1 z2
        go_wp2_with fail
        go_ret
        exact ⟨ret_bool HN.out.symm, HFIN.out _ b3⟩
  · have HV := Lib.hid (hv_f _ (hv_impl h W0) hk)
    have HN := Lib.hid (HR.out.symm.trans (pvS_hull hk))
    clear hk
    go_enter Try.func28, Try.ntmps28
    go_wp2_with fail
    rw [HW0.out, HX.out]
    refine HV.out.mono ?_
    rintro e w1 ⟨rfl, b1⟩
    go_wp2_with fail
    go_ret
    exact ⟨ret_bool HN.out.symm, HFIN.out _ b1⟩
end Go.Proofs.Ytphncbnnnickhaa
