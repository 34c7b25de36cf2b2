/- The law on LeftOver: what it draws, and that it answers true. -/
import Derived.Test.YtphncbnnnickhaaPlanDraw
import Derived.Test.YtphncbnnnickhaaLeft
import Derived.Test.YtphncbnnnickhaaFillLaws
namespace Go.Proofs.Ytphncbnnnickhaa
open Go.RowKit
set_option linter.unusedVariables false
set_option linter.unusedSimpArgs false

/-! How many are on the ship, how many are left over. -/
theorem nodup_le : ∀ (l m : List Int), l.Nodup → (∀ x ∈ l, x ∈ m) → l.length ≤ m.length := by
  intro l
  induction l with
  | nil => intro m _ _; simp
  | cons a l ih =>
    intro m hn hs
    obtain ⟨h1, h2⟩ := List.nodup_cons.1 hn
    have ha := hs a (by simp)
    have := ih (m.erase a) h2 (fun x hx => (List.mem_erase_of_ne (fun e => h1 (by rw [← e]; exact hx))).2 (hs x (List.mem_cons_of_mem _ hx)))
    rw [List.length_erase_of_mem ha] at this
    have := List.length_pos_of_mem ha
    simp; omega
theorem nodup_eq {l m : List Int} (hl : l.Nodup) (hm : m.Nodup) (h : ∀ x, x ∈ l ↔ x ∈ m) : l.length = m.length :=
  Nat.le_antisymm (nodup_le l m hl fun x hx => (h x).1 hx) (nodup_le m l hm fun x hx => (h x).2 hx)
theorem mem_take_next {l : List Int} {k : Nat} {a x : Int} (h : l[k]? = some a) : x ∈ l.take (k + 1) ↔ x ∈ l.take k ∨ x = a := by rw [take_next h]; simp
theorem idsTo_mem (pl : List Int) : ∀ k, k ≤ pl.length → ∀ x, x ∈ idsTo pl k ↔ x ≠ 0 ∧ x ∈ pl.take k := by
  intro k
  induction k with
  | zero => intro _ x; simp [idsTo]
  | succ k ih =>
    intro hk x
    have hx : pl[k]? = some pl[k] := List.getElem?_eq_getElem (by omega)
    rw [mem_take_next hx]
    by_cases h0 : pl[k] = 0
    · rw [idsTo_zero hx h0, ih (by omega), h0]
      constructor
      · rintro ⟨a, b⟩; exact ⟨a, .inl b⟩
      · rintro ⟨a, b | b⟩
        · exact ⟨a, b⟩
        · exact absurd b a
    · rw [idsTo_id hx h0, List.mem_append, ih (by omega), List.mem_singleton]
      constructor
      · rintro (⟨a, b⟩ | a)
        · exact ⟨a, .inl b⟩
        · exact ⟨by rw [a]; exact h0, .inr a⟩
      · rintro ⟨a, b | b⟩
        · exact .inl ⟨a, b⟩
        · exact .inr b
theorem ids_nodup {h : HullV} {l : List BoxV} {pl : List Int} (hv : pvS h l pl = true) : ∀ k, k ≤ pl.length → (idsTo pl k).Nodup := by
  intro k
  induction k with
  | zero => intro _; simp [idsTo]
  | succ k ih =>
    intro hk
    have hx : pl[k]? = some pl[k] := List.getElem?_eq_getElem (by omega)
    by_cases h0 : pl[k] = 0
    · rw [idsTo_zero hx h0]; exact ih (by omega)
    · rw [idsTo_id hx h0]
      refine List.nodup_append.2 ⟨ih (by omega), by simp, fun a ha b hb => ?_⟩
      rw [List.mem_singleton.1 hb]
      intro e
      have hm := ((idsTo_mem pl k (by omega) a).1 ha).2
      rw [e] at hm
      rcases pvTo_at (pv_of hv).2.2.2 k _ (by omega) hx with h1 | h1
      · exact h0 h1
      · exact h1 (.inr (.inl hm))
def inTo (l : List BoxV) (pl : List Int) : Nat → List Int
  | 0 => []
  | k + 1 => match l[k]? with
    | some x => if x.id ∈ pl then inTo l pl k ++ [x.id] else inTo l pl k
    | none => inTo l pl k
theorem in_left (l : List BoxV) (pl : List Int) : ∀ k, k ≤ l.length → (inTo l pl k).length + (leftTo l pl k).length = k := by
  intro k
  induction k with
  | zero => intro _; rfl
  | succ k ih =>
    intro hk
    have hx : l[k]? = some l[k] := List.getElem?_eq_getElem (by omega)
    have := ih (by omega)
    by_cases h : (l[k]).id ∈ pl
    · rw [leftTo_in hx h]
      have e : inTo l pl (k + 1) = inTo l pl k ++ [(l[k]).id] := by
        show (match l[k]? with | some x => _ | none => _) = _
        rw [hx]; show (if _ then _ else _) = _; rw [if_pos h]
      rw [e, List.length_append, List.length_singleton]; omega
    · rw [leftTo_out hx h]
      have e : inTo l pl (k + 1) = inTo l pl k := by
        show (match l[k]? with | some x => _ | none => _) = _
        rw [hx]; show (if _ then _ else _) = _; rw [if_neg h]
      rw [e, List.length_append, List.length_singleton]; omega
theorem inTo_mem (l : List BoxV) (pl : List Int) : ∀ k, k ≤ l.length → ∀ z, z ∈ inTo l pl k ↔ ∃ (j : Nat) (x : BoxV), j < k ∧ l[j]? = some x ∧ x.id = z ∧ z ∈ pl := by
  intro k
  induction k with
  | zero => intro _ z; simp [inTo]
  | succ k ih =>
    intro hk z
    have hx : l[k]? = some l[k] := List.getElem?_eq_getElem (by omega)
    have e : inTo l pl (k + 1) = if (l[k]).id ∈ pl then inTo l pl k ++ [(l[k]).id] else inTo l pl k := by
      show (match l[k]? with | some x => _ | none => _) = _
      rw [hx]
    rw [e]
    constructor
    · intro hz
      split at hz
      · next h =>
        rcases List.mem_append.1 hz with h1 | h1
        · obtain ⟨j, x, a, b, c⟩ := (ih (by omega) z).1 h1
          exact ⟨j, x, by omega, b, c⟩
        · rw [List.mem_singleton.1 h1]
          exact ⟨k, l[k], by omega, hx, rfl, h⟩
      · obtain ⟨j, x, a, b, c⟩ := (ih (by omega) z).1 hz
        exact ⟨j, x, by omega, b, c⟩
    · rintro ⟨j, x, a, b, c, d⟩
      by_cases ej : j = k
      · subst ej
        rw [hx] at b
        injection b with b
        subst b
        rw [if_pos (by rw [c]; exact d)]
        exact List.mem_append.2 (.inr (by rw [c]; simp))
      · have h1 := (ih (by omega) z).2 ⟨j, x, by omega, b, c, d⟩
        split
        · exact List.mem_append.2 (.inl h1)
        · exact h1
theorem in_nodup {l : List BoxV} (hb : BV l) (pl : List Int) : ∀ k, k ≤ l.length → (inTo l pl k).Nodup := by
  intro k
  induction k with
  | zero => intro _; simp [inTo]
  | succ k ih =>
    intro hk
    have hx : l[k]? = some l[k] := List.getElem?_eq_getElem (by omega)
    have e : inTo l pl (k + 1) = if (l[k]).id ∈ pl then inTo l pl k ++ [(l[k]).id] else inTo l pl k := by
      show (match l[k]? with | some x => _ | none => _) = _
      rw [hx]
    rw [e]
    split
    · refine List.nodup_append.2 ⟨ih (by omega), by simp, fun a ha b hbb => ?_⟩
      rw [List.mem_singleton.1 hbb]
      intro ea
      obtain ⟨j, x, h1, h2, h3, _⟩ := (inTo_mem l pl k (by omega) a).1 ha
      have := hb.one j k x l[k] h2 hx (by rw [h3, ea])
      omega
    · exact ih (by omega)
theorem ids_left {h : HullV} {l : List BoxV} {pl : List Int} (hv : pvS h l pl = true) : (idsTo pl pl.length).length + (leftTo l pl l.length).length = l.length := by
  have hb := bvS_spec (pv_of hv).2.1
  have h1 := in_left l pl l.length (Nat.le_refl _)
  have h2 : (idsTo pl pl.length).length = (inTo l pl l.length).length := by
    refine nodup_eq (ids_nodup hv _ (Nat.le_refl _)) (in_nodup hb pl _ (Nat.le_refl _)) fun z => ?_
    rw [idsTo_mem pl _ (Nat.le_refl _), inTo_mem l pl _ (Nat.le_refl _), List.take_of_length_le (Nat.le_refl _)]
    constructor
    · rintro ⟨a, b⟩
      obtain ⟨i, hi⟩ := List.getElem?_of_mem b
      rcases pv_id hv hi with h3 | ⟨j, x, _, hj, he⟩
      · exact absurd h3 a
      · exact ⟨j, x, (List.getElem?_eq_some_iff.1 hj).1, hj, he, b⟩
    · rintro ⟨j, x, _, hj, he, hz⟩
      refine ⟨fun e => ?_, hz⟩
      have := hb.ok x (mem_at hj)
      unfold boxOk at this
      omega
  omega
theorem left_mem {l : List BoxV} {pl : List Int} : ∀ {k : Nat}, k ≤ l.length → ∀ z, z ∈ leftTo l pl k → z ∉ pl ∧ ∃ (j : Nat) (x : BoxV), l[j]? = some x ∧ x.id = z := by
  intro k
  induction k with
  | zero => intro _ z hz; simp [leftTo] at hz
  | succ k ih =>
    intro hk z hz
    have hx : l[k]? = some l[k] := List.getElem?_eq_getElem (by omega)
    by_cases h : (l[k]).id ∈ pl
    · rw [leftTo_in hx h] at hz; exact ih (by omega) z hz
    · rw [leftTo_out hx h] at hz
      rcases List.mem_append.1 hz with h1 | h1
      · exact ih (by omega) z h1
      · rw [List.mem_singleton.1 h1]; exact ⟨h, k, l[k], hx, rfl⟩
section
variable {A : Option Addr} {l : List Int} {c : Nat}
def GotPlan (w : World) (e : Ending) (w' : World) : Prop := ∃ (h : HullV) (l2 : List BoxV) (pl : List Int) (g1 c1 : Nat) (A2 : Option Addr) (c2 : Nat), e = .returned (.tuple #[.agg #[.int .i64 h.bays, .int .i64 h.rows, .int .i64 h.tiers], .slice (some ⟨g1, 0, none⟩) l2.length c1, .slice A2 pl.length c2]) ∧ l2.length ≤ 12 ∧ l2.length ≤ c1 ∧ pl.length ≤ 100 ∧ pl.length ≤ c2 ∧ RdBox w' (some ⟨g1, 0, none⟩) l2 ∧ Rd w' A2 pl ∧ Below w.heap.size w w'
set_option maxHeartbeats 1600000 in
theorem drawLO (w : World) (ha : RdU w A l) (hc : l.length ≤ c) (hl : l.length ≤ 1048576) : Calls Try.prog 33 #[.slice A l.length c] w (GotPlan w) := by
  have kR := Blk.new w 36 #[.int .i64 0, .int .i64 0, .int .i64 0]
  have B0 := below_one (w := w) (.cells #[.int .i64 0, .int .i64 0, .int .i64 0] 36)
  go_enter Try.func33, Try.ntmps33
  go_wp2_with fail
  refine (open_any _ (ha.alloc _) hc hl).mono ?_
  rintro e w1 ⟨g, rfl, r1, b1⟩
  have kR := kR.below b1 kR.lt
  have B1 := B0.trans (b1.mono B0.size)
  have hRs := kR.lt
  obtain ⟨R, HR⟩ : ∃ R, Hid (w.heap.size = R) := ⟨_, rfl⟩
  have HWR : Hid ((w.alloc (.cells #[.int .i64 0, .int .i64 0, .int .i64 0] 36)).heap.size ≤ w1.heap.size) := b1.size
  rw [HR.out] at kR hRs
  clear b1 B0
  go_wp2_with fail
  rw [HR.out]
  refine (plan_any _ g 0 w1 r1 (by omega)).mono ?_
  rintro e w2 ⟨h, l2, pl, g1, c1, A2, c2, rfl, h12, hlc, h100, hpc, ob, op, d2⟩
  have hRg : R < g := by have h1 := r1.lo; have h2 := HR.out; simp at h1; omega
  have kR := kR.chg d2.chg (.inl hRg)
  have HB : Hid (Below w.heap.size w w2) := B1.trans ((d2.chg.below (B := w.heap.size) (by have := HR.out; omega) B1.size))
  have c0 := kR.cell 0
  have c11 := kR.cell 1
  have c22 := kR.cell 2
  have f0 := kR.frozen 0
  have f1 := kR.frozen 1
  have f2 := kR.frozen 2
  simp only [List.getElem?_toArray, List.getElem?_cons_zero, List.getElem?_cons_succ] at c0 c11 c22
  have HF : Hid (GotPlan w (.returned (.tuple #[.agg #[.int .i64 h.bays, .int .i64 h.rows, .int .i64 h.tiers], .slice (some ⟨g1, 0, none⟩) l2.length c1, .slice A2 pl.length c2])) (((w2.setCell ⟨R, 0, none⟩ (.int .i64 h.bays)).setCell ⟨R, 1, none⟩ (.int .i64 h.rows)).setCell ⟨R, 2, none⟩ (.int .i64 h.tiers))) := by
    have hch : Chg R (R + 1) w2 (((w2.setCell ⟨R, 0, none⟩ (.int .i64 h.bays)).setCell ⟨R, 1, none⟩ (.int .i64 h.rows)).setCell ⟨R, 2, none⟩ (.int .i64 h.tiers)) := (((Chg.refl R (R + 1) w2).setCell (p := ⟨R, 0, none⟩) (Nat.le_refl _) (Nat.lt_succ_self _) _).setCell (p := ⟨R, 1, none⟩) (Nat.le_refl _) (Nat.lt_succ_self _) _).setCell (p := ⟨R, 2, none⟩) (Nat.le_refl _) (Nat.lt_succ_self _) _
    exact ⟨h, l2, pl, g1, c1, A2, c2, rfl, h12, hlc, h100, hpc, RdBox.of_rd (ob.chg hch (.inr hRs)).rd, (op.chg hch (.inr hRs)).rd, HB.out.trans (hch.below (by have := HR.out; omega) (HB.out.size))⟩
  clear kR ob op d2 r1 B1 ha
  go_wp2_with fail
  refine bodyPost_ret (v := .tuple #[.agg #[.int .i64 h.bays, .int .i64 h.rows, .int .i64 h.tiers], .slice (some ⟨g1, 0, none⟩) l2.length c1, .slice A2 pl.length c2]) (by simp [results, Try.results33, go_sem, c0, c11, c22]) rfl ?_
  exact HF.out
set_option maxHeartbeats 12800000 in
set_option maxRecDepth 20000 in
theorem law_LeftOver (w : World) (ha : RdU w A l) (hl : l.length ≤ 9223372036854775807) (hc : l.length ≤ c) :
    Calls Try.prog 7 #[.slice A l.length c] w fun e w' => e = .returned (.bool true) ∧ Below w.heap.size w w' := by
  by_cases hs : l.length ≤ 1048576
  · go_enter Try.func7, Try.ntmps7
    go_wp2_with fail
    refine (drawLO w ha hc hs).mono ?_
    rintro e w1 ⟨h, l2, pl, g1, c1, A2, c2, rfl, h12, hlc, h100, hpc, rb, rp, b1⟩
    have kX := Blk.new w1 36 #[.int .i64 h.bays, .int .i64 h.rows, .int .i64 h.tiers]
    have B1 := b1.alloc b1.size (.cells #[.int .i64 h.bays, .int .i64 h.rows, .int .i64 h.tiers] 36)
    have rb := rb.alloc (.cells #[.int .i64 h.bays, .int .i64 h.rows, .int .i64 h.tiers] 36)
    have rp := rp.alloc (.cells #[.int .i64 h.bays, .int .i64 h.rows, .int .i64 h.tiers] 36)
    obtain ⟨W1, HW1⟩ : ∃ W, Hid (w1.alloc (.cells #[.int .i64 h.bays, .int .i64 h.rows, .int .i64 h.tiers] 36) = W) := ⟨_, rfl⟩
    obtain ⟨X, HX⟩ : ∃ X, Hid (w1.heap.size = X) := ⟨_, rfl⟩
    rw [HW1.out] at kX B1 rb rp
    rw [HX.out] at kX
    have hXl := kX.lt
    have HRB := Lib.hid rb
    have HRP := Lib.hid rp
    have HB1 := Lib.hid B1
    have HS : Hid (∀ W, Below W1.heap.size W1 W → W.cell? ⟨X, 0, none⟩ = some (.int .i64 h.bays) ∧ W.cell? ⟨X, 1, none⟩ = some (.int .i64 h.rows) ∧ W.cell? ⟨X, 2, none⟩ = some (.int .i64 h.tiers)) := fun W hW => ⟨(kX.below hW hXl).cell 0, (kX.below hW hXl).cell 1, (kX.below hW hXl).cell 2⟩
    have bw := Below.refl W1.heap.size W1
    obtain ⟨z0, z1, z2⟩ := HS.out W1 bw
    obtain ⟨N, HN⟩ : ∃ N, Hid (leftS h l2 pl = N) := ⟨_, rfl⟩
    have hN : N.length ≤ 12 := by
      rw [← HN.out]; unfold leftS; split
      · have := leftTo_length l2 pl l2.length; omega
      · simp
    have HLI : Hid (∀ W, Below W1.heap.size W1 W → Calls Try.prog 32 #[.agg #[.int .i64 h.bays, .int .i64 h.rows, .int .i64 h.tiers], .slice (some ⟨g1, 0, none⟩) l2.length c1, .slice A2 pl.length c2] W (AnsC (fun s => s) N.length N 3 W)) := fun W hW => by
      rw [← HN.out]; exact left_impl h _ A2 l2 pl c1 c2 W (HRB.out.below hW) (by omega) hlc (HRP.out.below hW) (by omega) hpc
    have HLS : Hid (∀ W, Below W1.heap.size W1 W → Calls Try.prog 34 #[.agg #[.int .i64 h.bays, .int .i64 h.rows, .int .i64 h.tiers], .slice (some ⟨g1, 0, none⟩) l2.length c1, .slice A2 pl.length c2] W (AnsC (fun s => s) N.length N 3 W)) := fun W hW => by
      rw [← HN.out]; exact left_spec h _ A2 l2 pl c1 c2 W (HRB.out.below hW) (by omega) (HRP.out.below hW) (by omega) hpc
    clear kX B1 rb rp b1
    go_wp2_with fail
    rw [HW1.out, HX.out]
    refine (HLI.out _ bw).mono ?_
    rintro e w2 ⟨A3, c3, rfl, hc3, o3, b2⟩
    have bw := bw.trans (b2.mono bw.size)
    have hz2 := b2.size
    clear z0 z1 z2
    obtain ⟨z0, z1, z2⟩ := HS.out _ bw
    clear b2
    go_wp2_with fail
    refine (HLS.out _ bw).mono ?_
    rintro e w3 ⟨A4, c4, rfl, hc4, o4, b3⟩
    have bw := bw.trans (b3.mono bw.size)
    have o3 := o3.below b3 (Nat.le_refl _)
    have hz3 := b3.size
    clear z0 z1 z2 b3
    go_wp2_with fail
    refine (same_b A3 A4 N N _ _ _ o3.rd o4.rd (by omega) (by omega) rfl).mono ?_
    rintro e w4 ⟨rfl, b4⟩
    have bw := bw.trans (b4.mono bw.size)
    have o3 := o3.below b4 (by omega)
    have hz4 := b4.size
    obtain ⟨z0, z1, z2⟩ := HS.out _ bw
    obtain ⟨r, HV⟩ : ∃ r, Hid (pvS h l2 pl = r) := ⟨_, rfl⟩
    have HPV : Hid (∀ W, Below W1.heap.size W1 W → Calls Try.prog 35 #[.agg #[.int .i64 h.bays, .int .i64 h.rows, .int .i64 h.tiers], .slice (some ⟨g1, 0, none⟩) l2.length c1, .slice A2 pl.length c2] W fun e w' => e = .returned (.bool r) ∧ Below W.heap.size W w') := fun W hW => bool_to (pv_spec h _ A2 l2 pl c1 c2 W (HRB.out.below hW) (by omega) (HRP.out.below hW) (by omega) hpc) HV.out
    clear o4 b4
    go_wp2_with fail
    refine (HPV.out _ bw).mono ?_
    rintro e w5 ⟨rfl, b5⟩
    have bw := bw.trans (b5.mono bw.size)
    have o3 := o3.below b5 (by omega)
    have hz5 := b5.size
    clear z0 z1 z2 b5
    cases r with
    | false =>
      have h0 : N = [] := by rw [← HN.out]; unfold leftS; rw [HV.out]; rfl
      subst h0
      go_wp2_with fail
      refine (alive_any _).mono ?_
      rintro e w' ⟨rfl, rfl⟩
      go_wp2_with fail
      go_ret
      exact ⟨rfl, HB1.out.trans (bw.mono HB1.out.size)⟩
    | true =>
      have HNL : Hid (N = leftTo l2 pl l2.length) := by show _ = _; rw [← HN.out]; unfold leftS; rw [HV.out]; rfl
      obtain ⟨M, HM⟩ : ∃ M, Hid (idsS h l2 pl = M) := ⟨_, rfl⟩
      have HML : Hid (M = idsTo pl pl.length) := by show _ = _; rw [← HM.out]; unfold idsS; rw [HV.out]; rfl
      have hM : M.length ≤ 100 := by rw [HML.out]; have := idsTo_length pl pl.length; omega
      have HSUM : Hid (M.length + N.length = l2.length) := by show _ = _; rw [HML.out, HNL.out]; exact ids_left HV.out
      have HID := Lib.hid (by have hq := ids_impl h _ A2 l2 pl c1 c2 w5 (HRB.out.below bw) (by omega) hlc (HRP.out.below bw) (by omega) hpc; rw [HM.out] at hq; exact hq)
      obtain ⟨z0, z1, z2⟩ := HS.out _ bw
      go_wp2_with fail
      refine HID.out.mono ?_
      rintro e w6 ⟨A6, c6, rfl, hc6, o6, b6⟩
      have bw6 := bw.trans (b6.mono bw.size)
      have o3 := o3.below b6 (by omega)
      clear z0 z1 z2 b6 bw
      have HR3 := Lib.hid o3.rd
      have HR6 := Lib.hid o6.rd
      have HZ6 := Lib.hid (bw6)
      clear o3 o6
      go_wp2_with fail
      go_loopw [8] (fun i wr => ∃ k : Nat, k ≤ N.length ∧ i = .int .i64 k ∧ Below w6.heap.size w6 wr) (fun i _ => N.length - (intOf i).toNat)
      case atStart => exact ⟨0, by omega, rfl, Below.refl _ _⟩
      case round =>
        obtain ⟨k, hk, rfl, hbw⟩ := hrel
        by_cases hlt : k < N.length
        · obtain ⟨b, off, x, eA, hbx, Hx, hx0⟩ := (HR3.out.below hbw).at_ (k := k) hlt
          subst eA
          have q0 : (0 : Int) ≤ (k : Int) := by omega
          have q1 : (k : Int) < (N.length : Int) := by omega
          have HLM : Hid (x ∉ pl ∧ ∃ (j : Nat) (y : BoxV), l2[j]? = some y ∧ y.id = x) := left_mem (Nat.le_refl _) x (by rw [← HNL.out]; exact mem_at Hx.out)
          have HHAS : Hid (∀ W, Below w6.heap.size w6 W → Calls Try.prog 25 #[.slice A6 M.length c6, .int .i64 x] W fun e w' => e = .returned (.bool false) ∧ W = w') := fun W hW => by
            have hq := hasInt_any A6 M c6 x W (HR6.out.below hW) (by omega)
            rw [decide_eq_false (fun hm => by
              rw [HML.out, idsTo_mem pl _ (Nat.le_refl _), List.take_of_length_le (Nat.le_refl _)] at hm
              exact HLM.out.1 hm.2)] at hq
            exact hq
          obtain ⟨v, HVV⟩ : ∃ v, Hid (findS l2 x = v) := ⟨_, rfl⟩
          have hv0 : 0 ≤ v := by
            obtain ⟨j, y, hj, he⟩ := HLM.out.2
            rw [← HVV.out, findS_yes (pv_of HV.out).2.1]
            exact at_of hj he (List.getElem?_eq_some_iff.1 hj).1
          have HFN : Hid (∀ W, Below w6.heap.size w6 W → Calls Try.prog 24 #[.slice (some ⟨g1, 0, none⟩) l2.length c1, .int .i64 x] W fun e w' => e = .returned (.int .i64 v) ∧ Below W.heap.size W w') := fun W hW => int_to (find_any _ l2 c1 x W (HRB.out.below (bw6.trans (hW.mono bw6.size))) (by omega) hlc) HVV.out
          go_wp2_with fail
          refine (HHAS.out _ hbw).mono ?_
          rintro e w' ⟨rfl, rfl⟩
          go_wp2_with fail
          refine (HFN.out _ hbw).mono ?_
          rintro e w7 ⟨rfl, b7⟩
          have hbw7 := hbw.trans (b7.mono hbw.size)
          have tv : decide (v < 0) = false := by simp; omega
          clear b7
          go_wp2_with fail
          exact ⟨⟨k + 1, by omega, by go_num, hbw7⟩, by simp [intOf]; omega⟩
        · have HE : Hid ((((M.length : Int) + (N.length : Int)) == (l2.length : Int)) = true) := beq_iff_eq.2 (by have := HSUM.out; omega)
          have hm2 : (M.length : Int) ≤ 100 := by omega
          have hn2 : (N.length : Int) ≤ 100 := by omega
          go_wp2_with fail
          go_ret
          exact ⟨ret_bool HE.out, HB1.out.trans ((bw6.trans (hbw.mono bw6.size)).mono HB1.out.size)⟩
  · go_enter Try.func7, Try.ntmps7
    go_wp2_with fail
    go_ret
    exact ⟨rfl, Below.refl _ _⟩
end
end Go.Proofs.Ytphncbnnnickhaa
