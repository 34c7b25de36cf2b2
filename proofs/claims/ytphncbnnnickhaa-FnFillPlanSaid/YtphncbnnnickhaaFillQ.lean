/- FillPlan, plain: later ports are below; the ship is full or all boxes are on it. -/
import Derived.Test.YtphncbnnnickhaaVoy3
import Derived.Test.YtphncbnnnickhaaLeftLaws
namespace Go.Proofs.Ytphncbnnnickhaa
open Go.RowKit
set_option linter.unusedVariables false
set_option linter.unusedSimpArgs false

theorem desc_set {l : List BoxV} {T : Int} {pl : List Int} {s : Nat} {id : Int} (h1 : 1 ≤ T) (h3 : T ≤ 3) (hd : Desc l T pl) (hs : s < pl.length) (h0 : pl[s]? = some 0) (hn : (s : Int) % T = 0 ∨ pl[s - 1]? ≠ some 0) (hid : id ≠ 0) (hp : ∀ z ∈ pl, z ≠ 0 → portV l id ≤ portV l z) : Desc l T (pl.set s id) := by
  intro i k y hik hc hy hy0
  have hcc : colOf T k ≤ i := hc
  by_cases e : s = k
  · subst e
    rw [List.getElem?_set_self hs] at hy
    injection hy with hy
    subst hy
    have hm : (s : Int) % T ≠ 0 := by
      intro hm
      unfold colOf at hcc
      rw [hm] at hcc
      omega
    obtain ⟨hcu, hs1⟩ := col_up h1 h3 hm
    have hx : pl[s - 1]? = some (pl[s - 1]'(by omega)) := List.getElem?_eq_getElem (by omega)
    have hx0 : pl[s - 1]'(by omega) ≠ 0 := by
      rcases hn with hn | hn
      · exact absurd hn hm
      · intro e; apply hn; rw [hx, e]
    rw [List.getElem?_set_ne (by omega)]
    by_cases ei : i = s - 1
    · subst ei
      exact ⟨_, hx, hx0, hp _ (mem_at hx) hx0⟩
    · have hc2 : colOf T (s - 1) ≤ i := by rw [hcu]; exact hcc
      obtain ⟨x, hxi, hxi0, _⟩ := hd i (s - 1) _ (by omega) hc2 hx hx0
      exact ⟨x, hxi, hxi0, hp _ (mem_at hxi) hxi0⟩
  · rw [List.getElem?_set_ne e] at hy
    obtain ⟨x, hx, hx0, hpx⟩ := hd i k y hik hc hy hy0
    refine ⟨x, ?_, hx0, hpx⟩
    by_cases e2 : s = i
    · subst e2
      rw [h0] at hx
      injection hx with hx
      exact absurd hx.symm hx0
    · rw [List.getElem?_set_ne e2]; exact hx
theorem portV_of {l : List BoxV} (hb : BV l) {x : BoxV} (hx : x ∈ l) : portV l x.id = x.port := by
  obtain ⟨j, hj⟩ := List.getElem?_of_mem hx
  unfold portV
  rw [hb.at_ hj, Int.toNat_natCast, hj]
theorem ord_port {l : List BoxV} (hb : BV l) {i j : Nat} {x y : BoxV} (hi : (ordB l)[i]? = some x) (hj : (ordB l)[j]? = some y) (hij : i < j) : y.port ≤ x.port := by
  have h1 := ordB_lt hb hi hj hij
  have h2 := hb.ok x ((ordB_mem l x).1 (mem_at hi))
  have h3 := hb.ok y ((ordB_mem l y).1 (mem_at hj))
  unfold boxOk at h2 h3
  unfold keyB at h1
  omega
theorem fill_port {l : List BoxV} (hv : bvS l = true) {k : Nat} {id z : Int} (hx : (fillS l)[k]? = some id) (hz : z ∈ (fillS l).take k) : portV l id ≤ portV l z := by
  have hb := bvS_spec hv
  obtain ⟨n, hn⟩ := List.getElem?_of_mem hz
  rw [List.getElem?_take] at hn
  split at hn
  · next hnk =>
    rw [fillS_yes hv, List.getElem?_map] at hx hn
    cases h1 : (ordB l)[k]? with
    | none => rw [h1] at hx; cases hx
    | some a =>
      cases h2 : (ordB l)[n]? with
      | none => rw [h2] at hn; cases hn
      | some b =>
        rw [h1] at hx
        rw [h2] at hn
        injection hx with hx
        injection hn with hn
        rw [← hx, ← hn, portV_of hb ((ordB_mem l a).1 (mem_at h1)), portV_of hb ((ordB_mem l b).1 (mem_at h2))]
        exact ord_port hb h2 h1 hnk
  · cases hn
theorem fill_id {l : List BoxV} (hv : bvS l = true) {k : Nat} {id : Int} (hx : (fillS l)[k]? = some id) : id ≠ 0 := by
  rw [fillS_yes hv, List.getElem?_map] at hx
  cases h1 : (ordB l)[k]? with
  | none => rw [h1] at hx; cases hx
  | some a =>
    rw [h1] at hx
    injection hx with hx
    have h3 := (bvS_spec hv).ok a ((ordB_mem l a).1 (mem_at h1))
    unfold boxOk at h3
    simp only at hx
    omega
theorem desc_zeros {l : List BoxV} {T : Int} {n : Nat} : Desc l T (zeros n) := by
  intro i k y _ _ hy h0
  exact absurd (zeros_at hy) h0
theorem fill_desc {h : HullV} {l : List BoxV} (hk : hullOk h) (hv : bvS l = true) : ∀ k, Desc l h.tiers (fillTo h l k) := by
  intro k
  induction k with
  | zero =>
    have e : fillTo h l 0 = zeros (slotsV h) := by show emptyS h = _; unfold emptyS; rw [if_pos hk]
    rw [e]; exact desc_zeros
  | succ k ih =>
    cases hx : (fillS l)[k]? with
    | none =>
      have e2 : fillTo h l (k + 1) = fillTo h l k := by
        show (match (fillS l)[k]? with | some id => _ | none => _) = _
        rw [hx]
      rw [e2]; exact ih
    | some id =>
      by_cases hs : lightS h l (fillTo h l k) < 0
      · rw [fillTo_stay hx hs]; exact ih
      · rw [fillTo_put hx hs]
        obtain ⟨_, s, es, hsl, h0, hn⟩ := nextS_mem ((light_mem h l (fillTo h l k)).resolve_left (by omega))
        rw [es, Int.toNat_natCast]
        refine desc_set hk.2.2.1 hk.2.2.2 ih hsl h0 hn (fill_id hv hx) fun z hz hz0 => ?_
        rcases (fill_inv hk hv k).2 z hz with h1 | h1
        · exact absurd h1 hz0
        · exact fill_port hv hx h1
theorem nextTo_in {T : Int} {pl : List Int} {i : Nat} (hx : pl[i]? = some 0) (hb : (i : Int) % T = 0 ∨ pl[i - 1]? ≠ some 0) : ∀ n, i < n → n ≤ pl.length → (i : Int) ∈ nextTo T pl n := by
  intro n
  induction n with
  | zero => intro h; omega
  | succ n ih =>
    intro hi hn
    have hy : pl[n]? = some pl[n] := List.getElem?_eq_getElem (by omega)
    by_cases e : i = n
    · subst e
      rw [hx] at hy
      injection hy with hy
      rw [nextTo_yes hx rfl hb]
      simp
    · have h1 := ih (by omega) (by omega)
      by_cases hc : pl[n] = 0 ∧ ((n : Int) % T = 0 ∨ pl[n - 1]? ≠ some 0)
      · rw [nextTo_yes hy hc.1 hc.2]; exact List.mem_append_left _ h1
      · rw [nextTo_no hy hc]; exact h1
theorem next_full {T : Int} {pl : List Int} (h : nextTo T pl pl.length = []) : ∀ i : Nat, pl[i]? ≠ some 0 := by
  intro i
  induction i with
  | zero =>
    intro hx
    have h1 := nextTo_in (T := T) hx (.inl (by simp)) pl.length (List.getElem?_eq_some_iff.1 hx).1 (Nat.le_refl _)
    rw [h] at h1
    simp at h1
  | succ i ih =>
    intro hx
    have h1 := nextTo_in (T := T) hx (.inr ih) pl.length (List.getElem?_eq_some_iff.1 hx).1 (Nat.le_refl _)
    rw [h] at h1
    simp at h1
theorem light_nonneg {Wt NX : List Int} {t n : Nat} (hp : ∀ x ∈ NX, 0 ≤ x) (h1 : 1 ≤ n) (hn : n ≤ NX.length) : 0 ≤ lightTo Wt NX t n := by
  obtain ⟨m, rfl⟩ : ∃ m, n = m + 1 := ⟨n - 1, by omega⟩
  have hx : NX[m]? = some NX[m] := List.getElem?_eq_getElem (by omega)
  rw [lightTo_next hx]
  split
  · exact hp _ (mem_at hx)
  · next h => omega
theorem light_full {h : HullV} {l : List BoxV} {pl : List Int} (hv : pvS h l pl = true) (hs : lightS h l pl < 0) : 0 ∉ pl := by
  have e : nextS h l pl = nextTo h.tiers pl pl.length := by unfold nextS; rw [if_pos hv]
  have h0 : nextS h l pl = [] := by
    rcases Nat.eq_zero_or_pos (nextS h l pl).length with h1 | h1
    · exact List.length_eq_zero_iff.1 h1
    · have h2 : 0 ≤ lightS h l pl := light_nonneg (fun x hx => by
        obtain ⟨_, i, e, _⟩ := nextS_mem hx
        omega) h1 (Nat.le_refl _)
      omega
  intro hm
  obtain ⟨i, hi⟩ := List.getElem?_of_mem hm
  exact next_full (by rw [← e]; exact h0) i hi
theorem fill_all {h : HullV} {l : List BoxV} (hk : hullOk h) (hv : bvS l = true) : ∀ k, (∀ z ∈ (fillS l).take k, z ∈ fillTo h l k) ∨ 0 ∉ fillTo h l k := by
  intro k
  induction k with
  | zero => exact .inl (by simp)
  | succ k ih =>
    cases hx : (fillS l)[k]? with
    | none =>
      have e2 : fillTo h l (k + 1) = fillTo h l k := by
        show (match (fillS l)[k]? with | some id => _ | none => _) = _
        rw [hx]
      have hkl := List.getElem?_eq_none_iff.1 hx
      rw [e2, List.take_of_length_le (by omega)]
      rw [List.take_of_length_le hkl] at ih
      exact ih
    | some id =>
      have hpv := (fill_inv hk hv k).1
      by_cases hs : lightS h l (fillTo h l k) < 0
      · rw [fillTo_stay hx hs]
        exact .inr (light_full hpv hs)
      · rw [fillTo_put hx hs]
        obtain ⟨_, s, es, hsl, h0, hn⟩ := nextS_mem ((light_mem h l (fillTo h l k)).resolve_left (by omega))
        rw [es, Int.toNat_natCast]
        rcases ih with ih | ih
        · left
          intro z hz
          rcases (mem_take_next hx).1 hz with h1 | h1
          · have hz0 : z ≠ 0 := by
              obtain ⟨n, hn⟩ := List.getElem?_of_mem (List.mem_of_mem_take h1)
              exact fill_id hv hn
            obtain ⟨i, hi⟩ := List.getElem?_of_mem (ih z h1)
            refine List.mem_of_getElem? (i := i) ?_
            rw [List.getElem?_set_ne (fun e => ?_)]
            · exact hi
            · subst e
              rw [h0] at hi
              injection hi with hi
              exact hz0 hi.symm
          · rw [h1]
            exact List.mem_of_getElem? (i := s) (List.getElem?_set_self hsl)
        · exact absurd (mem_at h0) ih
theorem left_none {l : List BoxV} {pl : List Int} (h : ∀ x ∈ l, x.id ∈ pl) : ∀ k, leftTo l pl k = [] := by
  intro k
  induction k with
  | zero => rfl
  | succ k ih =>
    cases hx : l[k]? with
    | none =>
      show (match l[k]? with | some x => _ | none => _) = _
      rw [hx]; exact ih
    | some x => rw [leftTo_in hx (h x (mem_at hx)), ih]
theorem ids_all {pl : List Int} (h : 0 ∉ pl) : ∀ k, k ≤ pl.length → (idsTo pl k).length = k := by
  intro k
  induction k with
  | zero => intro _; rfl
  | succ k ih =>
    intro hk
    have hy : pl[k]? = some pl[k] := List.getElem?_eq_getElem (by omega)
    rw [idsTo_id hy (fun e => h (by rw [← e]; exact mem_at hy)), List.length_append, List.length_singleton, ih (by omega)]
/-- What the statement asks of the filled plan. -/
structure Filled (h : HullV) (l : List BoxV) (pl : List Int) (n : Nat) : Prop where
  hull : hullOk h
  pv : pvS h l pl = true
  desc : Desc l h.tiers pl
  ids : (idsTo pl pl.length).length = n
  min : n = min l.length (slotsV h)
  left : n + (leftTo l pl l.length).length = l.length
  len : pl.length = slotsV h
theorem filled {h : HullV} {l : List BoxV} (h0 : fillP h l ≠ []) : Filled h l (fillP h l) (idsTo (fillP h l) (fillP h l).length).length := by
  have hk : hullOk h := by
    by_cases hk : hullOk h
    · exact hk
    · exact absurd (fillP_nohull hk) h0
  have hv : bvS l = true := by
    cases hv : bvS l with
    | true => rfl
    | false => exact absurd (fillP_noboxes hv) h0
  have e := fillP_yes (h := h) hv
  obtain ⟨pl, hpl⟩ : ∃ pl, fillP h l = pl := ⟨_, rfl⟩
  rw [hpl] at e ⊢
  have hpv : pvS h l pl = true := by rw [e]; exact (fill_inv hk hv _).1
  have hlen := (pv_of hpv).2.2.1
  have hsum := ids_left hpv
  have hle := idsTo_length pl pl.length
  refine ⟨hk, hpv, by rw [e]; exact fill_desc hk hv _, rfl, ?_, hsum, hlen⟩
  have hall := fill_all hk hv (fillS l).length
  rw [← e, List.take_of_length_le (Nat.le_refl _)] at hall
  rcases hall with h1 | h1
  · have h2 : leftTo l pl l.length = [] := left_none (fun x hx => h1 _ (by
      rw [fillS_yes hv]
      exact List.mem_map.2 ⟨x, (ordB_mem l x).2 hx, rfl⟩)) _
    rw [h2] at hsum
    simp only [List.length_nil] at hsum
    omega
  · have h2 := ids_all h1 pl.length (Nat.le_refl _)
    omega
end Go.Proofs.Ytphncbnnnickhaa
