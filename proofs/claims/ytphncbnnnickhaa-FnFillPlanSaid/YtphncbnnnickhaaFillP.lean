/- FillPlan: what is filled in, and the program's walk. -/
import Derived.Test.YtphncbnnnickhaaLight
namespace Go.Proofs.Ytphncbnnnickhaa
open Go.RowKit
set_option linter.unusedVariables false
set_option linter.unusedSimpArgs false

/-- The plan with the first k boxes in their order. -/
def fillTo (h : HullV) (l : List BoxV) : Nat → List Int
  | 0 => emptyS h
  | k + 1 => match (fillS l)[k]? with
    | some id => if lightS h l (fillTo h l k) < 0 then fillTo h l k else (fillTo h l k).set (lightS h l (fillTo h l k)).toNat id
    | none => fillTo h l k
def fillP (h : HullV) (l : List BoxV) : List Int := if bvS l = true then fillTo h l (fillS l).length else []
section
variable {h : HullV} {l : List BoxV} {k : Nat} {id : Int}
theorem fillTo_stay (hx : (fillS l)[k]? = some id) (hs : lightS h l (fillTo h l k) < 0) : fillTo h l (k + 1) = fillTo h l k := by
  show (match (fillS l)[k]? with | some id => _ | none => _) = _
  rw [hx]; show (if _ then _ else _) = _; rw [if_pos hs]
theorem fillTo_put (hx : (fillS l)[k]? = some id) (hs : ¬ lightS h l (fillTo h l k) < 0) : fillTo h l (k + 1) = (fillTo h l k).set (lightS h l (fillTo h l k)).toNat id := by
  show (match (fillS l)[k]? with | some id => _ | none => _) = _
  rw [hx]; show (if _ then _ else _) = _; rw [if_neg hs]
theorem fillTo_length (h : HullV) (l : List BoxV) : ∀ k, (fillTo h l k).length = (emptyS h).length := by
  intro k
  induction k with
  | zero => rfl
  | succ k ih =>
    cases hx : (fillS l)[k]? with
    | none =>
      have e : fillTo h l (k + 1) = fillTo h l k := by
        show (match (fillS l)[k]? with | some id => _ | none => _) = _
        rw [hx]
      rw [e, ih]
    | some id =>
      by_cases hs : lightS h l (fillTo h l k) < 0
      · rw [fillTo_stay hx hs, ih]
      · rw [fillTo_put hx hs, List.length_set, ih]
theorem fillTo_end (hs : lightS h l (fillTo h l k) < 0) : ∀ n, k ≤ n → fillTo h l n = fillTo h l k := by
  intro n hn
  induction n with
  | zero => obtain rfl : k = 0 := by omega
            rfl
  | succ n ih =>
    by_cases e : k = n + 1
    · rw [e]
    · have e1 := ih (by omega)
      cases hx : (fillS l)[n]? with
      | none =>
        have e2 : fillTo h l (n + 1) = fillTo h l n := by
          show (match (fillS l)[n]? with | some id => _ | none => _) = _
          rw [hx]
        rw [e2, e1]
      | some id => rw [fillTo_stay hx (by rw [e1]; exact hs), e1]
theorem light_mem (h : HullV) (l : List BoxV) (pl : List Int) : lightS h l pl = -1 ∨ lightS h l pl ∈ nextS h l pl := lightTo_mem _ _ _ _
theorem light_no (hk : ¬ hullOk h) (pl : List Int) : lightS h l pl = -1 := by
  rcases light_mem h l pl with h1 | h1
  · exact h1
  · exact absurd (pv_of (nextS_mem h1).1).1 hk
theorem fill_nohull (hk : ¬ hullOk h) : ∀ k, fillTo h l k = [] := by
  intro k
  have e : emptyS h = [] := by unfold emptyS; rw [if_neg hk]
  have := fillTo_length h l k
  rw [e] at this
  exact List.length_eq_zero_iff.1 this
theorem fillP_nohull (hk : ¬ hullOk h) : fillP h l = [] := by
  unfold fillP
  split
  · exact fill_nohull hk _
  · rfl
theorem fillP_noboxes (hv : bvS l = false) : fillP h l = [] := by unfold fillP; rw [hv]; rfl
theorem fillP_yes (hv : bvS l = true) : fillP h l = fillTo h l (fillS l).length := by unfold fillP; rw [if_pos hv]
theorem fillP_short (h : HullV) (l : List BoxV) : (fillP h l).length ≤ 36 := by
  unfold fillP
  split
  · rw [fillTo_length]; unfold emptyS
    split
    · next hk => rw [zeros_length]; exact (slots_bd hk).2.2
    · simp
  · simp
end
theorem pvTo_all {l : List BoxV} {T : Int} {pl : List Int} : ∀ {n : Nat}, n ≤ pl.length → (∀ (k : Nat) (id : Int), k < n → pl[k]? = some id → id = 0 ∨ ¬ badP l T pl k id) → pvTo l T pl n = true := by
  intro n
  induction n with
  | zero => intro _ _; rfl
  | succ n ih =>
    intro hn h
    have hx : pl[n]? = some pl[n] := List.getElem?_eq_getElem (by omega)
    rw [pvTo_next hx, ih (by omega) (fun k id hk hx => h k id (by omega) hx), decide_eq_true (h n _ (by omega) hx)]
    rfl
theorem zeros_at {n k : Nat} {x : Int} (h : (zeros n)[k]? = some x) : x = 0 := by
  have := List.mem_of_getElem? h
  exact List.eq_of_mem_replicate this
theorem pv_empty {h : HullV} {l : List BoxV} (hk : hullOk h) (hv : bvS l = true) : pvS h l (emptyS h) = true := by
  have e : emptyS h = zeros (slotsV h) := by unfold emptyS; rw [if_pos hk]
  rw [pvS_rest hk hv (by rw [e, zeros_length]), e]
  exact pvTo_all (Nat.le_refl _) fun k id _ hx => .inl (zeros_at hx)
/-- A further box in a slot where it may be put. -/
theorem pv_set {h : HullV} {l : List BoxV} {pl : List Int} {s : Nat} {id : Int} {j : Nat} {x : BoxV} (hv : pvS h l pl = true) (hs : s < pl.length) (h0 : pl[s]? = some 0) (hn : (s : Int) % h.tiers = 0 ∨ pl[s - 1]? ≠ some 0) (hj : l[j]? = some x) (he : x.id = id) (hm : id ∉ pl) : pvS h l (pl.set s id) = true := by
  obtain ⟨v1, v2, v3, v4⟩ := pv_of hv
  have hx1 := (bvS_spec v2).ok x (mem_at hj)
  have hid : id ≠ 0 := by unfold boxOk at hx1; omega
  rw [pvS_rest v1 v2 (by rw [List.length_set]; exact v3)]
  refine pvTo_all (Nat.le_refl _) fun k y hk hy => ?_
  rw [List.length_set] at hk
  by_cases e : s = k
  · subst e
    rw [List.getElem?_set_self hs] at hy
    injection hy with hy
    subst hy
    right
    rintro (hb | hb | ⟨hb1, hb2⟩)
    · have := at_of hj he (List.getElem?_eq_some_iff.1 hj).1
      omega
    · rw [List.take_set_of_le (Nat.le_refl _)] at hb
      exact hm (List.mem_of_mem_take hb)
    · rcases hn with h1 | h1
      · omega
      · apply h1
        by_cases e0 : s = 0
        · subst e0; simp at hb1
        · rwa [List.getElem?_set_ne (by omega)] at hb2
  · rw [List.getElem?_set_ne e] at hy
    rcases pvTo_at v4 k y hk hy with h1 | h1
    · exact .inl h1
    · by_cases hy0 : y = 0
      · exact .inl hy0
      · right
        rintro (hb | hb | ⟨hb1, hb2⟩)
        · exact h1 (.inl hb)
        · obtain ⟨i, hi⟩ := List.getElem?_of_mem hb
          rw [List.getElem?_take] at hi
          split at hi
          · next hik =>
            by_cases e2 : s = i
            · subst e2
              rw [List.getElem?_set_self hs] at hi
              injection hi with hi
              exact hm (by rw [hi]; exact mem_at hy)
            · rw [List.getElem?_set_ne e2] at hi
              exact h1 (.inr (.inl (List.mem_of_getElem? (i := i) (by rw [List.getElem?_take, if_pos hik]; exact hi))))
          · cases hi
        · by_cases e2 : s = k - 1
          · rw [← e2, List.getElem?_set_self hs] at hb2
            injection hb2 with hb2
            exact hid hb2
          · rw [List.getElem?_set_ne e2] at hb2
            exact h1 (.inr (.inr ⟨hb1, hb2⟩))
theorem fill_inv {h : HullV} {l : List BoxV} (hk : hullOk h) (hv : bvS l = true) : ∀ k, pvS h l (fillTo h l k) = true ∧ ∀ id ∈ fillTo h l k, id = 0 ∨ id ∈ (fillS l).take k := by
  have hb := bvS_spec hv
  intro k
  induction k with
  | zero =>
    refine ⟨pv_empty hk hv, fun id hid => ?_⟩
    have e : emptyS h = zeros (slotsV h) := by unfold emptyS; rw [if_pos hk]
    have h1 : id ∈ zeros (slotsV h) := by rw [← e]; exact hid
    exact .inl (List.eq_of_mem_replicate h1)
  | succ k ih =>
    obtain ⟨i1, i2⟩ := ih
    cases hx : (fillS l)[k]? with
    | none =>
      have e2 : fillTo h l (k + 1) = fillTo h l k := by
        show (match (fillS l)[k]? with | some id => _ | none => _) = _
        rw [hx]
      rw [e2]
      refine ⟨i1, fun id hid => ?_⟩
      rcases i2 id hid with h1 | h1
      · exact .inl h1
      · exact .inr ((List.take_subset_take_left _ (by omega)) h1)
    | some id =>
      by_cases hs : lightS h l (fillTo h l k) < 0
      · rw [fillTo_stay hx hs]
        refine ⟨i1, fun id hid => ?_⟩
        rcases i2 id hid with h1 | h1
        · exact .inl h1
        · exact .inr ((List.take_subset_take_left _ (by omega)) h1)
      · rw [fillTo_put hx hs]
        have hm := light_mem h l (fillTo h l k)
        obtain ⟨_, s, es, hsl, h0, hn⟩ := nextS_mem (hm.resolve_left (by omega))
        rw [es, Int.toNat_natCast]
        have hk1 : k < (ordB l).length := by
          have := (List.getElem?_eq_some_iff.1 hx).1
          rw [fillS_yes hv, List.length_map] at this
          exact this
        have hbx : (ordB l)[k]? = some (ordB l)[k] := List.getElem?_eq_getElem hk1
        have hid : ((ordB l)[k]).id = id := by
          rw [fillS_yes hv, List.getElem?_map, hbx] at hx
          injection hx
        obtain ⟨j, hj⟩ := List.getElem?_of_mem ((ordB_mem l _).1 (mem_at hbx))
        have hnot : id ∉ (fillS l).take k := by
          intro hh
          obtain ⟨n, hn⟩ := List.getElem?_of_mem hh
          rw [List.getElem?_take] at hn
          split at hn
          · next hnk =>
            rw [fillS_yes hv, List.getElem?_map] at hn
            cases hq : (ordB l)[n]? with
            | none => rw [hq] at hn; cases hn
            | some z =>
              rw [hq] at hn
              injection hn with hn
              have := ordB_one hb hq hbx (by rw [hid]; exact hn)
              omega
          · cases hn
        have hid0 : id ≠ 0 := by
          have := hb.ok _ (mem_at hj)
          unfold boxOk at this
          omega
        refine ⟨pv_set i1 hsl h0 hn hj hid (fun hh => ?_), fun z hz => ?_⟩
        · rcases i2 id hh with h1 | h1
          · exact hid0 h1
          · exact hnot h1
        · rcases List.mem_or_eq_of_mem_set hz with h1 | h1
          · rcases i2 z h1 with h2 | h2
            · exact .inl h2
            · exact .inr ((List.take_subset_take_left _ (by omega)) h2)
          · rw [h1]
            exact .inr (by rw [take_next hx]; simp)
end Go.Proofs.Ytphncbnnnickhaa
