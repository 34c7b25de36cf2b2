/- What is true of the hours at which ships are begun, and of how long they wait. Plain Lean. -/
import Derived.Test.YtjbocijckoaekaaWait
import Derived.Test.YtjbocijckoaekaaPerm
namespace Go.Proofs.Ytjbocijckoaekaa
open Go.RowKit
set_option linter.unusedVariables false
set_option linter.unusedSimpArgs false

theorem stTo_stay {l : List ShipV} {o : List Int} (hv : ∀ x ∈ l, oneV x) (hp : permTo o l.length o.length = true) {k i : Nat} {x : ShipV} (ho : o[k]? = some (i : Int)) (hx : l[i]? = some x) :
    ∀ m, k < m → m ≤ o.length → (stTo l o m).1[i]? = some (max (stTo l o k).2 x.arrive) := by
  intro m
  induction m with
  | zero => intro h; omega
  | succ m ih =>
    intro h1 h2
    have hil := (List.getElem?_eq_some_iff.1 hx).1
    by_cases e : k = m
    · subst e
      rw [stTo_next ho hx]
      exact List.getElem?_set_self (by rw [(stTo_bd hv o k).2.2.1]; exact hil)
    · have hy : o[m]? = some o[m] := List.getElem?_eq_getElem (by omega)
      obtain ⟨⟨y0, y9⟩, hb⟩ := permTo_at hp (show m < o.length by omega) hy
      obtain ⟨j, hj⟩ := Int.eq_ofNat_of_zero_le y0
      rw [hj] at hy hb
      have hne : j ≠ i := by
        intro e2
        subst e2
        rw [has_hit ho (show k < m by omega)] at hb
        cases hb
      have hz : l[j]? = some l[j] := List.getElem?_eq_getElem (by omega)
      rw [stTo_next hy hz]
      show ((stTo l o m).1.set j _)[i]? = _
      rw [List.getElem?_set_ne hne]
      exact ih (by omega) (by omega)
theorem start_at {l : List ShipV} {o : List Int} (h : startOk l o = true) {k i : Nat} {x : ShipV} (ho : o[k]? = some (i : Int)) (hx : l[i]? = some x) : (startS l o)[i]? = some (max (stTo l o k).2 x.arrive) := by
  obtain ⟨h1, h2⟩ := startOk_spec h
  rw [startS_yes h1 h2]
  exact stTo_stay (listV_spec h1).1 (permV_spec h2).1 ho hx _ (List.getElem?_eq_some_iff.1 ho).1 (Nat.le_refl _)
theorem start_ge {l : List ShipV} {o : List Int} (h : startOk l o = true) {k i : Nat} {x : ShipV} {s : Int} (ho : o[k]? = some (i : Int)) (hx : l[i]? = some x) (hs : (startS l o)[i]? = some s) : x.arrive ≤ s := by
  rw [start_at h ho hx] at hs
  injection hs with hs
  omega
theorem start_next {l : List ShipV} {o : List Int} (h : startOk l o = true) {k i j : Nat} {x y : ShipV} {s t : Int} (ho : o[k]? = some (i : Int)) (hx : l[i]? = some x) (hs : (startS l o)[i]? = some s)
    (ho2 : o[k + 1]? = some (j : Int)) (hy : l[j]? = some y) (ht : (startS l o)[j]? = some t) : s + x.hours ≤ t := by
  rw [start_at h ho hx] at hs
  rw [start_at h ho2 hy, stTo_next ho hx] at ht
  injection hs with hs
  injection ht with ht
  simp only at ht
  omega
theorem start_all {l : List ShipV} {o : List Int} (h : startOk l o = true) {i : Nat} {x : ShipV} {s : Int} (hx : l[i]? = some x) (hs : (startS l o)[i]? = some s) : x.arrive ≤ s := by
  obtain ⟨h1, h2⟩ := startOk_spec h
  obtain ⟨hg, hn⟩ := good_of_perm h2
  have hm := good_full hg hn (x := (i : Int)) (by omega) (by have := (List.getElem?_eq_some_iff.1 hx).1; omega)
  obtain ⟨k, hk⟩ := List.getElem?_of_mem hm
  exact start_ge h hk hx hs
theorem waitTo_nonneg {l : List ShipV} {o : List Int} (h : startOk l o = true) : ∀ k, 0 ≤ waitTo l (startS l o) k := by
  intro k
  induction k with
  | zero => simp [waitTo]
  | succ k ih =>
    unfold waitTo
    split
    · next s x h1 h2 => have := start_all h h2 h1; omega
    · exact ih
theorem waitS_nonneg {l : List ShipV} {o : List Int} (h : startOk l o = true) : 0 ≤ waitS l o := by rw [waitS_yes h]; exact waitTo_nonneg h _
theorem waitS_lt {l : List ShipV} {o : List Int} (h : startOk l o = true) : waitS l o ≤ 100000 := by
  rw [waitS_yes h]
  have h1 := (startOk_spec h).1
  have := (waitTo_bd (listV_spec h1).1 (start_props h).2 l.length).2
  have := (listV_spec h1).2
  omega
end Go.Proofs.Ytjbocijckoaekaa
