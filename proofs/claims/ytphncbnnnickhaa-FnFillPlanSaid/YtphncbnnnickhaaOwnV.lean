/- Slices of values of whatever kinds: read, and in a block of the call's own. -/
import Derived.Test.YtphncbnnnickhaaBase
namespace Go.Proofs.Ytphncbnnnickhaa
open Go.RowKit
set_option linter.unusedVariables false

/-- A slice at A reads as these cells. -/
def RdV (w : World) (A : Option Addr) (l : List Value) : Prop :=
  ∀ (k : Nat) (x : Value), l[k]? = some x → ∃ b off, A = some ⟨b, off, none⟩ ∧ b < w.heap.size ∧ w.cell? ⟨b, off + k, none⟩ = some x
def OwnV (t : TypeId) (w : World) (lo hi : Nat) (A : Option Addr) (l : List Value) : Prop :=
  l = [] ∨ ∃ (g : Nat) (cs : Array Value), A = some ⟨g, 0, none⟩ ∧ lo ≤ g ∧ g < hi ∧ Blk w g t cs ∧ ∀ (k : Nat) (x : Value), l[k]? = some x → cs[k]? = some x
section
variable {t : TypeId} {w w' : World} {lo hi : Nat} {A : Option Addr} {l : List Value}
theorem OwnV.rd (h : OwnV t w lo hi A l) : RdV w A l := by
  rcases h with rfl | ⟨g, cs, rfl, h1, h2, hb, hc⟩
  · intro k x h; simp at h
  · intro k x hx
    refine ⟨g, 0, rfl, hb.lt, ?_⟩
    rw [hb.cell, Nat.zero_add]
    exact hc k x hx
theorem OwnV.chg {lo' hi' : Nat} (h : OwnV t w lo hi A l) (hb : Chg lo' hi' w w') (hd : hi ≤ lo' ∨ hi' ≤ lo) : OwnV t w' lo hi A l := by
  rcases h with rfl | ⟨g, cs, rfl, h1, h2, hk, hc⟩
  · exact .inl rfl
  · exact .inr ⟨g, cs, rfl, h1, h2, hk.chg hb (by omega), hc⟩
theorem OwnV.below {B : Nat} (h : OwnV t w lo hi A l) (hb : Below B w w') (hd : hi ≤ B) : OwnV t w' lo hi A l := by
  rcases h with rfl | ⟨g, cs, rfl, h1, h2, hk, hc⟩
  · exact .inl rfl
  · exact .inr ⟨g, cs, rfl, h1, h2, hk.below hb (by omega), hc⟩
theorem OwnV.wide {lo' hi' : Nat} (h : OwnV t w lo hi A l) (h1 : lo' ≤ lo) (h2 : hi ≤ hi') : OwnV t w lo' hi' A l := by
  rcases h with rfl | ⟨g, cs, rfl, k1, k2, hk, hc⟩
  · exact .inl rfl
  · exact .inr ⟨g, cs, rfl, by omega, by omega, hk, hc⟩
theorem OwnV.of_blk {g : Nat} {cs : Array Value} (hb : Blk w g t cs) (h1 : lo ≤ g) (h2 : g < hi) (hc : ∀ (k : Nat) (x : Value), l[k]? = some x → cs[k]? = some x) : OwnV t w lo hi (some ⟨g, 0, none⟩) l :=
  .inr ⟨g, cs, rfl, h1, h2, hb, hc⟩
theorem OwnV.nil_ : OwnV t w lo hi A [] := .inl rfl
end
end Go.Proofs.Ytphncbnnnickhaa
