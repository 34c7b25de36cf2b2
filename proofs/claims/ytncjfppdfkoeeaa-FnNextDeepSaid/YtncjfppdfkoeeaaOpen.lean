/- An argument that came in, opened: slices of numbers and of bytes read as lists. -/
import Derived.Test.YtncjfppdfkoeeaaBase
import Derived.ProofKit
import Derived.OpenShut
import Derived.ShutString
import Derived.ChangeOld
import Derived.Deep.Slices
import Derived.Deep.Fields
import Derived.Lib.SmallJoins
namespace Go.Proofs.Ytncjfppdfkoeeaa
open Go.ChangeShapes Go.WideShapes Go.ChangeAt Go.RowKit Go.Deep
set_option linter.unusedVariables false

section
variable {H : Type} {enc : TypeId × Value → H} {P : Program} {W : World}
theorem spot_none {x : Addr} {v : Value} {w : World} (h : w.cell? (x.add 0) = some v) : x = ⟨x.block, x.off, none⟩ := by
  have := World.cell?_spot h
  obtain ⟨b, off, s⟩ := x
  simp [Addr.add] at this
  rw [this]
theorem add_none (b off k : Nat) : (⟨b, off, none⟩ : Addr).add k = ⟨b, off + k, none⟩ := by
  unfold Addr.add
  split
  · next h => rw [h]; rfl
  · rfl
theorem open_nums {k : IntKind} {t e : TypeId} {a : Option Addr} {len cap : Nat} {d : DataW H} {p : List MemPlace} (ht : P.underlying t = some (.slice e)) (he : P.underlying e = some (.int k)) (hc : P.cellsOf e = 1)
    (h : DataW.Trod enc P W 0 (fun _ => true) true t (.slice a len cap) d p) :
    ∃ l : List Int, len = l.length ∧ l.length ≤ 9223372036854775807 ∧ l.length ≤ cap ∧ ∀ (j : Nat) (x : Int), l[j]? = some x → (∃ b off, a = some ⟨b, off, none⟩ ∧ b < W.heap.size ∧ W.cell? ⟨b, off + j, none⟩ = some (.int k x)) ∧ (Lit.int k x).wf = true := by
  obtain ⟨fuel, hf⟩ := h
  rcases open_ints ht he hc hf with ⟨hcs, _⟩ | ⟨x, l, c, zs, hcs, _, hl, hm, hz, _, hcell, hwz⟩
  · simp [Value.cells] at hcs
    obtain ⟨rfl, rfl, rfl⟩ := hcs
    exact ⟨[], rfl, by simp, by simp, fun j x hx => by simp at hx⟩
  · simp [Value.cells] at hcs
    obtain ⟨rfl, rfl, rfl⟩ := hcs
    simp at hz
    unfold maxLen at hm
    have hlen : (zs.take len).length = len := by simp; omega
    refine ⟨zs.take len, hlen.symm, by omega, by omega, fun j y hy => ?_⟩
    have hj : j < len := by have := (List.getElem?_eq_some_iff.1 hy).1; omega
    have hjz : j < zs.length := by omega
    rw [List.getElem?_take, if_pos hj] at hy
    have h0 := hcell 0 (by omega)
    have hx := spot_none h0
    have hcj := hcell j hjz
    have hg : zs.getD j 0 = y := by rw [List.getD_eq_getElem?_getD, hy]; rfl
    rw [hg, hx, add_none] at hcj
    exact ⟨⟨x.block, x.off, by rw [← hx], World.block_lt_of_cell? W (⟨x.block, x.off + j, none⟩ : Addr) hcj, hcj⟩, hwz y (List.mem_of_getElem? hy)⟩
theorem open_rd {t e : TypeId} {a : Option Addr} {len cap : Nat} {d : DataW H} {p : List MemPlace} (ht : P.underlying t = some (.slice e)) (he : P.underlying e = some (.int .i64)) (hc : P.cellsOf e = 1)
    (h : DataW.Trod enc P W 0 (fun _ => true) true t (.slice a len cap) d p) : ∃ l : List Int, len = l.length ∧ l.length ≤ 9223372036854775807 ∧ Rd W a l := by
  obtain ⟨l, h1, h2, _, h3⟩ := open_nums ht he hc h
  exact ⟨l, h1, h2, fun j x hx => (h3 j x hx).1⟩
theorem open_rdu {t e : TypeId} {a : Option Addr} {len cap : Nat} {d : DataW H} {p : List MemPlace} (ht : P.underlying t = some (.slice e)) (he : P.underlying e = some (.int .u8)) (hc : P.cellsOf e = 1)
    (h : DataW.Trod enc P W 0 (fun _ => true) true t (.slice a len cap) d p) : ∃ l : List Int, len = l.length ∧ l.length ≤ 9223372036854775807 ∧ l.length ≤ cap ∧ RdU W a l := by
  obtain ⟨l, h1, h2, h4, h3⟩ := open_nums ht he hc h
  refine ⟨l, h1, h2, h4, fun j x hx => ?_⟩
  obtain ⟨⟨b, off, e, hb, hcell⟩, hw⟩ := h3 j x hx
  have := bounds_u8 hw
  exact ⟨b, off, e, hb, this.1, by omega, hcell⟩
end
end Go.Proofs.Ytncjfppdfkoeeaa
