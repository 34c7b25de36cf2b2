/- An argument that came in, opened: slices of numbers and of bytes read as lists. -/
import Derived.Test.YtphncbnnnickhaaBase
import Derived.ProofKit
import Derived.OpenShut
import Derived.ShutString
import Derived.ChangeOld
import Derived.Deep.Slices
import Derived.Deep.Fields
import Derived.Lib.SmallJoins
namespace Go.Proofs.Ytphncbnnnickhaa
open Go.ChangeShapes Go.WideShapes Go.ChangeAt Go.RowKit Go.Deep
set_option linter.unusedVariables false

section
variable {H : Type} {enc : TypeId × Value → H} {P : Program} {W : World}
theorem spot_none {x : Addr} {v : Value} {w : World} (h : w.cell? (x.add 0) = some v) : x = ⟨x.block, x.off, none⟩ := by
  have := World.cell?_spot h
  obtain ⟨b, off, s⟩ := x
  simp [Addr.add] at this
  rw [this]
theorem add_none (b off k : Nat) : (⟨b, off, none⟩ : Addr).add k = ⟨b, off + k, none⟩ := by
  unfold Addr.add
  split
  · next h => rw [h]; rfl
  · rfl
theorem open_nums {k : IntKind} {t e : TypeId} {a : Option Addr} {len cap : Nat} {d : DataW H} {p : List MemPlace} (ht : P.underlying t = some (.slice e)) (he : P.underlying e = some (.int k)) (hc : P.cellsOf e = 1)
    (h : DataW.Trod enc P W 0 (fun _ => true) true t (.slice a len cap) d p) :
    ∃ l : List Int, len = l.length ∧ l.length ≤ 9223372036854775807 ∧ l.length ≤ cap ∧ ∀ (j : Nat) (x : Int), l[j]? = some x → (∃ b off, a = some ⟨b, off, none⟩ ∧ b < W.heap.size ∧ W.cell? ⟨b, off + j, none⟩ = some (.int k x)) ∧ (Lit.int k x).wf = true := by
  obtain ⟨fuel, hf⟩ := h
  rcases open_ints ht he hc hf with ⟨hcs, _⟩ | ⟨x, l, c, zs, hcs, _, hl, hm, hz, _, hcell, hwz⟩
  · simp [Value.cells] at hcs
    obtain ⟨rfl, rfl, rfl⟩ := hcs
    exact ⟨[], rfl, by simp, by simp, fun j x hx => by simp at hx⟩
  · simp [Value.cells] at hcs
    obtain ⟨rfl, rfl, rfl⟩ := hcs
    simp at hz
    unfold maxLen at hm
    have hlen : (zs.take len).length = len := by simp; omega
    refine ⟨zs.take len, hlen.symm, by omega, by omega, fun j y hy => ?_⟩
    have hj : j < len := by have := (List.getElem?_eq_some_iff.1 hy).1; omega
    have hjz : j < zs.length := by omega
    rw [List.getElem?_take, if_pos hj] at hy
    have h0 := hcell 0 (by omega)
    have hx := spot_none h0
    have hcj := hcell j hjz
    have hg : zs.getD j 0 = y := by rw [List.getD_eq_getElem?_getD, hy]; rfl
    rw [hg, hx, add_none] at hcj
    exact ⟨⟨x.block, x.off, by rw [← hx], World.block_lt_of_cell? W (⟨x.block, x.off + j, none⟩ : Addr) hcj, hcj⟩, hwz y (List.mem_of_getElem? hy)⟩
theorem open_rd {t e : TypeId} {a : Option Addr} {len cap : Nat} {d : DataW H} {p : List MemPlace} (ht : P.underlying t = some (.slice e)) (he : P.underlying e = some (.int .i64)) (hc : P.cellsOf e = 1)
    (h : DataW.Trod enc P W 0 (fun _ => true) true t (.slice a len cap) d p) : ∃ l : List Int, len = l.length ∧ l.length ≤ 9223372036854775807 ∧ Rd W a l := by
  obtain ⟨l, h1, h2, _, h3⟩ := open_nums ht he hc h
  exact ⟨l, h1, h2, fun j x hx => (h3 j x hx).1⟩
theorem open_rdu {t e : TypeId} {a : Option Addr} {len cap : Nat} {d : DataW H} {p : List MemPlace} (ht : P.underlying t = some (.slice e)) (he : P.underlying e = some (.int .u8)) (hc : P.cellsOf e = 1)
    (h : DataW.Trod enc P W 0 (fun _ => true) true t (.slice a len cap) d p) : ∃ l : List Int, len = l.length ∧ l.length ≤ 9223372036854775807 ∧ l.length ≤ cap ∧ RdU W a l := by
  obtain ⟨l, h1, h2, h4, h3⟩ := open_nums ht he hc h
  refine ⟨l, h1, h2, h4, fun j x hx => ?_⟩
  obtain ⟨⟨b, off, e, hb, hcell⟩, hw⟩ := h3 j x hx
  have := bounds_u8 hw
  exact ⟨b, off, e, hb, this.1, by omega, hcell⟩
theorem list_of_each {α : Type} {Q : Nat → α → Prop} : ∀ n : Nat, (∀ i, i < n → ∃ x, Q i x) → ∃ l : List α, l.length = n ∧ ∀ (i : Nat) (x : α), l[i]? = some x → Q i x := by
  intro n
  induction n with
  | zero => intro _; exact ⟨[], rfl, fun i x h => by simp at h⟩
  | succ n ih =>
    intro h
    obtain ⟨l, hl, hq⟩ := ih (fun i hi => h i (by omega))
    obtain ⟨x, hx⟩ := h n (by omega)
    refine ⟨l ++ [x], by simp [hl], fun i y hy => ?_⟩
    by_cases hi : i < l.length
    · rw [List.getElem?_append_left hi] at hy; exact hq i y hy
    · rw [List.getElem?_append_right (by omega)] at hy
      have : i = l.length := by
        have := (List.getElem?_eq_some_iff.1 hy).1
        simp at this; omega
      subst this
      simp at hy
      subst hy
      rw [hl]; exact hx
theorem open_fields {t e : TypeId} {fs : Array Field} {a : Option Addr} {len cap : Nat} {d : DataW H} {p : List MemPlace} (ht : P.underlying t = some (.slice e)) (he : P.underlying e = some (.struct fs))
    (hone : oneCellFields P fs = true) (hC : P.cellsOf e = fs.size) (hpos : 0 < fs.size) (h : DataW.Trod enc P W 0 (fun _ => true) true t (.slice a len cap) d p) :
    len ≤ 9223372036854775807 ∧ ∀ i, i < len → ∃ b off, a = some ⟨b, off, none⟩ ∧ b < W.heap.size ∧ ∀ (j : Nat) (f : Field), fs[j]? = some f → ∃ (v : Value) (n : Nat) (y : DataW H × List MemPlace), W.cell? ⟨b, off + (i * fs.size + j), none⟩ = some v ∧ DataW.trod enc P W 0 (fun _ => true) true n f.type [v] = some y := by
  obtain ⟨fuel, hf⟩ := h
  rcases open_slice ht hf with ⟨hcs, _⟩ | ⟨x, l, c, m, n, D, Pl, hcs, hb, hl, hm, hmm, hx, hi⟩
  · simp [Value.cells] at hcs
    obtain ⟨rfl, rfl, rfl⟩ := hcs
    exact ⟨by omega, fun i hi => absurd hi (by omega)⟩
  · simp [Value.cells] at hcs
    obtain ⟨rfl, rfl, rfl⟩ := hcs
    simp at hmm
    subst hmm
    unfold maxLen at hm
    refine ⟨by omega, fun i hil => ?_⟩
    obtain ⟨cs', hc, ht'⟩ := hi i (by omega)
    rw [hC] at hc
    obtain ⟨ys, n', hn', hy, hlen, hyl, hfl⟩ := DataW.trod_struct he ht'
    obtain ⟨_, hcl, hat⟩ := World.cells?_some hc
    have h00 := hat 0 hpos
    rw [Go.Deep.add_add, List.getElem?_eq_getElem (by omega)] at h00
    have hxx : x = ⟨x.block, x.off, none⟩ := by
      obtain ⟨cs0, hc0, _⟩ := hi 0 (by omega)
      rw [hC] at hc0
      obtain ⟨_, hcl0, hat0⟩ := World.cells?_some hc0
      have h000 := hat0 0 hpos
      rw [Go.Deep.add_add, List.getElem?_eq_getElem (by omega)] at h000
      have hsp0 := World.cell?_spot h000
      obtain ⟨b, off, s⟩ := x
      simp [Addr.add] at hsp0
      rw [hsp0]
    refine ⟨x.block, x.off, by rw [← hxx], ?_, fun j f hj => ?_⟩
    · rw [hxx, addr_add] at h00
      exact World.block_lt_of_cell? W (⟨x.block, x.off + (i * fs.size + 0), none⟩ : Addr) h00
    · obtain ⟨ho, hk⟩ := hone_of hone j f hj
      have hjl : j < fs.size := (Array.getElem?_eq_some_iff.1 hj).1
      have hcell := hat j hjl
      have h1 := hfl j f hj
      rw [ho, hk] at h1
      have hone' : (cs'.drop j).take 1 = [cs'[j]'(by omega)] := by
        rw [List.drop_eq_getElem_cons (by omega)]
        rfl
      rw [hone'] at h1
      rw [Go.Deep.add_add, List.getElem?_eq_getElem (by omega)] at hcell
      rw [hxx, addr_add] at hcell
      exact ⟨cs'[j]'(by omega), n', _, hcell, h1.trans (List.getElem?_eq_getElem (by omega))⟩
end
end Go.Proofs.Ytphncbnnnickhaa
