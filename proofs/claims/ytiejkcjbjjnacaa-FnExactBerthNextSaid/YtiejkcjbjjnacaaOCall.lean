/- An argument that is a slice of laws.Call, opened to a list. -/
import Derived.Test.YtiejkcjbjjnacaaOpen
import Derived.Test.YtiejkcjbjjnacaaSCall
namespace Go.Proofs.Ytiejkcjbjjnacaa
open Go.ChangeShapes Go.WideShapes Go.ChangeAt Go.RowKit Go.Deep
set_option linter.unusedVariables false
theorem open_rdCall {H : Type} {enc : TypeId × Value → H} {W : World} {a : Option Addr} {len cap : Nat} {d : DataW H} {p : List MemPlace}
    (h : DataW.Trod enc Try.prog W 0 (fun _ => true) true 30 (.slice a len cap) d p) : ∃ l : List CallV, len = l.length ∧ l.length ≤ 9223372036854775807 ∧ RdCall W a l := by
  have hu : ∃ f0 f1 f2 f3 : Field, Try.prog.underlying 23 = some (.struct #[f0, f1, f2, f3]) ∧ f0.type = 3 ∧ f1.type = 3 ∧ f2.type = 3 ∧ f3.type = 3 := ⟨_, _, _, _, Try.underlying23, rfl, rfl, rfl, rfl⟩
  obtain ⟨f0, f1, f2, f3, hs, t0, t1, t2, t3⟩ := hu
  have hone : oneCellFields Try.prog #[f0, f1, f2, f3] = true := by
    have h1 : (Try.prog.underlying 23).map (fun d => match d with | .struct fs => oneCellFields Try.prog fs | _ => false) = some true := by kernel_rfl
    rw [hs] at h1
    simpa using h1
  obtain ⟨hl, hi⟩ := open_fields (fs := #[f0, f1, f2, f3]) Try.underlying30 hs hone (by kernel_rfl) (by simp) h
  obtain ⟨l, hll, hq⟩ := list_of_each (α := CallV) (Q := fun i x => ∃ b off, a = some ⟨b, off, none⟩ ∧ b < W.heap.size ∧ W.cell? ⟨b, off + i * 4, none⟩ = some (.int .i64 x.start) ∧ W.cell? ⟨b, off + i * 4 + 1, none⟩ = some (.int .i64 x.hours) ∧ W.cell? ⟨b, off + i * 4 + 2, none⟩ = some (.int .i64 x.at_) ∧ W.cell? ⟨b, off + i * 4 + 3, none⟩ = some (.int .i64 x.long)) len (fun i hil => by
    obtain ⟨b, off, e, hb, hf⟩ := hi i hil
    obtain ⟨v0, n0, y0, c0, r0⟩ := hf 0 f0 rfl
    rw [t0] at r0
    obtain ⟨z0, ez0, _, _⟩ := DataW.trod_int Try.underlying3 r0
    simp at ez0
    subst ez0
    obtain ⟨v1, n1, y1, c1, r1⟩ := hf 1 f1 rfl
    rw [t1] at r1
    obtain ⟨z1, ez1, _, _⟩ := DataW.trod_int Try.underlying3 r1
    simp at ez1
    subst ez1
    obtain ⟨v2, n2, y2, c2, r2⟩ := hf 2 f2 rfl
    rw [t2] at r2
    obtain ⟨z2, ez2, _, _⟩ := DataW.trod_int Try.underlying3 r2
    simp at ez2
    subst ez2
    obtain ⟨v3, n3, y3, c3, r3⟩ := hf 3 f3 rfl
    rw [t3] at r3
    obtain ⟨z3, ez3, _, _⟩ := DataW.trod_int Try.underlying3 r3
    simp at ez3
    subst ez3
    exact ⟨⟨z0, z1, z2, z3⟩, b, off, e, hb, by simpa [Nat.add_assoc] using c0, by simpa [Nat.add_assoc] using c1, by simpa [Nat.add_assoc] using c2, by simpa [Nat.add_assoc] using c3⟩)
  exact ⟨l, hll.symm, by omega, fun k x hx => hq k x hx⟩
end Go.Proofs.Ytiejkcjbjjnacaa
