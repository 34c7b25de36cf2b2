/- An argument that is a slice of laws.Ship, opened to a list. -/
import Derived.Test.YtjbocijckoaekaaOpen
import Derived.Test.YtjbocijckoaekaaSShip
namespace Go.Proofs.Ytjbocijckoaekaa
open Go.ChangeShapes Go.WideShapes Go.ChangeAt Go.RowKit Go.Deep
set_option linter.unusedVariables false
theorem open_rdShip {H : Type} {enc : TypeId × Value → H} {W : World} {a : Option Addr} {len cap : Nat} {d : DataW H} {p : List MemPlace}
    (h : DataW.Trod enc Try.prog W 0 (fun _ => true) true 22 (.slice a len cap) d p) : ∃ l : List ShipV, len = l.length ∧ l.length ≤ 9223372036854775807 ∧ RdShip W a l := by
  have hu : ∃ f0 f1 : Field, Try.prog.underlying 48 = some (.struct #[f0, f1]) ∧ f0.type = 3 ∧ f1.type = 3 := ⟨_, _, Try.underlying48, rfl, rfl⟩
  obtain ⟨f0, f1, hs, t0, t1⟩ := hu
  have hone : oneCellFields Try.prog #[f0, f1] = true := by
    have h1 : (Try.prog.underlying 48).map (fun d => match d with | .struct fs => oneCellFields Try.prog fs | _ => false) = some true := by kernel_rfl
    rw [hs] at h1
    simpa using h1
  obtain ⟨hl, hi⟩ := open_fields (fs := #[f0, f1]) Try.underlying22 hs hone (by kernel_rfl) (by simp) h
  obtain ⟨l, hll, hq⟩ := list_of_each (α := ShipV) (Q := fun i x => ∃ b off, a = some ⟨b, off, none⟩ ∧ b < W.heap.size ∧ W.cell? ⟨b, off + i * 2, none⟩ = some (.int .i64 x.arrive) ∧ W.cell? ⟨b, off + i * 2 + 1, none⟩ = some (.int .i64 x.hours)) len (fun i hil => by
    obtain ⟨b, off, e, hb, hf⟩ := hi i hil
    obtain ⟨v0, n0, y0, c0, r0⟩ := hf 0 f0 rfl
    rw [t0] at r0
    obtain ⟨z0, ez0, _, _⟩ := DataW.trod_int Try.underlying3 r0
    simp at ez0
    subst ez0
    obtain ⟨v1, n1, y1, c1, r1⟩ := hf 1 f1 rfl
    rw [t1] at r1
    obtain ⟨z1, ez1, _, _⟩ := DataW.trod_int Try.underlying3 r1
    simp at ez1
    subst ez1
    exact ⟨⟨z0, z1⟩, b, off, e, hb, by simpa [Nat.add_assoc] using c0, by simpa [Nat.add_assoc] using c1⟩)
  exact ⟨l, hll.symm, by omega, fun k x hx => hq k x hx⟩
end Go.Proofs.Ytjbocijckoaekaa
