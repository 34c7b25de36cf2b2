/- An argument that is a slice of laws.Box, opened to a list. -/
import Derived.Test.YtphncbnnnickhaaOpen
import Derived.Test.YtphncbnnnickhaaSBox
namespace Go.Proofs.Ytphncbnnnickhaa
open Go.ChangeShapes Go.WideShapes Go.ChangeAt Go.RowKit Go.Deep
set_option linter.unusedVariables false
theorem open_rdBox {H : Type} {enc : TypeId × Value → H} {W : World} {a : Option Addr} {len cap : Nat} {d : DataW H} {p : List MemPlace}
    (h : DataW.Trod enc Try.prog W 0 (fun _ => true) true 22 (.slice a len cap) d p) : ∃ l : List BoxV, len = l.length ∧ l.length ≤ 9223372036854775807 ∧ RdBox W a l := by
  have hu : ∃ f0 f1 f2 f3 f4 : Field, Try.prog.underlying 57 = some (.struct #[f0, f1, f2, f3, f4]) ∧ f0.type = 3 ∧ f1.type = 3 ∧ f2.type = 3 ∧ f3.type = 3 ∧ f4.type = 4 := ⟨_, _, _, _, _, Try.underlying57, rfl, rfl, rfl, rfl, rfl⟩
  obtain ⟨f0, f1, f2, f3, f4, hs, t0, t1, t2, t3, t4⟩ := hu
  have hone : oneCellFields Try.prog #[f0, f1, f2, f3, f4] = true := by
    have h1 : (Try.prog.underlying 57).map (fun d => match d with | .struct fs => oneCellFields Try.prog fs | _ => false) = some true := by kernel_rfl
    rw [hs] at h1
    simpa using h1
  obtain ⟨hl, hi⟩ := open_fields (fs := #[f0, f1, f2, f3, f4]) Try.underlying22 hs hone (by kernel_rfl) (by simp) h
  obtain ⟨l, hll, hq⟩ := list_of_each (α := BoxV) (Q := fun i x => ∃ b off, a = some ⟨b, off, none⟩ ∧ b < W.heap.size ∧ W.cell? ⟨b, off + i * 5, none⟩ = some (.int .i64 x.id) ∧ W.cell? ⟨b, off + i * 5 + 1, none⟩ = some (.int .i64 x.weight) ∧ W.cell? ⟨b, off + i * 5 + 2, none⟩ = some (.int .i64 x.class_) ∧ W.cell? ⟨b, off + i * 5 + 3, none⟩ = some (.int .i64 x.port) ∧ W.cell? ⟨b, off + i * 5 + 4, none⟩ = some (.bool x.cold)) len (fun i hil => by
    obtain ⟨b, off, e, hb, hf⟩ := hi i hil
    obtain ⟨v0, n0, y0, c0, r0⟩ := hf 0 f0 rfl
    rw [t0] at r0
    obtain ⟨z0, ez0, _, _⟩ := DataW.trod_int Try.underlying3 r0
    simp at ez0
    subst ez0
    obtain ⟨v1, n1, y1, c1, r1⟩ := hf 1 f1 rfl
    rw [t1] at r1
    obtain ⟨z1, ez1, _, _⟩ := DataW.trod_int Try.underlying3 r1
    simp at ez1
    subst ez1
    obtain ⟨v2, n2, y2, c2, r2⟩ := hf 2 f2 rfl
    rw [t2] at r2
    obtain ⟨z2, ez2, _, _⟩ := DataW.trod_int Try.underlying3 r2
    simp at ez2
    subst ez2
    obtain ⟨v3, n3, y3, c3, r3⟩ := hf 3 f3 rfl
    rw [t3] at r3
    obtain ⟨z3, ez3, _, _⟩ := DataW.trod_int Try.underlying3 r3
    simp at ez3
    subst ez3
    obtain ⟨v4, n4, y4, c4, r4⟩ := hf 4 f4 rfl
    rw [t4] at r4
    obtain ⟨z4, ez4, _⟩ := DataW.trod_bool Try.underlying4 r4
    simp at ez4
    subst ez4
    exact ⟨⟨z0, z1, z2, z3, z4⟩, b, off, e, hb, by simpa [Nat.add_assoc] using c0, by simpa [Nat.add_assoc] using c1, by simpa [Nat.add_assoc] using c2, by simpa [Nat.add_assoc] using c3, by simpa [Nat.add_assoc] using c4⟩)
  exact ⟨l, hll.symm, by omega, fun k x hx => hq k x hx⟩
end Go.Proofs.Ytphncbnnnickhaa
