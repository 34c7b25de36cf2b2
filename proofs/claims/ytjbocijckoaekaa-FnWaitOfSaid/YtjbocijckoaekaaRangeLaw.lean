/- A range over a function whose iterator keeps state of its own in cells: the two laws, at the wide fence. -/
import Derived.RangeFuncNested
import Derived.RangeFuncBound
import Derived.RangeFuncCalls
import Derived.RangeFuncLeaves
import Derived.Shelf.Abstract
import Derived.WalkKit
import Derived.Test.YtjbocijckoaekaaBase
namespace Go.Proofs.Ytjbocijckoaekaa
open Go.RowKit Go.Shelf
set_option linter.unusedVariables false
set_option linter.unusedSimpArgs false

theorem putObj_below {W : World} {l B : Nat} {o : Obj} (h : B ≤ l) : Below B W (W.putObj l o) :=
  ⟨rfl, rfl, rfl, by simp [World.putObj], fun k hk => World.putObj_heap_other (by omega)⟩
theorem Blk.put {W : World} {b l : Nat} {t : TypeId} {cs : Array Value} {o : Obj} (h : Blk W b t cs) (hne : b ≠ l) : Blk (W.putObj l o) b t cs := (World.putObj_heap_other hne).trans h

/-- The statement, entered: the record r lies behind the block for deferred calls; the iterator's contract hands the record back as it was. -/
theorem range_law {n : Nat} {P : Program} {g : Operand} {p : Tmp} {assign body : Code} {Q : Exit → Act → World → Prop} {a : Act} {w : World} {gf : Nat} {lb : Array Value}
    (hg : a.eval g = .func (.func gf) #[] lb) (eg : ∀ args w, (callFunc gf args).run P w = .ok (.enter gf args) w)
    (h : ∀ (r : Loop) (W1 : World), r.state = .ready → r.pending = none → r.tmps = a.tmps → r.params = #[p] → r.assign = assign → r.body = body → Below w.heap.size w W1 → W1.heap.size = w.heap.size + 2 →
      W1.heap[w.heap.size + 1]? = some (.loop r) → W1.heap[w.heap.size]? = some (.deferred (some [])) →
      CallsIn Fence.wide (n - 1) P gf (#[.func (.yield (w.heap.size + 1)) #[] #[]] ++ lb) W1 fun e W2 => (∃ v, e = .returned v) ∧ W2.heap[w.heap.size + 1]? = some (.loop r) ∧
        Q .normal { a with defers := { target := .collected w.heap.size, args := #[] } :: a.defers } (W2.putObj (w.heap.size + 1) (.loop { r with state := .exhausted }))) :
    (Code.rangeFunc g #[p] assign body).wpIn Fence.wide n P Q a w := by
  refine wpIn_rangeFunc ?_
  intro fn hfn
  obtain ⟨rec, hrec⟩ : ∃ rec : Loop, rec = { state := .ready, pending := none, fn, tmps := a.tmps, params := #[p], assign, body, defers := w.heap.size } := ⟨_, rfl⟩
  obtain ⟨W1, hW1⟩ : ∃ W1, (w.alloc (.deferred (some []))).alloc (.loop rec) = W1 := ⟨_, rfl⟩
  have hL1 : W1.heap[w.heap.size + 1]? = some (.loop rec) := by
    rw [← hW1]; have := World.alloc_heap_new (w.alloc (.deferred (some []))) (.loop rec); rwa [World.size_alloc] at this
  have hK1 : W1.heap[w.heap.size]? = some (.deferred (some [])) := by
    rw [← hW1]; exact (Below.heap_alloc _ _ _ (by simp)).trans (World.alloc_heap_new w _)
  have hb1 : Below w.heap.size w W1 := by
    rw [← hW1]; exact ((Below.refl _ w).alloc (Nat.le_refl _) _).alloc (by simp) _
  have hs1 : W1.heap.size = w.heap.size + 2 := by rw [← hW1]; simp
  refine ⟨w.heap.size + 1, [{ target := .collected w.heap.size, args := #[] }], W1, { target := .fn (.func gf) lb, args := #[.func (.yield (w.heap.size + 1)) #[] #[]] }, W1, gf,
    #[.func (.yield (w.heap.size + 1)) #[] #[]] ++ lb, W1, ?_, ?_, ?_, ?_, (fun h => by cases h), ?_⟩
  · rw [← hW1, hrec]; exact run_enterLoop_outer _ _ _ _ _
  · simp only [resolve, hg]
    simp [go_sem]
  · intro f' hf'; trivial
  · simp [invoke, go_sem, eg]
  · refine (h rec W1 (by rw [hrec]) (by rw [hrec]) (by rw [hrec]) (by rw [hrec]) (by rw [hrec]) (by rw [hrec]) hb1 hs1 hL1 hK1).mono ?_
    rintro e W2 ⟨⟨v, rfl⟩, hl2, hQ⟩
    exact ⟨none, _, by have := run_endLoop (P := P) hl2 (by rw [hrec]; simp); rw [this, hrec], hQ⟩

/-- What a round's body must do, the record being busy. -/
def RoundBody (l m : Nat) (P : Program) (r : Loop) (W : World) (R : Ending → World → Prop) (a₁ : Act) (w₁ : World) : Prop :=
  w₁ = W ∧ r.body.wpIn (Fence.wide.inRound l) m P (fun e _ W3 => e = .normal ∧ W3.heap[l]? = some (.loop { r with state := .busy }) ∧ R (.returned (.bool true)) (W3.putObj l (.loop r))) a₁ (W.putObj l (.loop { r with state := .busy }))
/-- A round that goes on. -/
theorem yield_law {m : Nat} {P : Program} {l : Nat} {r : Loop} {p : Tmp} {x : Value} {W : World} {R : Ending → World → Prop} (hl : W.heap[l]? = some (.loop r)) (hr : r.state = .ready) (hpe : r.pending = none) (hp : r.params = #[p])
    (h : r.assign.wpIn (Fence.wide.inRound l) m P (Exit.then (RoundBody l m P r W R) (fun _ _ _ => False))
      { tmps := r.tmps.setIfInBounds p x, defers := [] } W) : YieldAt Fence.wide m P l #[x] W R := by
  have hy := run_yield (P := P) (args := #[x]) hl (by rw [hp]; rfl)
  rw [hp] at hy
  have ez : ((#[p].zip #[x]).foldl (fun tmps (t, a) => tmps.setIfInBounds t a) r.tmps : Array Value) = r.tmps.setIfInBounds p x := by simp
  rw [ez] at hy
  refine ⟨_, _, _, _, hy, roundIn_of_wpIn trivial (wpIn_mono h ?_)⟩
  rintro e a₁ W1 hq
  cases e with
  | normal =>
    obtain ⟨rfl, hb⟩ := hq
    refine ⟨_, run_beginRound hl hr, wpIn_mono hb ?_⟩
    rintro e a₃ W3 ⟨rfl, hl3, hR⟩
    refine ⟨_, _, run_endRound none hl3, ?_⟩
    have e1 : ({ { r with state := .busy } with state := if (none : Option Code).isNone then .ready else .done, pending := none } : Loop) = r := by
      cases r; simp at hr hpe ⊢; exact ⟨hr.symm, hpe.symm⟩
    rw [e1]
    exact hR
  | _ => exact hq.elim
theorem round_intro {l m : Nat} {P : Program} {r : Loop} {b : Code} {W : World} {R : Ending → World → Prop} {a : Act} (hb : r.body = b) (hlt : l < W.heap.size)
    (h : ∀ (Wb : World) (K : World → Prop), (∀ k, k ≠ l → Wb.heap[k]? = W.heap[k]?) → Chg l (l + 1) W Wb → Wb.heap.size = W.heap.size →
      (∀ W3, W3.heap[l]? = Wb.heap[l]? → R (.returned (.bool true)) (W3.putObj l (.loop r)) → K W3) → b.wpIn (Fence.wide.inRound l) m P (fun e _ W3 => e = .normal ∧ K W3) a Wb) : RoundBody l m P r W R a W := by
  refine ⟨rfl, ?_⟩
  have h1 := h (W.putObj l (.loop { r with state := .busy })) (fun W3 => W3.heap[l]? = some (.loop { r with state := .busy }) ∧ R (.returned (.bool true)) (W3.putObj l (.loop r)))
    (fun k hk => World.putObj_heap_other hk) ⟨rfl, rfl, rfl, by simp [World.putObj], fun k hk hr => World.putObj_heap_other (by omega)⟩ (by simp [World.putObj])
    (fun W3 h3 hR => ⟨h3.trans (World.putObj_heap_same hlt), hR⟩)
  rw [← hb] at h1
  exact h1
end Go.Proofs.Ytjbocijckoaekaa
