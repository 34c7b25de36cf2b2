/-
  No cell of these rows narrows 'for every input' (looked for: loops, veiled, ifaces, maps, wideKeys, modest, calm, conditions, laid).
  DERIVED. THE GIVEN ROWS OF THIS SEAT. 6 by the template 'for every input the law returns true; each argument reads behind the call as it read before'; 0 by the template 'total and deterministic' (their statements: YtkkpegmokejfkaaTotals.lean).
  GIVEN WITH THE SEED: the statements are not yours to turn. If you find one false, say at which input.
  Laid BY PROGRAM, IN A SANDBOX (cutbox-rows.mjs): the forced cells as the released guide's own fill.sh prints them over the translation 69496eb15a5b8812… (all of the seat's roots in one cut). By AI agents, Wed Nov 11 2026. No macro, syntax, notation, axiom, sorry.
-/
import Derived.Test.YtkkpegmokejfkaaChecked
import GoSem.Claim
import GoSem.ClaimJoined
import GoSem.ClaimMapViews
import Derived.JoinedTies
import Derived.KernelRfl
namespace Go.Proofs.Ytkkpegmokejfkaa
/- THE CELL 'sum', in the pinned program and in every row, IS THE sha256 OF THE DUMP (.gsa) THAT YtkkpegmokejfkaaProg.lean LOADS. Nothing in Lean hashes anything: it is a label: what it is worth is what the hold of that sum in a sandbox is worth. -/
noncomputable def Try.pinned : Pinned := { name := "ytkkpegmokejfkaa", sum := "69496eb15a5b8812e480b30fbbe36e3cfdd4e25ba6ec68348367a85142ae899d", checked := Try.checked }
namespace Rows
def none {H : Type} : Left H := { results := [], args := [] }

/-- 'laws.FnExactTasksValid': WHATEVER THE INPUT: true; the input reads as it did. -/
def fnExactTasksValidSpec : ChangeSpec := { name := "fnExactTasksValid", fn := fun _ => fun
  | [d] => { results := [.lit (.bool true)], args := [d] }
  | _ => none }
def fnExactTasksValidRow : OpenClaim := { program := "ytkkpegmokejfkaa", sum := "69496eb15a5b8812e480b30fbbe36e3cfdd4e25ba6ec68348367a85142ae899d", func := "loop.example/containerport/laws.FnExactTasksValid", spec := "fnExactTasksValid", apart := false }
def FnExactTasksValidSaid : Prop := fnExactTasksValidRow.holds Try.pinned (OpenSpec.ofChange fnExactTasksValidSpec)

/-- ITS FALSE NEIGHBOUR: 'it returns false'. Refute it at one input. -/
def fnExactTasksValidWrong : ChangeSpec := { name := "fnExactTasksValid", fn := fun _ => fun
  | [d] => { results := [.lit (.bool false)], args := [d] }
  | _ => none }
def FnExactTasksValidWrongFalsely : Prop := fnExactTasksValidRow.holds Try.pinned (OpenSpec.ofChange fnExactTasksValidWrong)

/-- 'laws.FnExactCycleEnd': WHATEVER THE INPUT: true; the input reads as it did. -/
def fnExactCycleEndSpec : ChangeSpec := { name := "fnExactCycleEnd", fn := fun _ => fun
  | [d1, d2] => { results := [.lit (.bool true)], args := [d1, d2] }
  | _ => none }
def fnExactCycleEndRow : OpenClaim := { program := "ytkkpegmokejfkaa", sum := "69496eb15a5b8812e480b30fbbe36e3cfdd4e25ba6ec68348367a85142ae899d", func := "loop.example/containerport/laws.FnExactCycleEnd", spec := "fnExactCycleEnd", apart := false }
def FnExactCycleEndSaid : Prop := fnExactCycleEndRow.holds Try.pinned (OpenSpec.ofChange fnExactCycleEndSpec)

/-- ITS FALSE NEIGHBOUR: 'it returns false'. Refute it at one input. -/
def fnExactCycleEndWrong : ChangeSpec := { name := "fnExactCycleEnd", fn := fun _ => fun
  | [d1, d2] => { results := [.lit (.bool false)], args := [d1, d2] }
  | _ => none }
def FnExactCycleEndWrongFalsely : Prop := fnExactCycleEndRow.holds Try.pinned (OpenSpec.ofChange fnExactCycleEndWrong)

/-- 'laws.FnExactCycleOrder': WHATEVER THE INPUT: true; the input reads as it did. -/
def fnExactCycleOrderSpec : ChangeSpec := { name := "fnExactCycleOrder", fn := fun _ => fun
  | [d] => { results := [.lit (.bool true)], args := [d] }
  | _ => none }
def fnExactCycleOrderRow : OpenClaim := { program := "ytkkpegmokejfkaa", sum := "69496eb15a5b8812e480b30fbbe36e3cfdd4e25ba6ec68348367a85142ae899d", func := "loop.example/containerport/laws.FnExactCycleOrder", spec := "fnExactCycleOrder", unfollowed := true, recurses := true, apart := false }
def FnExactCycleOrderSaid : Prop := fnExactCycleOrderRow.holds Try.pinned (OpenSpec.ofChange fnExactCycleOrderSpec)

/-- ITS FALSE NEIGHBOUR: 'it returns false'. Refute it at one input. -/
def fnExactCycleOrderWrong : ChangeSpec := { name := "fnExactCycleOrder", fn := fun _ => fun
  | [d] => { results := [.lit (.bool false)], args := [d] }
  | _ => none }
def FnExactCycleOrderWrongFalsely : Prop := fnExactCycleOrderRow.holds Try.pinned (OpenSpec.ofChange fnExactCycleOrderWrong)

/-- 'laws.FnExactCycleLeast': WHATEVER THE INPUT: true; the input reads as it did. -/
def fnExactCycleLeastSpec : ChangeSpec := { name := "fnExactCycleLeast", fn := fun _ => fun
  | [d] => { results := [.lit (.bool true)], args := [d] }
  | _ => none }
def fnExactCycleLeastRow : OpenClaim := { program := "ytkkpegmokejfkaa", sum := "69496eb15a5b8812e480b30fbbe36e3cfdd4e25ba6ec68348367a85142ae899d", func := "loop.example/containerport/laws.FnExactCycleLeast", spec := "fnExactCycleLeast", unfollowed := true, recurses := true, apart := false }
def FnExactCycleLeastSaid : Prop := fnExactCycleLeastRow.holds Try.pinned (OpenSpec.ofChange fnExactCycleLeastSpec)

/-- ITS FALSE NEIGHBOUR: 'it returns false'. Refute it at one input. -/
def fnExactCycleLeastWrong : ChangeSpec := { name := "fnExactCycleLeast", fn := fun _ => fun
  | [d] => { results := [.lit (.bool false)], args := [d] }
  | _ => none }
def FnExactCycleLeastWrongFalsely : Prop := fnExactCycleLeastRow.holds Try.pinned (OpenSpec.ofChange fnExactCycleLeastWrong)

/-- 'laws.FnTasksValid': WHATEVER THE INPUT: true; the input reads as it did. -/
def fnTasksValidSpec : ChangeSpec := { name := "fnTasksValid", fn := fun _ => fun
  | [d] => { results := [.lit (.bool true)], args := [d] }
  | _ => none }
def fnTasksValidRow : OpenClaim := { program := "ytkkpegmokejfkaa", sum := "69496eb15a5b8812e480b30fbbe36e3cfdd4e25ba6ec68348367a85142ae899d", func := "loop.example/containerport/laws.FnTasksValid", spec := "fnTasksValid", inPlace := ["internal/bytealg.IndexByteString"], apart := false }
def FnTasksValidSaid : Prop := fnTasksValidRow.holds Try.pinned (OpenSpec.ofChange fnTasksValidSpec)

/-- ITS FALSE NEIGHBOUR: 'it returns false'. Refute it at one input. -/
def fnTasksValidWrong : ChangeSpec := { name := "fnTasksValid", fn := fun _ => fun
  | [d] => { results := [.lit (.bool false)], args := [d] }
  | _ => none }
def FnTasksValidWrongFalsely : Prop := fnTasksValidRow.holds Try.pinned (OpenSpec.ofChange fnTasksValidWrong)

/-- 'laws.FnCycleOrder': WHATEVER THE INPUT: true; the input reads as it did. -/
def fnCycleOrderSpec : ChangeSpec := { name := "fnCycleOrder", fn := fun _ => fun
  | [d] => { results := [.lit (.bool true)], args := [d] }
  | _ => none }
def fnCycleOrderRow : OpenClaim := { program := "ytkkpegmokejfkaa", sum := "69496eb15a5b8812e480b30fbbe36e3cfdd4e25ba6ec68348367a85142ae899d", func := "loop.example/containerport/laws.FnCycleOrder", spec := "fnCycleOrder", inPlace := ["internal/bytealg.IndexByteString"], unfollowed := true, recurses := true, apart := false }
def FnCycleOrderSaid : Prop := fnCycleOrderRow.holds Try.pinned (OpenSpec.ofChange fnCycleOrderSpec)

/-- ITS FALSE NEIGHBOUR: 'it returns false'. Refute it at one input. -/
def fnCycleOrderWrong : ChangeSpec := { name := "fnCycleOrder", fn := fun _ => fun
  | [d] => { results := [.lit (.bool false)], args := [d] }
  | _ => none }
def FnCycleOrderWrongFalsely : Prop := fnCycleOrderRow.holds Try.pinned (OpenSpec.ofChange fnCycleOrderWrong)

/- THE SECOND FORM. 'bulk': how many values and letters a reading holds, each counted each time it is reached (what is shared counts as often as it is met; a slice's spare places count too). A statement '..UptoSaid' is the law's where the arguments, and the package variables that the reading takes, are together of bulk at most 1048576: NARROWER than '..Said'. Prove '..Said' where nothing that the law and all that it calls make is longer than what came in: it says more and counts as full. Else prove '..UptoSaid'. A law counts once. -/
mutual
def uptoBulk {H : Type} : DataW H → Nat
  | .lit (.string bytes) => bytes.length + 1
  | .lit _ => 1
  | .nil => 1
  | .ptr d => uptoBulk d + 1
  | .slice elems spare => uptoBulkAll elems + uptoBulkAll spare + 1
  | .agg parts => uptoBulkAll parts + 1
  | .iface _ d => uptoBulk d + 1
  | .map entries => uptoBulkEntries entries + 1
  | .held _ => 1
def uptoBulkAll {H : Type} : List (DataW H) → Nat
  | [] => 0
  | d :: r => uptoBulk d + uptoBulkAll r
def uptoBulkEntries {H : Type} : List (Lit × DataW H) → Nat
  | [] => 0
  | x :: r => uptoBulkEntry x + uptoBulkEntries r
def uptoBulkEntry {H : Type} : Lit × DataW H → Nat
  | (.string bytes, d) => bytes.length + uptoBulk d + 1
  | (_, d) => uptoBulk d + 1
 end
def uptoSmall : (H : Type) → List (DataW H) → Bool := fun _ ds => decide (uptoBulkAll ds ≤ 1048576)
def OpenSpec.upto (s : _root_.Go.ChangeSpec) : _root_.Go.OpenSpec := { _root_.Go.OpenSpec.ofChange s with cond := some uptoSmall }

/-- 'laws.FnExactTasksValid', WHERE WHAT IT READS IS OF BULK AT MOST 1048576: true; the input reads as it did. -/
def fnExactTasksValidUptoRow : OpenClaim := { program := "ytkkpegmokejfkaa", sum := "69496eb15a5b8812e480b30fbbe36e3cfdd4e25ba6ec68348367a85142ae899d", func := "loop.example/containerport/laws.FnExactTasksValid", spec := "fnExactTasksValid", apart := false, narrowed := true }
def FnExactTasksValidUptoSaid : Prop := fnExactTasksValidUptoRow.holds Try.pinned (OpenSpec.upto fnExactTasksValidSpec)

/-- 'laws.FnExactCycleEnd', WHERE WHAT IT READS IS OF BULK AT MOST 1048576: true; the input reads as it did. -/
def fnExactCycleEndUptoRow : OpenClaim := { program := "ytkkpegmokejfkaa", sum := "69496eb15a5b8812e480b30fbbe36e3cfdd4e25ba6ec68348367a85142ae899d", func := "loop.example/containerport/laws.FnExactCycleEnd", spec := "fnExactCycleEnd", apart := false, narrowed := true }
def FnExactCycleEndUptoSaid : Prop := fnExactCycleEndUptoRow.holds Try.pinned (OpenSpec.upto fnExactCycleEndSpec)

/-- 'laws.FnExactCycleOrder', WHERE WHAT IT READS IS OF BULK AT MOST 1048576: true; the input reads as it did. -/
def fnExactCycleOrderUptoRow : OpenClaim := { program := "ytkkpegmokejfkaa", sum := "69496eb15a5b8812e480b30fbbe36e3cfdd4e25ba6ec68348367a85142ae899d", func := "loop.example/containerport/laws.FnExactCycleOrder", spec := "fnExactCycleOrder", unfollowed := true, recurses := true, apart := false, narrowed := true }
def FnExactCycleOrderUptoSaid : Prop := fnExactCycleOrderUptoRow.holds Try.pinned (OpenSpec.upto fnExactCycleOrderSpec)

/-- 'laws.FnExactCycleLeast', WHERE WHAT IT READS IS OF BULK AT MOST 1048576: true; the input reads as it did. -/
def fnExactCycleLeastUptoRow : OpenClaim := { program := "ytkkpegmokejfkaa", sum := "69496eb15a5b8812e480b30fbbe36e3cfdd4e25ba6ec68348367a85142ae899d", func := "loop.example/containerport/laws.FnExactCycleLeast", spec := "fnExactCycleLeast", unfollowed := true, recurses := true, apart := false, narrowed := true }
def FnExactCycleLeastUptoSaid : Prop := fnExactCycleLeastUptoRow.holds Try.pinned (OpenSpec.upto fnExactCycleLeastSpec)

/-- 'laws.FnTasksValid', WHERE WHAT IT READS IS OF BULK AT MOST 1048576: true; the input reads as it did. -/
def fnTasksValidUptoRow : OpenClaim := { program := "ytkkpegmokejfkaa", sum := "69496eb15a5b8812e480b30fbbe36e3cfdd4e25ba6ec68348367a85142ae899d", func := "loop.example/containerport/laws.FnTasksValid", spec := "fnTasksValid", inPlace := ["internal/bytealg.IndexByteString"], apart := false, narrowed := true }
def FnTasksValidUptoSaid : Prop := fnTasksValidUptoRow.holds Try.pinned (OpenSpec.upto fnTasksValidSpec)

/-- 'laws.FnCycleOrder', WHERE WHAT IT READS IS OF BULK AT MOST 1048576: true; the input reads as it did. -/
def fnCycleOrderUptoRow : OpenClaim := { program := "ytkkpegmokejfkaa", sum := "69496eb15a5b8812e480b30fbbe36e3cfdd4e25ba6ec68348367a85142ae899d", func := "loop.example/containerport/laws.FnCycleOrder", spec := "fnCycleOrder", inPlace := ["internal/bytealg.IndexByteString"], unfollowed := true, recurses := true, apart := false, narrowed := true }
def FnCycleOrderUptoSaid : Prop := fnCycleOrderUptoRow.holds Try.pinned (OpenSpec.upto fnCycleOrderSpec)

end Rows
end Go.Proofs.Ytkkpegmokejfkaa
