/-
  No cell of these rows narrows 'for every input' (looked for: loops, veiled, ifaces, maps, wideKeys, modest, calm, conditions, laid).
  DERIVED. THE GIVEN ROWS OF THIS SEAT. 10 by the template 'for every input the law returns true; each argument reads behind the call as it read before'; 0 by the template 'total and deterministic' (their statements: YtiejkcjbjjnacaaTotals.lean).
  GIVEN WITH THE SEED: the statements are not yours to turn. If you find one false, say at which input.
  Laid BY PROGRAM, IN A SANDBOX (cutbox-rows.mjs): the forced cells as the released guide's own fill.sh prints them over the translation e82f9a8a381ee0c8… (all of the seat's roots in one cut). By AI agents, Wed Nov 11 2026. No macro, syntax, notation, axiom, sorry.
-/
import Derived.Test.YtiejkcjbjjnacaaChecked
import GoSem.Claim
import GoSem.ClaimJoined
import GoSem.ClaimMapViews
import Derived.JoinedTies
import Derived.KernelRfl
namespace Go.Proofs.Ytiejkcjbjjnacaa
/- THE CELL 'sum', in the pinned program and in every row, IS THE sha256 OF THE DUMP (.gsa) THAT YtiejkcjbjjnacaaProg.lean LOADS. Nothing in Lean hashes anything: it is a label: what it is worth is what the hold of that sum in a sandbox is worth. -/
noncomputable def Try.pinned : Pinned := { name := "ytiejkcjbjjnacaa", sum := "e82f9a8a381ee0c89261db6bce6e460881b6cf4de3860002f04c4a6dae122227", checked := Try.checked }
namespace Rows
def none {H : Type} : Left H := { results := [], args := [] }

/-- 'laws.FnExactCallValid': WHATEVER THE INPUT: true; the input reads as it did. -/
def fnExactCallValidSpec : ChangeSpec := { name := "fnExactCallValid", fn := fun _ => fun
  | [d] => { results := [.lit (.bool true)], args := [d] }
  | _ => none }
def fnExactCallValidRow : OpenClaim := { program := "ytiejkcjbjjnacaa", sum := "e82f9a8a381ee0c89261db6bce6e460881b6cf4de3860002f04c4a6dae122227", func := "loop.example/containerport/laws.FnExactCallValid", spec := "fnExactCallValid", apart := false }
def FnExactCallValidSaid : Prop := fnExactCallValidRow.holds Try.pinned (OpenSpec.ofChange fnExactCallValidSpec)

/-- ITS FALSE NEIGHBOUR: 'it returns false'. Refute it at one input. -/
def fnExactCallValidWrong : ChangeSpec := { name := "fnExactCallValid", fn := fun _ => fun
  | [d] => { results := [.lit (.bool false)], args := [d] }
  | _ => none }
def FnExactCallValidWrongFalsely : Prop := fnExactCallValidRow.holds Try.pinned (OpenSpec.ofChange fnExactCallValidWrong)

/-- 'laws.FnExactClash': WHATEVER THE INPUT: true; the input reads as it did. -/
def fnExactClashSpec : ChangeSpec := { name := "fnExactClash", fn := fun _ => fun
  | [d1, d2] => { results := [.lit (.bool true)], args := [d1, d2] }
  | _ => none }
def fnExactClashRow : OpenClaim := { program := "ytiejkcjbjjnacaa", sum := "e82f9a8a381ee0c89261db6bce6e460881b6cf4de3860002f04c4a6dae122227", func := "loop.example/containerport/laws.FnExactClash", spec := "fnExactClash", apart := false }
def FnExactClashSaid : Prop := fnExactClashRow.holds Try.pinned (OpenSpec.ofChange fnExactClashSpec)

/-- ITS FALSE NEIGHBOUR: 'it returns false'. Refute it at one input. -/
def fnExactClashWrong : ChangeSpec := { name := "fnExactClash", fn := fun _ => fun
  | [d1, d2] => { results := [.lit (.bool false)], args := [d1, d2] }
  | _ => none }
def FnExactClashWrongFalsely : Prop := fnExactClashRow.holds Try.pinned (OpenSpec.ofChange fnExactClashWrong)

/-- 'laws.FnExactCallsValid': WHATEVER THE INPUT: true; the input reads as it did. -/
def fnExactCallsValidSpec : ChangeSpec := { name := "fnExactCallsValid", fn := fun _ => fun
  | [d] => { results := [.lit (.bool true)], args := [d] }
  | _ => none }
def fnExactCallsValidRow : OpenClaim := { program := "ytiejkcjbjjnacaa", sum := "e82f9a8a381ee0c89261db6bce6e460881b6cf4de3860002f04c4a6dae122227", func := "loop.example/containerport/laws.FnExactCallsValid", spec := "fnExactCallsValid", unfollowed := true, recurses := true, apart := false }
def FnExactCallsValidSaid : Prop := fnExactCallsValidRow.holds Try.pinned (OpenSpec.ofChange fnExactCallsValidSpec)

/-- ITS FALSE NEIGHBOUR: 'it returns false'. Refute it at one input. -/
def fnExactCallsValidWrong : ChangeSpec := { name := "fnExactCallsValid", fn := fun _ => fun
  | [d] => { results := [.lit (.bool false)], args := [d] }
  | _ => none }
def FnExactCallsValidWrongFalsely : Prop := fnExactCallsValidRow.holds Try.pinned (OpenSpec.ofChange fnExactCallsValidWrong)

/-- 'laws.FnExactBerthNext': WHATEVER THE INPUT: true; the input reads as it did. -/
def fnExactBerthNextSpec : ChangeSpec := { name := "fnExactBerthNext", fn := fun _ => fun
  | [d1, d2, d3, d4] => { results := [.lit (.bool true)], args := [d1, d2, d3, d4] }
  | _ => none }
def fnExactBerthNextRow : OpenClaim := { program := "ytiejkcjbjjnacaa", sum := "e82f9a8a381ee0c89261db6bce6e460881b6cf4de3860002f04c4a6dae122227", func := "loop.example/containerport/laws.FnExactBerthNext", spec := "fnExactBerthNext", unfollowed := true, recurses := true, apart := false }
def FnExactBerthNextSaid : Prop := fnExactBerthNextRow.holds Try.pinned (OpenSpec.ofChange fnExactBerthNextSpec)

/-- ITS FALSE NEIGHBOUR: 'it returns false'. Refute it at one input. -/
def fnExactBerthNextWrong : ChangeSpec := { name := "fnExactBerthNext", fn := fun _ => fun
  | [d1, d2, d3, d4] => { results := [.lit (.bool false)], args := [d1, d2, d3, d4] }
  | _ => none }
def FnExactBerthNextWrongFalsely : Prop := fnExactBerthNextRow.holds Try.pinned (OpenSpec.ofChange fnExactBerthNextWrong)

/-- 'laws.FnExactBerthAll': WHATEVER THE INPUT: true; the input reads as it did. -/
def fnExactBerthAllSpec : ChangeSpec := { name := "fnExactBerthAll", fn := fun _ => fun
  | [d1, d2, d3] => { results := [.lit (.bool true)], args := [d1, d2, d3] }
  | _ => none }
def fnExactBerthAllRow : OpenClaim := { program := "ytiejkcjbjjnacaa", sum := "e82f9a8a381ee0c89261db6bce6e460881b6cf4de3860002f04c4a6dae122227", func := "loop.example/containerport/laws.FnExactBerthAll", spec := "fnExactBerthAll", unfollowed := true, recurses := true, apart := false }
def FnExactBerthAllSaid : Prop := fnExactBerthAllRow.holds Try.pinned (OpenSpec.ofChange fnExactBerthAllSpec)

/-- ITS FALSE NEIGHBOUR: 'it returns false'. Refute it at one input. -/
def fnExactBerthAllWrong : ChangeSpec := { name := "fnExactBerthAll", fn := fun _ => fun
  | [d1, d2, d3] => { results := [.lit (.bool false)], args := [d1, d2, d3] }
  | _ => none }
def FnExactBerthAllWrongFalsely : Prop := fnExactBerthAllRow.holds Try.pinned (OpenSpec.ofChange fnExactBerthAllWrong)

/-- 'laws.FnCallValid': WHATEVER THE INPUT: true; the input reads as it did. -/
def fnCallValidSpec : ChangeSpec := { name := "fnCallValid", fn := fun _ => fun
  | [d] => { results := [.lit (.bool true)], args := [d] }
  | _ => none }
def fnCallValidRow : OpenClaim := { program := "ytiejkcjbjjnacaa", sum := "e82f9a8a381ee0c89261db6bce6e460881b6cf4de3860002f04c4a6dae122227", func := "loop.example/containerport/laws.FnCallValid", spec := "fnCallValid", inPlace := ["internal/bytealg.IndexByteString"], apart := false }
def FnCallValidSaid : Prop := fnCallValidRow.holds Try.pinned (OpenSpec.ofChange fnCallValidSpec)

/-- ITS FALSE NEIGHBOUR: 'it returns false'. Refute it at one input. -/
def fnCallValidWrong : ChangeSpec := { name := "fnCallValid", fn := fun _ => fun
  | [d] => { results := [.lit (.bool false)], args := [d] }
  | _ => none }
def FnCallValidWrongFalsely : Prop := fnCallValidRow.holds Try.pinned (OpenSpec.ofChange fnCallValidWrong)

/-- 'laws.FnClash': WHATEVER THE INPUT: true; the input reads as it did. -/
def fnClashSpec : ChangeSpec := { name := "fnClash", fn := fun _ => fun
  | [d] => { results := [.lit (.bool true)], args := [d] }
  | _ => none }
def fnClashRow : OpenClaim := { program := "ytiejkcjbjjnacaa", sum := "e82f9a8a381ee0c89261db6bce6e460881b6cf4de3860002f04c4a6dae122227", func := "loop.example/containerport/laws.FnClash", spec := "fnClash", inPlace := ["internal/bytealg.IndexByteString"], apart := false }
def FnClashSaid : Prop := fnClashRow.holds Try.pinned (OpenSpec.ofChange fnClashSpec)

/-- ITS FALSE NEIGHBOUR: 'it returns false'. Refute it at one input. -/
def fnClashWrong : ChangeSpec := { name := "fnClash", fn := fun _ => fun
  | [d] => { results := [.lit (.bool false)], args := [d] }
  | _ => none }
def FnClashWrongFalsely : Prop := fnClashRow.holds Try.pinned (OpenSpec.ofChange fnClashWrong)

/-- 'laws.FnCallsValid': WHATEVER THE INPUT: true; the input reads as it did. -/
def fnCallsValidSpec : ChangeSpec := { name := "fnCallsValid", fn := fun _ => fun
  | [d] => { results := [.lit (.bool true)], args := [d] }
  | _ => none }
def fnCallsValidRow : OpenClaim := { program := "ytiejkcjbjjnacaa", sum := "e82f9a8a381ee0c89261db6bce6e460881b6cf4de3860002f04c4a6dae122227", func := "loop.example/containerport/laws.FnCallsValid", spec := "fnCallsValid", inPlace := ["internal/bytealg.IndexByteString"], unfollowed := true, recurses := true, apart := false }
def FnCallsValidSaid : Prop := fnCallsValidRow.holds Try.pinned (OpenSpec.ofChange fnCallsValidSpec)

/-- ITS FALSE NEIGHBOUR: 'it returns false'. Refute it at one input. -/
def fnCallsValidWrong : ChangeSpec := { name := "fnCallsValid", fn := fun _ => fun
  | [d] => { results := [.lit (.bool false)], args := [d] }
  | _ => none }
def FnCallsValidWrongFalsely : Prop := fnCallsValidRow.holds Try.pinned (OpenSpec.ofChange fnCallsValidWrong)

/-- 'laws.FnBerthNext': WHATEVER THE INPUT: true; the input reads as it did. -/
def fnBerthNextSpec : ChangeSpec := { name := "fnBerthNext", fn := fun _ => fun
  | [d] => { results := [.lit (.bool true)], args := [d] }
  | _ => none }
def fnBerthNextRow : OpenClaim := { program := "ytiejkcjbjjnacaa", sum := "e82f9a8a381ee0c89261db6bce6e460881b6cf4de3860002f04c4a6dae122227", func := "loop.example/containerport/laws.FnBerthNext", spec := "fnBerthNext", inPlace := ["internal/bytealg.IndexByteString"], unfollowed := true, recurses := true, apart := false }
def FnBerthNextSaid : Prop := fnBerthNextRow.holds Try.pinned (OpenSpec.ofChange fnBerthNextSpec)

/-- ITS FALSE NEIGHBOUR: 'it returns false'. Refute it at one input. -/
def fnBerthNextWrong : ChangeSpec := { name := "fnBerthNext", fn := fun _ => fun
  | [d] => { results := [.lit (.bool false)], args := [d] }
  | _ => none }
def FnBerthNextWrongFalsely : Prop := fnBerthNextRow.holds Try.pinned (OpenSpec.ofChange fnBerthNextWrong)

/-- 'laws.FnBerthAll': WHATEVER THE INPUT: true; the input reads as it did. -/
def fnBerthAllSpec : ChangeSpec := { name := "fnBerthAll", fn := fun _ => fun
  | [d] => { results := [.lit (.bool true)], args := [d] }
  | _ => none }
def fnBerthAllRow : OpenClaim := { program := "ytiejkcjbjjnacaa", sum := "e82f9a8a381ee0c89261db6bce6e460881b6cf4de3860002f04c4a6dae122227", func := "loop.example/containerport/laws.FnBerthAll", spec := "fnBerthAll", inPlace := ["internal/bytealg.IndexByteString"], unfollowed := true, recurses := true, apart := false }
def FnBerthAllSaid : Prop := fnBerthAllRow.holds Try.pinned (OpenSpec.ofChange fnBerthAllSpec)

/-- ITS FALSE NEIGHBOUR: 'it returns false'. Refute it at one input. -/
def fnBerthAllWrong : ChangeSpec := { name := "fnBerthAll", fn := fun _ => fun
  | [d] => { results := [.lit (.bool false)], args := [d] }
  | _ => none }
def FnBerthAllWrongFalsely : Prop := fnBerthAllRow.holds Try.pinned (OpenSpec.ofChange fnBerthAllWrong)

/- THE SECOND FORM. 'bulk': how many values and letters a reading holds, each counted each time it is reached (what is shared counts as often as it is met; a slice's spare places count too). A statement '..UptoSaid' is the law's where the arguments, and the package variables that the reading takes, are together of bulk at most 1048576: NARROWER than '..Said'. Prove '..Said' where nothing that the law and all that it calls make is longer than what came in: it says more and counts as full. Else prove '..UptoSaid'. A law counts once. -/
mutual
def uptoBulk {H : Type} : DataW H → Nat
  | .lit (.string bytes) => bytes.length + 1
  | .lit _ => 1
  | .nil => 1
  | .ptr d => uptoBulk d + 1
  | .slice elems spare => uptoBulkAll elems + uptoBulkAll spare + 1
  | .agg parts => uptoBulkAll parts + 1
  | .iface _ d => uptoBulk d + 1
  | .map entries => uptoBulkEntries entries + 1
  | .held _ => 1
def uptoBulkAll {H : Type} : List (DataW H) → Nat
  | [] => 0
  | d :: r => uptoBulk d + uptoBulkAll r
def uptoBulkEntries {H : Type} : List (Lit × DataW H) → Nat
  | [] => 0
  | x :: r => uptoBulkEntry x + uptoBulkEntries r
def uptoBulkEntry {H : Type} : Lit × DataW H → Nat
  | (.string bytes, d) => bytes.length + uptoBulk d + 1
  | (_, d) => uptoBulk d + 1
 end
def uptoSmall : (H : Type) → List (DataW H) → Bool := fun _ ds => decide (uptoBulkAll ds ≤ 1048576)
def OpenSpec.upto (s : _root_.Go.ChangeSpec) : _root_.Go.OpenSpec := { _root_.Go.OpenSpec.ofChange s with cond := some uptoSmall }

/-- 'laws.FnExactCallValid', WHERE WHAT IT READS IS OF BULK AT MOST 1048576: true; the input reads as it did. -/
def fnExactCallValidUptoRow : OpenClaim := { program := "ytiejkcjbjjnacaa", sum := "e82f9a8a381ee0c89261db6bce6e460881b6cf4de3860002f04c4a6dae122227", func := "loop.example/containerport/laws.FnExactCallValid", spec := "fnExactCallValid", apart := false, narrowed := true }
def FnExactCallValidUptoSaid : Prop := fnExactCallValidUptoRow.holds Try.pinned (OpenSpec.upto fnExactCallValidSpec)

/-- 'laws.FnExactClash', WHERE WHAT IT READS IS OF BULK AT MOST 1048576: true; the input reads as it did. -/
def fnExactClashUptoRow : OpenClaim := { program := "ytiejkcjbjjnacaa", sum := "e82f9a8a381ee0c89261db6bce6e460881b6cf4de3860002f04c4a6dae122227", func := "loop.example/containerport/laws.FnExactClash", spec := "fnExactClash", apart := false, narrowed := true }
def FnExactClashUptoSaid : Prop := fnExactClashUptoRow.holds Try.pinned (OpenSpec.upto fnExactClashSpec)

/-- 'laws.FnExactCallsValid', WHERE WHAT IT READS IS OF BULK AT MOST 1048576: true; the input reads as it did. -/
def fnExactCallsValidUptoRow : OpenClaim := { program := "ytiejkcjbjjnacaa", sum := "e82f9a8a381ee0c89261db6bce6e460881b6cf4de3860002f04c4a6dae122227", func := "loop.example/containerport/laws.FnExactCallsValid", spec := "fnExactCallsValid", unfollowed := true, recurses := true, apart := false, narrowed := true }
def FnExactCallsValidUptoSaid : Prop := fnExactCallsValidUptoRow.holds Try.pinned (OpenSpec.upto fnExactCallsValidSpec)

/-- 'laws.FnExactBerthNext', WHERE WHAT IT READS IS OF BULK AT MOST 1048576: true; the input reads as it did. -/
def fnExactBerthNextUptoRow : OpenClaim := { program := "ytiejkcjbjjnacaa", sum := "e82f9a8a381ee0c89261db6bce6e460881b6cf4de3860002f04c4a6dae122227", func := "loop.example/containerport/laws.FnExactBerthNext", spec := "fnExactBerthNext", unfollowed := true, recurses := true, apart := false, narrowed := true }
def FnExactBerthNextUptoSaid : Prop := fnExactBerthNextUptoRow.holds Try.pinned (OpenSpec.upto fnExactBerthNextSpec)

/-- 'laws.FnExactBerthAll', WHERE WHAT IT READS IS OF BULK AT MOST 1048576: true; the input reads as it did. -/
def fnExactBerthAllUptoRow : OpenClaim := { program := "ytiejkcjbjjnacaa", sum := "e82f9a8a381ee0c89261db6bce6e460881b6cf4de3860002f04c4a6dae122227", func := "loop.example/containerport/laws.FnExactBerthAll", spec := "fnExactBerthAll", unfollowed := true, recurses := true, apart := false, narrowed := true }
def FnExactBerthAllUptoSaid : Prop := fnExactBerthAllUptoRow.holds Try.pinned (OpenSpec.upto fnExactBerthAllSpec)

/-- 'laws.FnCallValid', WHERE WHAT IT READS IS OF BULK AT MOST 1048576: true; the input reads as it did. -/
def fnCallValidUptoRow : OpenClaim := { program := "ytiejkcjbjjnacaa", sum := "e82f9a8a381ee0c89261db6bce6e460881b6cf4de3860002f04c4a6dae122227", func := "loop.example/containerport/laws.FnCallValid", spec := "fnCallValid", inPlace := ["internal/bytealg.IndexByteString"], apart := false, narrowed := true }
def FnCallValidUptoSaid : Prop := fnCallValidUptoRow.holds Try.pinned (OpenSpec.upto fnCallValidSpec)

/-- 'laws.FnClash', WHERE WHAT IT READS IS OF BULK AT MOST 1048576: true; the input reads as it did. -/
def fnClashUptoRow : OpenClaim := { program := "ytiejkcjbjjnacaa", sum := "e82f9a8a381ee0c89261db6bce6e460881b6cf4de3860002f04c4a6dae122227", func := "loop.example/containerport/laws.FnClash", spec := "fnClash", inPlace := ["internal/bytealg.IndexByteString"], apart := false, narrowed := true }
def FnClashUptoSaid : Prop := fnClashUptoRow.holds Try.pinned (OpenSpec.upto fnClashSpec)

/-- 'laws.FnCallsValid', WHERE WHAT IT READS IS OF BULK AT MOST 1048576: true; the input reads as it did. -/
def fnCallsValidUptoRow : OpenClaim := { program := "ytiejkcjbjjnacaa", sum := "e82f9a8a381ee0c89261db6bce6e460881b6cf4de3860002f04c4a6dae122227", func := "loop.example/containerport/laws.FnCallsValid", spec := "fnCallsValid", inPlace := ["internal/bytealg.IndexByteString"], unfollowed := true, recurses := true, apart := false, narrowed := true }
def FnCallsValidUptoSaid : Prop := fnCallsValidUptoRow.holds Try.pinned (OpenSpec.upto fnCallsValidSpec)

/-- 'laws.FnBerthNext', WHERE WHAT IT READS IS OF BULK AT MOST 1048576: true; the input reads as it did. -/
def fnBerthNextUptoRow : OpenClaim := { program := "ytiejkcjbjjnacaa", sum := "e82f9a8a381ee0c89261db6bce6e460881b6cf4de3860002f04c4a6dae122227", func := "loop.example/containerport/laws.FnBerthNext", spec := "fnBerthNext", inPlace := ["internal/bytealg.IndexByteString"], unfollowed := true, recurses := true, apart := false, narrowed := true }
def FnBerthNextUptoSaid : Prop := fnBerthNextUptoRow.holds Try.pinned (OpenSpec.upto fnBerthNextSpec)

/-- 'laws.FnBerthAll', WHERE WHAT IT READS IS OF BULK AT MOST 1048576: true; the input reads as it did. -/
def fnBerthAllUptoRow : OpenClaim := { program := "ytiejkcjbjjnacaa", sum := "e82f9a8a381ee0c89261db6bce6e460881b6cf4de3860002f04c4a6dae122227", func := "loop.example/containerport/laws.FnBerthAll", spec := "fnBerthAll", inPlace := ["internal/bytealg.IndexByteString"], unfollowed := true, recurses := true, apart := false, narrowed := true }
def FnBerthAllUptoSaid : Prop := fnBerthAllUptoRow.holds Try.pinned (OpenSpec.upto fnBerthAllSpec)

end Rows
end Go.Proofs.Ytiejkcjbjjnacaa
