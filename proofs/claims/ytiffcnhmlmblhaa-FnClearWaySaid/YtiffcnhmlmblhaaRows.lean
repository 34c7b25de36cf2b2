/-
  No cell of these rows narrows 'for every input' (looked for: loops, veiled, ifaces, maps, wideKeys, modest, calm, conditions, laid).
  DERIVED. THE GIVEN ROWS OF THIS SEAT. 8 by the template 'for every input the law returns true; each argument reads behind the call as it read before'; 0 by the template 'total and deterministic' (their statements: YtiffcnhmlmblhaaTotals.lean).
  GIVEN WITH THE SEED: the statements are not yours to turn. If you find one false, say at which input.
  Laid BY PROGRAM, IN A SANDBOX (cutbox-rows.mjs): the forced cells as the released guide's own fill.sh prints them over the translation 08a2e4bde5c71abb… (all of the seat's roots in one cut). By AI agents, Wed Nov 11 2026. No macro, syntax, notation, axiom, sorry.
-/
import Derived.Test.YtiffcnhmlmblhaaChecked
import GoSem.Claim
import GoSem.ClaimJoined
import GoSem.ClaimMapViews
import Derived.JoinedTies
import Derived.KernelRfl
namespace Go.Proofs.Ytiffcnhmlmblhaa
/- THE CELL 'sum', in the pinned program and in every row, IS THE sha256 OF THE DUMP (.gsa) THAT YtiffcnhmlmblhaaProg.lean LOADS. Nothing in Lean hashes anything: it is a label: what it is worth is what the hold of that sum in a sandbox is worth. -/
noncomputable def Try.pinned : Pinned := { name := "ytiffcnhmlmblhaa", sum := "08a2e4bde5c71abbb575a07fea1b13bdefb0774ab6aa1ff4401447ba0890f1db", checked := Try.checked }
namespace Rows
def none {H : Type} : Left H := { results := [], args := [] }

/-- 'laws.FnExactRailValid': WHATEVER THE INPUT: true; the input reads as it did. -/
def fnExactRailValidSpec : ChangeSpec := { name := "fnExactRailValid", fn := fun _ => fun
  | [d] => { results := [.lit (.bool true)], args := [d] }
  | _ => none }
def fnExactRailValidRow : OpenClaim := { program := "ytiffcnhmlmblhaa", sum := "08a2e4bde5c71abbb575a07fea1b13bdefb0774ab6aa1ff4401447ba0890f1db", func := "loop.example/containerport/laws.FnExactRailValid", spec := "fnExactRailValid", apart := false }
def FnExactRailValidSaid : Prop := fnExactRailValidRow.holds Try.pinned (OpenSpec.ofChange fnExactRailValidSpec)

/-- ITS FALSE NEIGHBOUR: 'it returns false'. Refute it at one input. -/
def fnExactRailValidWrong : ChangeSpec := { name := "fnExactRailValid", fn := fun _ => fun
  | [d] => { results := [.lit (.bool false)], args := [d] }
  | _ => none }
def FnExactRailValidWrongFalsely : Prop := fnExactRailValidRow.holds Try.pinned (OpenSpec.ofChange fnExactRailValidWrong)

/-- 'laws.FnExactDriveDo': WHATEVER THE INPUT: true; the input reads as it did. -/
def fnExactDriveDoSpec : ChangeSpec := { name := "fnExactDriveDo", fn := fun _ => fun
  | [d1, d2] => { results := [.lit (.bool true)], args := [d1, d2] }
  | _ => none }
def fnExactDriveDoRow : OpenClaim := { program := "ytiffcnhmlmblhaa", sum := "08a2e4bde5c71abbb575a07fea1b13bdefb0774ab6aa1ff4401447ba0890f1db", func := "loop.example/containerport/laws.FnExactDriveDo", spec := "fnExactDriveDo", apart := false }
def FnExactDriveDoSaid : Prop := fnExactDriveDoRow.holds Try.pinned (OpenSpec.ofChange fnExactDriveDoSpec)

/-- ITS FALSE NEIGHBOUR: 'it returns false'. Refute it at one input. -/
def fnExactDriveDoWrong : ChangeSpec := { name := "fnExactDriveDo", fn := fun _ => fun
  | [d1, d2] => { results := [.lit (.bool false)], args := [d1, d2] }
  | _ => none }
def FnExactDriveDoWrongFalsely : Prop := fnExactDriveDoRow.holds Try.pinned (OpenSpec.ofChange fnExactDriveDoWrong)

/-- 'laws.FnExactDriveRun': WHATEVER THE INPUT: true; the input reads as it did. -/
def fnExactDriveRunSpec : ChangeSpec := { name := "fnExactDriveRun", fn := fun _ => fun
  | [d1, d2] => { results := [.lit (.bool true)], args := [d1, d2] }
  | _ => none }
def fnExactDriveRunRow : OpenClaim := { program := "ytiffcnhmlmblhaa", sum := "08a2e4bde5c71abbb575a07fea1b13bdefb0774ab6aa1ff4401447ba0890f1db", func := "loop.example/containerport/laws.FnExactDriveRun", spec := "fnExactDriveRun", apart := false }
def FnExactDriveRunSaid : Prop := fnExactDriveRunRow.holds Try.pinned (OpenSpec.ofChange fnExactDriveRunSpec)

/-- ITS FALSE NEIGHBOUR: 'it returns false'. Refute it at one input. -/
def fnExactDriveRunWrong : ChangeSpec := { name := "fnExactDriveRun", fn := fun _ => fun
  | [d1, d2] => { results := [.lit (.bool false)], args := [d1, d2] }
  | _ => none }
def FnExactDriveRunWrongFalsely : Prop := fnExactDriveRunRow.holds Try.pinned (OpenSpec.ofChange fnExactDriveRunWrong)

/-- 'laws.FnExactClearWay': WHATEVER THE INPUT: true; the input reads as it did. -/
def fnExactClearWaySpec : ChangeSpec := { name := "fnExactClearWay", fn := fun _ => fun
  | [d1, d2, d3] => { results := [.lit (.bool true)], args := [d1, d2, d3] }
  | _ => none }
def fnExactClearWayRow : OpenClaim := { program := "ytiffcnhmlmblhaa", sum := "08a2e4bde5c71abbb575a07fea1b13bdefb0774ab6aa1ff4401447ba0890f1db", func := "loop.example/containerport/laws.FnExactClearWay", spec := "fnExactClearWay", apart := false }
def FnExactClearWaySaid : Prop := fnExactClearWayRow.holds Try.pinned (OpenSpec.ofChange fnExactClearWaySpec)

/-- ITS FALSE NEIGHBOUR: 'it returns false'. Refute it at one input. -/
def fnExactClearWayWrong : ChangeSpec := { name := "fnExactClearWay", fn := fun _ => fun
  | [d1, d2, d3] => { results := [.lit (.bool false)], args := [d1, d2, d3] }
  | _ => none }
def FnExactClearWayWrongFalsely : Prop := fnExactClearWayRow.holds Try.pinned (OpenSpec.ofChange fnExactClearWayWrong)

/-- 'laws.FnRailValid': WHATEVER THE INPUT: true; the input reads as it did. -/
def fnRailValidSpec : ChangeSpec := { name := "fnRailValid", fn := fun _ => fun
  | [d] => { results := [.lit (.bool true)], args := [d] }
  | _ => none }
def fnRailValidRow : OpenClaim := { program := "ytiffcnhmlmblhaa", sum := "08a2e4bde5c71abbb575a07fea1b13bdefb0774ab6aa1ff4401447ba0890f1db", func := "loop.example/containerport/laws.FnRailValid", spec := "fnRailValid", inPlace := ["internal/bytealg.IndexByteString"], apart := false }
def FnRailValidSaid : Prop := fnRailValidRow.holds Try.pinned (OpenSpec.ofChange fnRailValidSpec)

/-- ITS FALSE NEIGHBOUR: 'it returns false'. Refute it at one input. -/
def fnRailValidWrong : ChangeSpec := { name := "fnRailValid", fn := fun _ => fun
  | [d] => { results := [.lit (.bool false)], args := [d] }
  | _ => none }
def FnRailValidWrongFalsely : Prop := fnRailValidRow.holds Try.pinned (OpenSpec.ofChange fnRailValidWrong)

/-- 'laws.FnDriveDo': WHATEVER THE INPUT: true; the input reads as it did. -/
def fnDriveDoSpec : ChangeSpec := { name := "fnDriveDo", fn := fun _ => fun
  | [d] => { results := [.lit (.bool true)], args := [d] }
  | _ => none }
def fnDriveDoRow : OpenClaim := { program := "ytiffcnhmlmblhaa", sum := "08a2e4bde5c71abbb575a07fea1b13bdefb0774ab6aa1ff4401447ba0890f1db", func := "loop.example/containerport/laws.FnDriveDo", spec := "fnDriveDo", inPlace := ["internal/bytealg.IndexByteString"], apart := false }
def FnDriveDoSaid : Prop := fnDriveDoRow.holds Try.pinned (OpenSpec.ofChange fnDriveDoSpec)

/-- ITS FALSE NEIGHBOUR: 'it returns false'. Refute it at one input. -/
def fnDriveDoWrong : ChangeSpec := { name := "fnDriveDo", fn := fun _ => fun
  | [d] => { results := [.lit (.bool false)], args := [d] }
  | _ => none }
def FnDriveDoWrongFalsely : Prop := fnDriveDoRow.holds Try.pinned (OpenSpec.ofChange fnDriveDoWrong)

/-- 'laws.FnDriveRun': WHATEVER THE INPUT: true; the input reads as it did. -/
def fnDriveRunSpec : ChangeSpec := { name := "fnDriveRun", fn := fun _ => fun
  | [d] => { results := [.lit (.bool true)], args := [d] }
  | _ => none }
def fnDriveRunRow : OpenClaim := { program := "ytiffcnhmlmblhaa", sum := "08a2e4bde5c71abbb575a07fea1b13bdefb0774ab6aa1ff4401447ba0890f1db", func := "loop.example/containerport/laws.FnDriveRun", spec := "fnDriveRun", inPlace := ["internal/bytealg.IndexByteString"], apart := false }
def FnDriveRunSaid : Prop := fnDriveRunRow.holds Try.pinned (OpenSpec.ofChange fnDriveRunSpec)

/-- ITS FALSE NEIGHBOUR: 'it returns false'. Refute it at one input. -/
def fnDriveRunWrong : ChangeSpec := { name := "fnDriveRun", fn := fun _ => fun
  | [d] => { results := [.lit (.bool false)], args := [d] }
  | _ => none }
def FnDriveRunWrongFalsely : Prop := fnDriveRunRow.holds Try.pinned (OpenSpec.ofChange fnDriveRunWrong)

/-- 'laws.FnClearWay': WHATEVER THE INPUT: true; the input reads as it did. -/
def fnClearWaySpec : ChangeSpec := { name := "fnClearWay", fn := fun _ => fun
  | [d] => { results := [.lit (.bool true)], args := [d] }
  | _ => none }
def fnClearWayRow : OpenClaim := { program := "ytiffcnhmlmblhaa", sum := "08a2e4bde5c71abbb575a07fea1b13bdefb0774ab6aa1ff4401447ba0890f1db", func := "loop.example/containerport/laws.FnClearWay", spec := "fnClearWay", inPlace := ["internal/bytealg.IndexByteString"], apart := false }
def FnClearWaySaid : Prop := fnClearWayRow.holds Try.pinned (OpenSpec.ofChange fnClearWaySpec)

/-- ITS FALSE NEIGHBOUR: 'it returns false'. Refute it at one input. -/
def fnClearWayWrong : ChangeSpec := { name := "fnClearWay", fn := fun _ => fun
  | [d] => { results := [.lit (.bool false)], args := [d] }
  | _ => none }
def FnClearWayWrongFalsely : Prop := fnClearWayRow.holds Try.pinned (OpenSpec.ofChange fnClearWayWrong)

/- THE SECOND FORM. 'bulk': how many values and letters a reading holds, each counted each time it is reached (what is shared counts as often as it is met; a slice's spare places count too). A statement '..UptoSaid' is the law's where the arguments, and the package variables that the reading takes, are together of bulk at most 1048576: NARROWER than '..Said'. Prove '..Said' where nothing that the law and all that it calls make is longer than what came in: it says more and counts as full. Else prove '..UptoSaid'. A law counts once. -/
mutual
def uptoBulk {H : Type} : DataW H → Nat
  | .lit (.string bytes) => bytes.length + 1
  | .lit _ => 1
  | .nil => 1
  | .ptr d => uptoBulk d + 1
  | .slice elems spare => uptoBulkAll elems + uptoBulkAll spare + 1
  | .agg parts => uptoBulkAll parts + 1
  | .iface _ d => uptoBulk d + 1
  | .map entries => uptoBulkEntries entries + 1
  | .held _ => 1
def uptoBulkAll {H : Type} : List (DataW H) → Nat
  | [] => 0
  | d :: r => uptoBulk d + uptoBulkAll r
def uptoBulkEntries {H : Type} : List (Lit × DataW H) → Nat
  | [] => 0
  | x :: r => uptoBulkEntry x + uptoBulkEntries r
def uptoBulkEntry {H : Type} : Lit × DataW H → Nat
  | (.string bytes, d) => bytes.length + uptoBulk d + 1
  | (_, d) => uptoBulk d + 1
 end
def uptoSmall : (H : Type) → List (DataW H) → Bool := fun _ ds => decide (uptoBulkAll ds ≤ 1048576)
def OpenSpec.upto (s : _root_.Go.ChangeSpec) : _root_.Go.OpenSpec := { _root_.Go.OpenSpec.ofChange s with cond := some uptoSmall }

/-- 'laws.FnExactRailValid', WHERE WHAT IT READS IS OF BULK AT MOST 1048576: true; the input reads as it did. -/
def fnExactRailValidUptoRow : OpenClaim := { program := "ytiffcnhmlmblhaa", sum := "08a2e4bde5c71abbb575a07fea1b13bdefb0774ab6aa1ff4401447ba0890f1db", func := "loop.example/containerport/laws.FnExactRailValid", spec := "fnExactRailValid", apart := false, narrowed := true }
def FnExactRailValidUptoSaid : Prop := fnExactRailValidUptoRow.holds Try.pinned (OpenSpec.upto fnExactRailValidSpec)

/-- 'laws.FnExactDriveDo', WHERE WHAT IT READS IS OF BULK AT MOST 1048576: true; the input reads as it did. -/
def fnExactDriveDoUptoRow : OpenClaim := { program := "ytiffcnhmlmblhaa", sum := "08a2e4bde5c71abbb575a07fea1b13bdefb0774ab6aa1ff4401447ba0890f1db", func := "loop.example/containerport/laws.FnExactDriveDo", spec := "fnExactDriveDo", apart := false, narrowed := true }
def FnExactDriveDoUptoSaid : Prop := fnExactDriveDoUptoRow.holds Try.pinned (OpenSpec.upto fnExactDriveDoSpec)

/-- 'laws.FnExactDriveRun', WHERE WHAT IT READS IS OF BULK AT MOST 1048576: true; the input reads as it did. -/
def fnExactDriveRunUptoRow : OpenClaim := { program := "ytiffcnhmlmblhaa", sum := "08a2e4bde5c71abbb575a07fea1b13bdefb0774ab6aa1ff4401447ba0890f1db", func := "loop.example/containerport/laws.FnExactDriveRun", spec := "fnExactDriveRun", apart := false, narrowed := true }
def FnExactDriveRunUptoSaid : Prop := fnExactDriveRunUptoRow.holds Try.pinned (OpenSpec.upto fnExactDriveRunSpec)

/-- 'laws.FnExactClearWay', WHERE WHAT IT READS IS OF BULK AT MOST 1048576: true; the input reads as it did. -/
def fnExactClearWayUptoRow : OpenClaim := { program := "ytiffcnhmlmblhaa", sum := "08a2e4bde5c71abbb575a07fea1b13bdefb0774ab6aa1ff4401447ba0890f1db", func := "loop.example/containerport/laws.FnExactClearWay", spec := "fnExactClearWay", apart := false, narrowed := true }
def FnExactClearWayUptoSaid : Prop := fnExactClearWayUptoRow.holds Try.pinned (OpenSpec.upto fnExactClearWaySpec)

/-- 'laws.FnRailValid', WHERE WHAT IT READS IS OF BULK AT MOST 1048576: true; the input reads as it did. -/
def fnRailValidUptoRow : OpenClaim := { program := "ytiffcnhmlmblhaa", sum := "08a2e4bde5c71abbb575a07fea1b13bdefb0774ab6aa1ff4401447ba0890f1db", func := "loop.example/containerport/laws.FnRailValid", spec := "fnRailValid", inPlace := ["internal/bytealg.IndexByteString"], apart := false, narrowed := true }
def FnRailValidUptoSaid : Prop := fnRailValidUptoRow.holds Try.pinned (OpenSpec.upto fnRailValidSpec)

/-- 'laws.FnDriveDo', WHERE WHAT IT READS IS OF BULK AT MOST 1048576: true; the input reads as it did. -/
def fnDriveDoUptoRow : OpenClaim := { program := "ytiffcnhmlmblhaa", sum := "08a2e4bde5c71abbb575a07fea1b13bdefb0774ab6aa1ff4401447ba0890f1db", func := "loop.example/containerport/laws.FnDriveDo", spec := "fnDriveDo", inPlace := ["internal/bytealg.IndexByteString"], apart := false, narrowed := true }
def FnDriveDoUptoSaid : Prop := fnDriveDoUptoRow.holds Try.pinned (OpenSpec.upto fnDriveDoSpec)

/-- 'laws.FnDriveRun', WHERE WHAT IT READS IS OF BULK AT MOST 1048576: true; the input reads as it did. -/
def fnDriveRunUptoRow : OpenClaim := { program := "ytiffcnhmlmblhaa", sum := "08a2e4bde5c71abbb575a07fea1b13bdefb0774ab6aa1ff4401447ba0890f1db", func := "loop.example/containerport/laws.FnDriveRun", spec := "fnDriveRun", inPlace := ["internal/bytealg.IndexByteString"], apart := false, narrowed := true }
def FnDriveRunUptoSaid : Prop := fnDriveRunUptoRow.holds Try.pinned (OpenSpec.upto fnDriveRunSpec)

/-- 'laws.FnClearWay', WHERE WHAT IT READS IS OF BULK AT MOST 1048576: true; the input reads as it did. -/
def fnClearWayUptoRow : OpenClaim := { program := "ytiffcnhmlmblhaa", sum := "08a2e4bde5c71abbb575a07fea1b13bdefb0774ab6aa1ff4401447ba0890f1db", func := "loop.example/containerport/laws.FnClearWay", spec := "fnClearWay", inPlace := ["internal/bytealg.IndexByteString"], apart := false, narrowed := true }
def FnClearWayUptoSaid : Prop := fnClearWayUptoRow.holds Try.pinned (OpenSpec.upto fnClearWaySpec)

end Rows
end Go.Proofs.Ytiffcnhmlmblhaa
