/-
  No cell of these rows narrows 'for every input' (looked for: loops, veiled, ifaces, maps, wideKeys, modest, calm, conditions, laid).
  DERIVED. THE GIVEN ROWS OF THIS SEAT. 10 by the template 'for every input the law returns true; each argument reads behind the call as it read before'; 0 by the template 'total and deterministic' (their statements: YtncjfppdfkoeeaaTotals.lean).
  GIVEN WITH THE SEED: the statements are not yours to turn. If you find one false, say at which input.
  Laid BY PROGRAM, IN A SANDBOX (cutbox-rows.mjs): the forced cells as the released guide's own fill.sh prints them over the translation 7aebe2369436fd6f… (all of the seat's roots in one cut). By AI agents, Wed Nov 11 2026. No macro, syntax, notation, axiom, sorry.
-/
import Derived.Test.YtncjfppdfkoeeaaChecked
import GoSem.Claim
import GoSem.ClaimJoined
import GoSem.ClaimMapViews
import Derived.JoinedTies
import Derived.KernelRfl
namespace Go.Proofs.Ytncjfppdfkoeeaa
/- THE CELL 'sum', in the pinned program and in every row, IS THE sha256 OF THE DUMP (.gsa) THAT YtncjfppdfkoeeaaProg.lean LOADS. Nothing in Lean hashes anything: it is a label: what it is worth is what the hold of that sum in a sandbox is worth. -/
noncomputable def Try.pinned : Pinned := { name := "ytncjfppdfkoeeaa", sum := "7aebe2369436fd6f8ea3fe8d2f93302fd665e8b221bfdb42c7e0a96fcf025d3f", checked := Try.checked }
namespace Rows
def none {H : Type} : Left H := { results := [], args := [] }

/-- 'laws.FnExactTideValid': WHATEVER THE INPUT: true; the input reads as it did. -/
def fnExactTideValidSpec : ChangeSpec := { name := "fnExactTideValid", fn := fun _ => fun
  | [d] => { results := [.lit (.bool true)], args := [d] }
  | _ => none }
def fnExactTideValidRow : OpenClaim := { program := "ytncjfppdfkoeeaa", sum := "7aebe2369436fd6f8ea3fe8d2f93302fd665e8b221bfdb42c7e0a96fcf025d3f", func := "loop.example/containerport/laws.FnExactTideValid", spec := "fnExactTideValid", apart := false }
def FnExactTideValidSaid : Prop := fnExactTideValidRow.holds Try.pinned (OpenSpec.ofChange fnExactTideValidSpec)

/-- ITS FALSE NEIGHBOUR: 'it returns false'. Refute it at one input. -/
def fnExactTideValidWrong : ChangeSpec := { name := "fnExactTideValid", fn := fun _ => fun
  | [d] => { results := [.lit (.bool false)], args := [d] }
  | _ => none }
def FnExactTideValidWrongFalsely : Prop := fnExactTideValidRow.holds Try.pinned (OpenSpec.ofChange fnExactTideValidWrong)

/-- 'laws.FnExactDepthAt': WHATEVER THE INPUT: true; the input reads as it did. -/
def fnExactDepthAtSpec : ChangeSpec := { name := "fnExactDepthAt", fn := fun _ => fun
  | [d1, d2] => { results := [.lit (.bool true)], args := [d1, d2] }
  | _ => none }
def fnExactDepthAtRow : OpenClaim := { program := "ytncjfppdfkoeeaa", sum := "7aebe2369436fd6f8ea3fe8d2f93302fd665e8b221bfdb42c7e0a96fcf025d3f", func := "loop.example/containerport/laws.FnExactDepthAt", spec := "fnExactDepthAt", apart := false }
def FnExactDepthAtSaid : Prop := fnExactDepthAtRow.holds Try.pinned (OpenSpec.ofChange fnExactDepthAtSpec)

/-- ITS FALSE NEIGHBOUR: 'it returns false'. Refute it at one input. -/
def fnExactDepthAtWrong : ChangeSpec := { name := "fnExactDepthAt", fn := fun _ => fun
  | [d1, d2] => { results := [.lit (.bool false)], args := [d1, d2] }
  | _ => none }
def FnExactDepthAtWrongFalsely : Prop := fnExactDepthAtRow.holds Try.pinned (OpenSpec.ofChange fnExactDepthAtWrong)

/-- 'laws.FnExactDeepFor': WHATEVER THE INPUT: true; the input reads as it did. -/
def fnExactDeepForSpec : ChangeSpec := { name := "fnExactDeepFor", fn := fun _ => fun
  | [d1, d2, d3, d4] => { results := [.lit (.bool true)], args := [d1, d2, d3, d4] }
  | _ => none }
def fnExactDeepForRow : OpenClaim := { program := "ytncjfppdfkoeeaa", sum := "7aebe2369436fd6f8ea3fe8d2f93302fd665e8b221bfdb42c7e0a96fcf025d3f", func := "loop.example/containerport/laws.FnExactDeepFor", spec := "fnExactDeepFor", apart := false }
def FnExactDeepForSaid : Prop := fnExactDeepForRow.holds Try.pinned (OpenSpec.ofChange fnExactDeepForSpec)

/-- ITS FALSE NEIGHBOUR: 'it returns false'. Refute it at one input. -/
def fnExactDeepForWrong : ChangeSpec := { name := "fnExactDeepFor", fn := fun _ => fun
  | [d1, d2, d3, d4] => { results := [.lit (.bool false)], args := [d1, d2, d3, d4] }
  | _ => none }
def FnExactDeepForWrongFalsely : Prop := fnExactDeepForRow.holds Try.pinned (OpenSpec.ofChange fnExactDeepForWrong)

/-- 'laws.FnExactDeepMost': WHATEVER THE INPUT: true; the input reads as it did. -/
def fnExactDeepMostSpec : ChangeSpec := { name := "fnExactDeepMost", fn := fun _ => fun
  | [d1, d2, d3] => { results := [.lit (.bool true)], args := [d1, d2, d3] }
  | _ => none }
def fnExactDeepMostRow : OpenClaim := { program := "ytncjfppdfkoeeaa", sum := "7aebe2369436fd6f8ea3fe8d2f93302fd665e8b221bfdb42c7e0a96fcf025d3f", func := "loop.example/containerport/laws.FnExactDeepMost", spec := "fnExactDeepMost", apart := false }
def FnExactDeepMostSaid : Prop := fnExactDeepMostRow.holds Try.pinned (OpenSpec.ofChange fnExactDeepMostSpec)

/-- ITS FALSE NEIGHBOUR: 'it returns false'. Refute it at one input. -/
def fnExactDeepMostWrong : ChangeSpec := { name := "fnExactDeepMost", fn := fun _ => fun
  | [d1, d2, d3] => { results := [.lit (.bool false)], args := [d1, d2, d3] }
  | _ => none }
def FnExactDeepMostWrongFalsely : Prop := fnExactDeepMostRow.holds Try.pinned (OpenSpec.ofChange fnExactDeepMostWrong)

/-- 'laws.FnExactNextDeep': WHATEVER THE INPUT: true; the input reads as it did. -/
def fnExactNextDeepSpec : ChangeSpec := { name := "fnExactNextDeep", fn := fun _ => fun
  | [d1, d2, d3, d4] => { results := [.lit (.bool true)], args := [d1, d2, d3, d4] }
  | _ => none }
def fnExactNextDeepRow : OpenClaim := { program := "ytncjfppdfkoeeaa", sum := "7aebe2369436fd6f8ea3fe8d2f93302fd665e8b221bfdb42c7e0a96fcf025d3f", func := "loop.example/containerport/laws.FnExactNextDeep", spec := "fnExactNextDeep", apart := false }
def FnExactNextDeepSaid : Prop := fnExactNextDeepRow.holds Try.pinned (OpenSpec.ofChange fnExactNextDeepSpec)

/-- ITS FALSE NEIGHBOUR: 'it returns false'. Refute it at one input. -/
def fnExactNextDeepWrong : ChangeSpec := { name := "fnExactNextDeep", fn := fun _ => fun
  | [d1, d2, d3, d4] => { results := [.lit (.bool false)], args := [d1, d2, d3, d4] }
  | _ => none }
def FnExactNextDeepWrongFalsely : Prop := fnExactNextDeepRow.holds Try.pinned (OpenSpec.ofChange fnExactNextDeepWrong)

/-- 'laws.FnTideValid': WHATEVER THE INPUT: true; the input reads as it did. -/
def fnTideValidSpec : ChangeSpec := { name := "fnTideValid", fn := fun _ => fun
  | [d] => { results := [.lit (.bool true)], args := [d] }
  | _ => none }
def fnTideValidRow : OpenClaim := { program := "ytncjfppdfkoeeaa", sum := "7aebe2369436fd6f8ea3fe8d2f93302fd665e8b221bfdb42c7e0a96fcf025d3f", func := "loop.example/containerport/laws.FnTideValid", spec := "fnTideValid", inPlace := ["internal/bytealg.IndexByteString"], apart := false }
def FnTideValidSaid : Prop := fnTideValidRow.holds Try.pinned (OpenSpec.ofChange fnTideValidSpec)

/-- ITS FALSE NEIGHBOUR: 'it returns false'. Refute it at one input. -/
def fnTideValidWrong : ChangeSpec := { name := "fnTideValid", fn := fun _ => fun
  | [d] => { results := [.lit (.bool false)], args := [d] }
  | _ => none }
def FnTideValidWrongFalsely : Prop := fnTideValidRow.holds Try.pinned (OpenSpec.ofChange fnTideValidWrong)

/-- 'laws.FnDepthAt': WHATEVER THE INPUT: true; the input reads as it did. -/
def fnDepthAtSpec : ChangeSpec := { name := "fnDepthAt", fn := fun _ => fun
  | [d] => { results := [.lit (.bool true)], args := [d] }
  | _ => none }
def fnDepthAtRow : OpenClaim := { program := "ytncjfppdfkoeeaa", sum := "7aebe2369436fd6f8ea3fe8d2f93302fd665e8b221bfdb42c7e0a96fcf025d3f", func := "loop.example/containerport/laws.FnDepthAt", spec := "fnDepthAt", inPlace := ["internal/bytealg.IndexByteString"], apart := false }
def FnDepthAtSaid : Prop := fnDepthAtRow.holds Try.pinned (OpenSpec.ofChange fnDepthAtSpec)

/-- ITS FALSE NEIGHBOUR: 'it returns false'. Refute it at one input. -/
def fnDepthAtWrong : ChangeSpec := { name := "fnDepthAt", fn := fun _ => fun
  | [d] => { results := [.lit (.bool false)], args := [d] }
  | _ => none }
def FnDepthAtWrongFalsely : Prop := fnDepthAtRow.holds Try.pinned (OpenSpec.ofChange fnDepthAtWrong)

/-- 'laws.FnDeepFor': WHATEVER THE INPUT: true; the input reads as it did. -/
def fnDeepForSpec : ChangeSpec := { name := "fnDeepFor", fn := fun _ => fun
  | [d] => { results := [.lit (.bool true)], args := [d] }
  | _ => none }
def fnDeepForRow : OpenClaim := { program := "ytncjfppdfkoeeaa", sum := "7aebe2369436fd6f8ea3fe8d2f93302fd665e8b221bfdb42c7e0a96fcf025d3f", func := "loop.example/containerport/laws.FnDeepFor", spec := "fnDeepFor", inPlace := ["internal/bytealg.IndexByteString"], apart := false }
def FnDeepForSaid : Prop := fnDeepForRow.holds Try.pinned (OpenSpec.ofChange fnDeepForSpec)

/-- ITS FALSE NEIGHBOUR: 'it returns false'. Refute it at one input. -/
def fnDeepForWrong : ChangeSpec := { name := "fnDeepFor", fn := fun _ => fun
  | [d] => { results := [.lit (.bool false)], args := [d] }
  | _ => none }
def FnDeepForWrongFalsely : Prop := fnDeepForRow.holds Try.pinned (OpenSpec.ofChange fnDeepForWrong)

/-- 'laws.FnDeepMost': WHATEVER THE INPUT: true; the input reads as it did. -/
def fnDeepMostSpec : ChangeSpec := { name := "fnDeepMost", fn := fun _ => fun
  | [d] => { results := [.lit (.bool true)], args := [d] }
  | _ => none }
def fnDeepMostRow : OpenClaim := { program := "ytncjfppdfkoeeaa", sum := "7aebe2369436fd6f8ea3fe8d2f93302fd665e8b221bfdb42c7e0a96fcf025d3f", func := "loop.example/containerport/laws.FnDeepMost", spec := "fnDeepMost", inPlace := ["internal/bytealg.IndexByteString"], apart := false }
def FnDeepMostSaid : Prop := fnDeepMostRow.holds Try.pinned (OpenSpec.ofChange fnDeepMostSpec)

/-- ITS FALSE NEIGHBOUR: 'it returns false'. Refute it at one input. -/
def fnDeepMostWrong : ChangeSpec := { name := "fnDeepMost", fn := fun _ => fun
  | [d] => { results := [.lit (.bool false)], args := [d] }
  | _ => none }
def FnDeepMostWrongFalsely : Prop := fnDeepMostRow.holds Try.pinned (OpenSpec.ofChange fnDeepMostWrong)

/-- 'laws.FnNextDeep': WHATEVER THE INPUT: true; the input reads as it did. -/
def fnNextDeepSpec : ChangeSpec := { name := "fnNextDeep", fn := fun _ => fun
  | [d] => { results := [.lit (.bool true)], args := [d] }
  | _ => none }
def fnNextDeepRow : OpenClaim := { program := "ytncjfppdfkoeeaa", sum := "7aebe2369436fd6f8ea3fe8d2f93302fd665e8b221bfdb42c7e0a96fcf025d3f", func := "loop.example/containerport/laws.FnNextDeep", spec := "fnNextDeep", inPlace := ["internal/bytealg.IndexByteString"], apart := false }
def FnNextDeepSaid : Prop := fnNextDeepRow.holds Try.pinned (OpenSpec.ofChange fnNextDeepSpec)

/-- ITS FALSE NEIGHBOUR: 'it returns false'. Refute it at one input. -/
def fnNextDeepWrong : ChangeSpec := { name := "fnNextDeep", fn := fun _ => fun
  | [d] => { results := [.lit (.bool false)], args := [d] }
  | _ => none }
def FnNextDeepWrongFalsely : Prop := fnNextDeepRow.holds Try.pinned (OpenSpec.ofChange fnNextDeepWrong)

/- THE SECOND FORM. 'bulk': how many values and letters a reading holds, each counted each time it is reached (what is shared counts as often as it is met; a slice's spare places count too). A statement '..UptoSaid' is the law's where the arguments, and the package variables that the reading takes, are together of bulk at most 1048576: NARROWER than '..Said'. Prove '..Said' where nothing that the law and all that it calls make is longer than what came in: it says more and counts as full. Else prove '..UptoSaid'. A law counts once. -/
mutual
def uptoBulk {H : Type} : DataW H → Nat
  | .lit (.string bytes) => bytes.length + 1
  | .lit _ => 1
  | .nil => 1
  | .ptr d => uptoBulk d + 1
  | .slice elems spare => uptoBulkAll elems + uptoBulkAll spare + 1
  | .agg parts => uptoBulkAll parts + 1
  | .iface _ d => uptoBulk d + 1
  | .map entries => uptoBulkEntries entries + 1
  | .held _ => 1
def uptoBulkAll {H : Type} : List (DataW H) → Nat
  | [] => 0
  | d :: r => uptoBulk d + uptoBulkAll r
def uptoBulkEntries {H : Type} : List (Lit × DataW H) → Nat
  | [] => 0
  | x :: r => uptoBulkEntry x + uptoBulkEntries r
def uptoBulkEntry {H : Type} : Lit × DataW H → Nat
  | (.string bytes, d) => bytes.length + uptoBulk d + 1
  | (_, d) => uptoBulk d + 1
 end
def uptoSmall : (H : Type) → List (DataW H) → Bool := fun _ ds => decide (uptoBulkAll ds ≤ 1048576)
def OpenSpec.upto (s : _root_.Go.ChangeSpec) : _root_.Go.OpenSpec := { _root_.Go.OpenSpec.ofChange s with cond := some uptoSmall }

/-- 'laws.FnExactTideValid', WHERE WHAT IT READS IS OF BULK AT MOST 1048576: true; the input reads as it did. -/
def fnExactTideValidUptoRow : OpenClaim := { program := "ytncjfppdfkoeeaa", sum := "7aebe2369436fd6f8ea3fe8d2f93302fd665e8b221bfdb42c7e0a96fcf025d3f", func := "loop.example/containerport/laws.FnExactTideValid", spec := "fnExactTideValid", apart := false, narrowed := true }
def FnExactTideValidUptoSaid : Prop := fnExactTideValidUptoRow.holds Try.pinned (OpenSpec.upto fnExactTideValidSpec)

/-- 'laws.FnExactDepthAt', WHERE WHAT IT READS IS OF BULK AT MOST 1048576: true; the input reads as it did. -/
def fnExactDepthAtUptoRow : OpenClaim := { program := "ytncjfppdfkoeeaa", sum := "7aebe2369436fd6f8ea3fe8d2f93302fd665e8b221bfdb42c7e0a96fcf025d3f", func := "loop.example/containerport/laws.FnExactDepthAt", spec := "fnExactDepthAt", apart := false, narrowed := true }
def FnExactDepthAtUptoSaid : Prop := fnExactDepthAtUptoRow.holds Try.pinned (OpenSpec.upto fnExactDepthAtSpec)

/-- 'laws.FnExactDeepFor', WHERE WHAT IT READS IS OF BULK AT MOST 1048576: true; the input reads as it did. -/
def fnExactDeepForUptoRow : OpenClaim := { program := "ytncjfppdfkoeeaa", sum := "7aebe2369436fd6f8ea3fe8d2f93302fd665e8b221bfdb42c7e0a96fcf025d3f", func := "loop.example/containerport/laws.FnExactDeepFor", spec := "fnExactDeepFor", apart := false, narrowed := true }
def FnExactDeepForUptoSaid : Prop := fnExactDeepForUptoRow.holds Try.pinned (OpenSpec.upto fnExactDeepForSpec)

/-- 'laws.FnExactDeepMost', WHERE WHAT IT READS IS OF BULK AT MOST 1048576: true; the input reads as it did. -/
def fnExactDeepMostUptoRow : OpenClaim := { program := "ytncjfppdfkoeeaa", sum := "7aebe2369436fd6f8ea3fe8d2f93302fd665e8b221bfdb42c7e0a96fcf025d3f", func := "loop.example/containerport/laws.FnExactDeepMost", spec := "fnExactDeepMost", apart := false, narrowed := true }
def FnExactDeepMostUptoSaid : Prop := fnExactDeepMostUptoRow.holds Try.pinned (OpenSpec.upto fnExactDeepMostSpec)

/-- 'laws.FnExactNextDeep', WHERE WHAT IT READS IS OF BULK AT MOST 1048576: true; the input reads as it did. -/
def fnExactNextDeepUptoRow : OpenClaim := { program := "ytncjfppdfkoeeaa", sum := "7aebe2369436fd6f8ea3fe8d2f93302fd665e8b221bfdb42c7e0a96fcf025d3f", func := "loop.example/containerport/laws.FnExactNextDeep", spec := "fnExactNextDeep", apart := false, narrowed := true }
def FnExactNextDeepUptoSaid : Prop := fnExactNextDeepUptoRow.holds Try.pinned (OpenSpec.upto fnExactNextDeepSpec)

/-- 'laws.FnTideValid', WHERE WHAT IT READS IS OF BULK AT MOST 1048576: true; the input reads as it did. -/
def fnTideValidUptoRow : OpenClaim := { program := "ytncjfppdfkoeeaa", sum := "7aebe2369436fd6f8ea3fe8d2f93302fd665e8b221bfdb42c7e0a96fcf025d3f", func := "loop.example/containerport/laws.FnTideValid", spec := "fnTideValid", inPlace := ["internal/bytealg.IndexByteString"], apart := false, narrowed := true }
def FnTideValidUptoSaid : Prop := fnTideValidUptoRow.holds Try.pinned (OpenSpec.upto fnTideValidSpec)

/-- 'laws.FnDepthAt', WHERE WHAT IT READS IS OF BULK AT MOST 1048576: true; the input reads as it did. -/
def fnDepthAtUptoRow : OpenClaim := { program := "ytncjfppdfkoeeaa", sum := "7aebe2369436fd6f8ea3fe8d2f93302fd665e8b221bfdb42c7e0a96fcf025d3f", func := "loop.example/containerport/laws.FnDepthAt", spec := "fnDepthAt", inPlace := ["internal/bytealg.IndexByteString"], apart := false, narrowed := true }
def FnDepthAtUptoSaid : Prop := fnDepthAtUptoRow.holds Try.pinned (OpenSpec.upto fnDepthAtSpec)

/-- 'laws.FnDeepFor', WHERE WHAT IT READS IS OF BULK AT MOST 1048576: true; the input reads as it did. -/
def fnDeepForUptoRow : OpenClaim := { program := "ytncjfppdfkoeeaa", sum := "7aebe2369436fd6f8ea3fe8d2f93302fd665e8b221bfdb42c7e0a96fcf025d3f", func := "loop.example/containerport/laws.FnDeepFor", spec := "fnDeepFor", inPlace := ["internal/bytealg.IndexByteString"], apart := false, narrowed := true }
def FnDeepForUptoSaid : Prop := fnDeepForUptoRow.holds Try.pinned (OpenSpec.upto fnDeepForSpec)

/-- 'laws.FnDeepMost', WHERE WHAT IT READS IS OF BULK AT MOST 1048576: true; the input reads as it did. -/
def fnDeepMostUptoRow : OpenClaim := { program := "ytncjfppdfkoeeaa", sum := "7aebe2369436fd6f8ea3fe8d2f93302fd665e8b221bfdb42c7e0a96fcf025d3f", func := "loop.example/containerport/laws.FnDeepMost", spec := "fnDeepMost", inPlace := ["internal/bytealg.IndexByteString"], apart := false, narrowed := true }
def FnDeepMostUptoSaid : Prop := fnDeepMostUptoRow.holds Try.pinned (OpenSpec.upto fnDeepMostSpec)

/-- 'laws.FnNextDeep', WHERE WHAT IT READS IS OF BULK AT MOST 1048576: true; the input reads as it did. -/
def fnNextDeepUptoRow : OpenClaim := { program := "ytncjfppdfkoeeaa", sum := "7aebe2369436fd6f8ea3fe8d2f93302fd665e8b221bfdb42c7e0a96fcf025d3f", func := "loop.example/containerport/laws.FnNextDeep", spec := "fnNextDeep", inPlace := ["internal/bytealg.IndexByteString"], apart := false, narrowed := true }
def FnNextDeepUptoSaid : Prop := fnNextDeepUptoRow.holds Try.pinned (OpenSpec.upto fnNextDeepSpec)

end Rows
end Go.Proofs.Ytncjfppdfkoeeaa
