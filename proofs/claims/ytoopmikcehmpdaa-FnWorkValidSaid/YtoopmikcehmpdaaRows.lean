/-
  No cell of these rows narrows 'for every input' (looked for: loops, veiled, ifaces, maps, wideKeys, modest, calm, conditions, laid).
  DERIVED. THE GIVEN ROWS OF THIS SEAT. 8 by the template 'for every input the law returns true; each argument reads behind the call as it read before'; 0 by the template 'total and deterministic' (their statements: YtoopmikcehmpdaaTotals.lean).
  GIVEN WITH THE SEED: the statements are not yours to turn. If you find one false, say at which input.
  Laid BY PROGRAM, IN A SANDBOX (cutbox-rows.mjs): the forced cells as the released guide's own fill.sh prints them over the translation 56e5d618c9af3e33… (all of the seat's roots in one cut). By AI agents, Wed Nov 11 2026. No macro, syntax, notation, axiom, sorry.
-/
import Derived.Test.YtoopmikcehmpdaaChecked
import GoSem.Claim
import GoSem.ClaimJoined
import GoSem.ClaimMapViews
import Derived.JoinedTies
import Derived.KernelRfl
namespace Go.Proofs.Ytoopmikcehmpdaa
/- THE CELL 'sum', in the pinned program and in every row, IS THE sha256 OF THE DUMP (.gsa) THAT YtoopmikcehmpdaaProg.lean LOADS. Nothing in Lean hashes anything: it is a label: what it is worth is what the hold of that sum in a sandbox is worth. -/
noncomputable def Try.pinned : Pinned := { name := "ytoopmikcehmpdaa", sum := "56e5d618c9af3e33535751d473599a5728c9b0ac793dccb7eab3c880452b5a9f", checked := Try.checked }
namespace Rows
def none {H : Type} : Left H := { results := [], args := [] }

/-- 'laws.FnExactWorkValid': WHATEVER THE INPUT: true; the input reads as it did. -/
def fnExactWorkValidSpec : ChangeSpec := { name := "fnExactWorkValid", fn := fun _ => fun
  | [d] => { results := [.lit (.bool true)], args := [d] }
  | _ => none }
def fnExactWorkValidRow : OpenClaim := { program := "ytoopmikcehmpdaa", sum := "56e5d618c9af3e33535751d473599a5728c9b0ac793dccb7eab3c880452b5a9f", func := "loop.example/containerport/laws.FnExactWorkValid", spec := "fnExactWorkValid", apart := false }
def FnExactWorkValidSaid : Prop := fnExactWorkValidRow.holds Try.pinned (OpenSpec.ofChange fnExactWorkValidSpec)

/-- ITS FALSE NEIGHBOUR: 'it returns false'. Refute it at one input. -/
def fnExactWorkValidWrong : ChangeSpec := { name := "fnExactWorkValid", fn := fun _ => fun
  | [d] => { results := [.lit (.bool false)], args := [d] }
  | _ => none }
def FnExactWorkValidWrongFalsely : Prop := fnExactWorkValidRow.holds Try.pinned (OpenSpec.ofChange fnExactWorkValidWrong)

/-- 'laws.FnExactShareSums': WHATEVER THE INPUT: true; the input reads as it did. -/
def fnExactShareSumsSpec : ChangeSpec := { name := "fnExactShareSums", fn := fun _ => fun
  | [d1, d2] => { results := [.lit (.bool true)], args := [d1, d2] }
  | _ => none }
def fnExactShareSumsRow : OpenClaim := { program := "ytoopmikcehmpdaa", sum := "56e5d618c9af3e33535751d473599a5728c9b0ac793dccb7eab3c880452b5a9f", func := "loop.example/containerport/laws.FnExactShareSums", spec := "fnExactShareSums", apart := false }
def FnExactShareSumsSaid : Prop := fnExactShareSumsRow.holds Try.pinned (OpenSpec.ofChange fnExactShareSumsSpec)

/-- ITS FALSE NEIGHBOUR: 'it returns false'. Refute it at one input. -/
def fnExactShareSumsWrong : ChangeSpec := { name := "fnExactShareSums", fn := fun _ => fun
  | [d1, d2] => { results := [.lit (.bool false)], args := [d1, d2] }
  | _ => none }
def FnExactShareSumsWrongFalsely : Prop := fnExactShareSumsRow.holds Try.pinned (OpenSpec.ofChange fnExactShareSumsWrong)

/-- 'laws.FnExactGreatestShare': WHATEVER THE INPUT: true; the input reads as it did. -/
def fnExactGreatestShareSpec : ChangeSpec := { name := "fnExactGreatestShare", fn := fun _ => fun
  | [d1, d2] => { results := [.lit (.bool true)], args := [d1, d2] }
  | _ => none }
def fnExactGreatestShareRow : OpenClaim := { program := "ytoopmikcehmpdaa", sum := "56e5d618c9af3e33535751d473599a5728c9b0ac793dccb7eab3c880452b5a9f", func := "loop.example/containerport/laws.FnExactGreatestShare", spec := "fnExactGreatestShare", apart := false }
def FnExactGreatestShareSaid : Prop := fnExactGreatestShareRow.holds Try.pinned (OpenSpec.ofChange fnExactGreatestShareSpec)

/-- ITS FALSE NEIGHBOUR: 'it returns false'. Refute it at one input. -/
def fnExactGreatestShareWrong : ChangeSpec := { name := "fnExactGreatestShare", fn := fun _ => fun
  | [d1, d2] => { results := [.lit (.bool false)], args := [d1, d2] }
  | _ => none }
def FnExactGreatestShareWrongFalsely : Prop := fnExactGreatestShareRow.holds Try.pinned (OpenSpec.ofChange fnExactGreatestShareWrong)

/-- 'laws.FnExactBestShares': WHATEVER THE INPUT: true; the input reads as it did. -/
def fnExactBestSharesSpec : ChangeSpec := { name := "fnExactBestShares", fn := fun _ => fun
  | [d1, d2] => { results := [.lit (.bool true)], args := [d1, d2] }
  | _ => none }
def fnExactBestSharesRow : OpenClaim := { program := "ytoopmikcehmpdaa", sum := "56e5d618c9af3e33535751d473599a5728c9b0ac793dccb7eab3c880452b5a9f", func := "loop.example/containerport/laws.FnExactBestShares", spec := "fnExactBestShares", recurses := true, apart := false }
def FnExactBestSharesSaid : Prop := fnExactBestSharesRow.holds Try.pinned (OpenSpec.ofChange fnExactBestSharesSpec)

/-- ITS FALSE NEIGHBOUR: 'it returns false'. Refute it at one input. -/
def fnExactBestSharesWrong : ChangeSpec := { name := "fnExactBestShares", fn := fun _ => fun
  | [d1, d2] => { results := [.lit (.bool false)], args := [d1, d2] }
  | _ => none }
def FnExactBestSharesWrongFalsely : Prop := fnExactBestSharesRow.holds Try.pinned (OpenSpec.ofChange fnExactBestSharesWrong)

/-- 'laws.FnWorkValid': WHATEVER THE INPUT: true; the input reads as it did. -/
def fnWorkValidSpec : ChangeSpec := { name := "fnWorkValid", fn := fun _ => fun
  | [d] => { results := [.lit (.bool true)], args := [d] }
  | _ => none }
def fnWorkValidRow : OpenClaim := { program := "ytoopmikcehmpdaa", sum := "56e5d618c9af3e33535751d473599a5728c9b0ac793dccb7eab3c880452b5a9f", func := "loop.example/containerport/laws.FnWorkValid", spec := "fnWorkValid", inPlace := ["internal/bytealg.IndexByteString"], apart := false }
def FnWorkValidSaid : Prop := fnWorkValidRow.holds Try.pinned (OpenSpec.ofChange fnWorkValidSpec)

/-- ITS FALSE NEIGHBOUR: 'it returns false'. Refute it at one input. -/
def fnWorkValidWrong : ChangeSpec := { name := "fnWorkValid", fn := fun _ => fun
  | [d] => { results := [.lit (.bool false)], args := [d] }
  | _ => none }
def FnWorkValidWrongFalsely : Prop := fnWorkValidRow.holds Try.pinned (OpenSpec.ofChange fnWorkValidWrong)

/-- 'laws.FnShareSums': WHATEVER THE INPUT: true; the input reads as it did. -/
def fnShareSumsSpec : ChangeSpec := { name := "fnShareSums", fn := fun _ => fun
  | [d] => { results := [.lit (.bool true)], args := [d] }
  | _ => none }
def fnShareSumsRow : OpenClaim := { program := "ytoopmikcehmpdaa", sum := "56e5d618c9af3e33535751d473599a5728c9b0ac793dccb7eab3c880452b5a9f", func := "loop.example/containerport/laws.FnShareSums", spec := "fnShareSums", inPlace := ["internal/bytealg.IndexByteString"], apart := false }
def FnShareSumsSaid : Prop := fnShareSumsRow.holds Try.pinned (OpenSpec.ofChange fnShareSumsSpec)

/-- ITS FALSE NEIGHBOUR: 'it returns false'. Refute it at one input. -/
def fnShareSumsWrong : ChangeSpec := { name := "fnShareSums", fn := fun _ => fun
  | [d] => { results := [.lit (.bool false)], args := [d] }
  | _ => none }
def FnShareSumsWrongFalsely : Prop := fnShareSumsRow.holds Try.pinned (OpenSpec.ofChange fnShareSumsWrong)

/-- 'laws.FnGreatestShare': WHATEVER THE INPUT: true; the input reads as it did. -/
def fnGreatestShareSpec : ChangeSpec := { name := "fnGreatestShare", fn := fun _ => fun
  | [d] => { results := [.lit (.bool true)], args := [d] }
  | _ => none }
def fnGreatestShareRow : OpenClaim := { program := "ytoopmikcehmpdaa", sum := "56e5d618c9af3e33535751d473599a5728c9b0ac793dccb7eab3c880452b5a9f", func := "loop.example/containerport/laws.FnGreatestShare", spec := "fnGreatestShare", inPlace := ["internal/bytealg.IndexByteString"], apart := false }
def FnGreatestShareSaid : Prop := fnGreatestShareRow.holds Try.pinned (OpenSpec.ofChange fnGreatestShareSpec)

/-- ITS FALSE NEIGHBOUR: 'it returns false'. Refute it at one input. -/
def fnGreatestShareWrong : ChangeSpec := { name := "fnGreatestShare", fn := fun _ => fun
  | [d] => { results := [.lit (.bool false)], args := [d] }
  | _ => none }
def FnGreatestShareWrongFalsely : Prop := fnGreatestShareRow.holds Try.pinned (OpenSpec.ofChange fnGreatestShareWrong)

/-- 'laws.FnBestShares': WHATEVER THE INPUT: true; the input reads as it did. -/
def fnBestSharesSpec : ChangeSpec := { name := "fnBestShares", fn := fun _ => fun
  | [d] => { results := [.lit (.bool true)], args := [d] }
  | _ => none }
def fnBestSharesRow : OpenClaim := { program := "ytoopmikcehmpdaa", sum := "56e5d618c9af3e33535751d473599a5728c9b0ac793dccb7eab3c880452b5a9f", func := "loop.example/containerport/laws.FnBestShares", spec := "fnBestShares", inPlace := ["internal/bytealg.IndexByteString"], recurses := true, apart := false }
def FnBestSharesSaid : Prop := fnBestSharesRow.holds Try.pinned (OpenSpec.ofChange fnBestSharesSpec)

/-- ITS FALSE NEIGHBOUR: 'it returns false'. Refute it at one input. -/
def fnBestSharesWrong : ChangeSpec := { name := "fnBestShares", fn := fun _ => fun
  | [d] => { results := [.lit (.bool false)], args := [d] }
  | _ => none }
def FnBestSharesWrongFalsely : Prop := fnBestSharesRow.holds Try.pinned (OpenSpec.ofChange fnBestSharesWrong)

/- THE SECOND FORM. 'bulk': how many values and letters a reading holds, each counted each time it is reached (what is shared counts as often as it is met; a slice's spare places count too). A statement '..UptoSaid' is the law's where the arguments, and the package variables that the reading takes, are together of bulk at most 1048576: NARROWER than '..Said'. Prove '..Said' where nothing that the law and all that it calls make is longer than what came in: it says more and counts as full. Else prove '..UptoSaid'. A law counts once. -/
mutual
def uptoBulk {H : Type} : DataW H → Nat
  | .lit (.string bytes) => bytes.length + 1
  | .lit _ => 1
  | .nil => 1
  | .ptr d => uptoBulk d + 1
  | .slice elems spare => uptoBulkAll elems + uptoBulkAll spare + 1
  | .agg parts => uptoBulkAll parts + 1
  | .iface _ d => uptoBulk d + 1
  | .map entries => uptoBulkEntries entries + 1
  | .held _ => 1
def uptoBulkAll {H : Type} : List (DataW H) → Nat
  | [] => 0
  | d :: r => uptoBulk d + uptoBulkAll r
def uptoBulkEntries {H : Type} : List (Lit × DataW H) → Nat
  | [] => 0
  | x :: r => uptoBulkEntry x + uptoBulkEntries r
def uptoBulkEntry {H : Type} : Lit × DataW H → Nat
  | (.string bytes, d) => bytes.length + uptoBulk d + 1
  | (_, d) => uptoBulk d + 1
 end
def uptoSmall : (H : Type) → List (DataW H) → Bool := fun _ ds => decide (uptoBulkAll ds ≤ 1048576)
def OpenSpec.upto (s : _root_.Go.ChangeSpec) : _root_.Go.OpenSpec := { _root_.Go.OpenSpec.ofChange s with cond := some uptoSmall }

/-- 'laws.FnExactWorkValid', WHERE WHAT IT READS IS OF BULK AT MOST 1048576: true; the input reads as it did. -/
def fnExactWorkValidUptoRow : OpenClaim := { program := "ytoopmikcehmpdaa", sum := "56e5d618c9af3e33535751d473599a5728c9b0ac793dccb7eab3c880452b5a9f", func := "loop.example/containerport/laws.FnExactWorkValid", spec := "fnExactWorkValid", apart := false, narrowed := true }
def FnExactWorkValidUptoSaid : Prop := fnExactWorkValidUptoRow.holds Try.pinned (OpenSpec.upto fnExactWorkValidSpec)

/-- 'laws.FnExactShareSums', WHERE WHAT IT READS IS OF BULK AT MOST 1048576: true; the input reads as it did. -/
def fnExactShareSumsUptoRow : OpenClaim := { program := "ytoopmikcehmpdaa", sum := "56e5d618c9af3e33535751d473599a5728c9b0ac793dccb7eab3c880452b5a9f", func := "loop.example/containerport/laws.FnExactShareSums", spec := "fnExactShareSums", apart := false, narrowed := true }
def FnExactShareSumsUptoSaid : Prop := fnExactShareSumsUptoRow.holds Try.pinned (OpenSpec.upto fnExactShareSumsSpec)

/-- 'laws.FnExactGreatestShare', WHERE WHAT IT READS IS OF BULK AT MOST 1048576: true; the input reads as it did. -/
def fnExactGreatestShareUptoRow : OpenClaim := { program := "ytoopmikcehmpdaa", sum := "56e5d618c9af3e33535751d473599a5728c9b0ac793dccb7eab3c880452b5a9f", func := "loop.example/containerport/laws.FnExactGreatestShare", spec := "fnExactGreatestShare", apart := false, narrowed := true }
def FnExactGreatestShareUptoSaid : Prop := fnExactGreatestShareUptoRow.holds Try.pinned (OpenSpec.upto fnExactGreatestShareSpec)

/-- 'laws.FnExactBestShares', WHERE WHAT IT READS IS OF BULK AT MOST 1048576: true; the input reads as it did. -/
def fnExactBestSharesUptoRow : OpenClaim := { program := "ytoopmikcehmpdaa", sum := "56e5d618c9af3e33535751d473599a5728c9b0ac793dccb7eab3c880452b5a9f", func := "loop.example/containerport/laws.FnExactBestShares", spec := "fnExactBestShares", recurses := true, apart := false, narrowed := true }
def FnExactBestSharesUptoSaid : Prop := fnExactBestSharesUptoRow.holds Try.pinned (OpenSpec.upto fnExactBestSharesSpec)

/-- 'laws.FnWorkValid', WHERE WHAT IT READS IS OF BULK AT MOST 1048576: true; the input reads as it did. -/
def fnWorkValidUptoRow : OpenClaim := { program := "ytoopmikcehmpdaa", sum := "56e5d618c9af3e33535751d473599a5728c9b0ac793dccb7eab3c880452b5a9f", func := "loop.example/containerport/laws.FnWorkValid", spec := "fnWorkValid", inPlace := ["internal/bytealg.IndexByteString"], apart := false, narrowed := true }
def FnWorkValidUptoSaid : Prop := fnWorkValidUptoRow.holds Try.pinned (OpenSpec.upto fnWorkValidSpec)

/-- 'laws.FnShareSums', WHERE WHAT IT READS IS OF BULK AT MOST 1048576: true; the input reads as it did. -/
def fnShareSumsUptoRow : OpenClaim := { program := "ytoopmikcehmpdaa", sum := "56e5d618c9af3e33535751d473599a5728c9b0ac793dccb7eab3c880452b5a9f", func := "loop.example/containerport/laws.FnShareSums", spec := "fnShareSums", inPlace := ["internal/bytealg.IndexByteString"], apart := false, narrowed := true }
def FnShareSumsUptoSaid : Prop := fnShareSumsUptoRow.holds Try.pinned (OpenSpec.upto fnShareSumsSpec)

/-- 'laws.FnGreatestShare', WHERE WHAT IT READS IS OF BULK AT MOST 1048576: true; the input reads as it did. -/
def fnGreatestShareUptoRow : OpenClaim := { program := "ytoopmikcehmpdaa", sum := "56e5d618c9af3e33535751d473599a5728c9b0ac793dccb7eab3c880452b5a9f", func := "loop.example/containerport/laws.FnGreatestShare", spec := "fnGreatestShare", inPlace := ["internal/bytealg.IndexByteString"], apart := false, narrowed := true }
def FnGreatestShareUptoSaid : Prop := fnGreatestShareUptoRow.holds Try.pinned (OpenSpec.upto fnGreatestShareSpec)

/-- 'laws.FnBestShares', WHERE WHAT IT READS IS OF BULK AT MOST 1048576: true; the input reads as it did. -/
def fnBestSharesUptoRow : OpenClaim := { program := "ytoopmikcehmpdaa", sum := "56e5d618c9af3e33535751d473599a5728c9b0ac793dccb7eab3c880452b5a9f", func := "loop.example/containerport/laws.FnBestShares", spec := "fnBestShares", inPlace := ["internal/bytealg.IndexByteString"], recurses := true, apart := false, narrowed := true }
def FnBestSharesUptoSaid : Prop := fnBestSharesUptoRow.holds Try.pinned (OpenSpec.upto fnBestSharesSpec)

end Rows
end Go.Proofs.Ytoopmikcehmpdaa
