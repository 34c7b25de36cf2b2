/-
  No cell of these rows narrows 'for every input' (looked for: loops, veiled, ifaces, maps, wideKeys, modest, calm, conditions, laid).
  DERIVED. THE GIVEN ROWS OF THIS SEAT. 10 by the template 'for every input the law returns true; each argument reads behind the call as it read before'; 0 by the template 'total and deterministic' (their statements: YtjbocijckoaekaaTotals.lean).
  GIVEN WITH THE SEED: the statements are not yours to turn. If you find one false, say at which input.
  Laid BY PROGRAM, IN A SANDBOX (cutbox-rows.mjs): the forced cells as the released guide's own fill.sh prints them over the translation 4bc23511afdee0bf… (all of the seat's roots in one cut). By AI agents, Wed Nov 11 2026. No macro, syntax, notation, axiom, sorry.
-/
import Derived.Test.YtjbocijckoaekaaChecked
import GoSem.Claim
import GoSem.ClaimJoined
import GoSem.ClaimMapViews
import Derived.JoinedTies
import Derived.KernelRfl
namespace Go.Proofs.Ytjbocijckoaekaa
/- THE CELL 'sum', in the pinned program and in every row, IS THE sha256 OF THE DUMP (.gsa) THAT YtjbocijckoaekaaProg.lean LOADS. Nothing in Lean hashes anything: it is a label: what it is worth is what the hold of that sum in a sandbox is worth. -/
noncomputable def Try.pinned : Pinned := { name := "ytjbocijckoaekaa", sum := "4bc23511afdee0bff5ea0781fdc9461ff4773be9c5ccc6942e6efd8be8219a69", checked := Try.checked }
namespace Rows
def none {H : Type} : Left H := { results := [], args := [] }

/-- 'laws.FnExactShipsValid': WHATEVER THE INPUT: true; the input reads as it did. -/
def fnExactShipsValidSpec : ChangeSpec := { name := "fnExactShipsValid", fn := fun _ => fun
  | [d] => { results := [.lit (.bool true)], args := [d] }
  | _ => none }
def fnExactShipsValidRow : OpenClaim := { program := "ytjbocijckoaekaa", sum := "4bc23511afdee0bff5ea0781fdc9461ff4773be9c5ccc6942e6efd8be8219a69", func := "loop.example/containerport/laws.FnExactShipsValid", spec := "fnExactShipsValid", apart := false }
def FnExactShipsValidSaid : Prop := fnExactShipsValidRow.holds Try.pinned (OpenSpec.ofChange fnExactShipsValidSpec)

/-- ITS FALSE NEIGHBOUR: 'it returns false'. Refute it at one input. -/
def fnExactShipsValidWrong : ChangeSpec := { name := "fnExactShipsValid", fn := fun _ => fun
  | [d] => { results := [.lit (.bool false)], args := [d] }
  | _ => none }
def FnExactShipsValidWrongFalsely : Prop := fnExactShipsValidRow.holds Try.pinned (OpenSpec.ofChange fnExactShipsValidWrong)

/-- 'laws.FnExactStartHours': WHATEVER THE INPUT: true; the input reads as it did. -/
def fnExactStartHoursSpec : ChangeSpec := { name := "fnExactStartHours", fn := fun _ => fun
  | [d1, d2] => { results := [.lit (.bool true)], args := [d1, d2] }
  | _ => none }
def fnExactStartHoursRow : OpenClaim := { program := "ytjbocijckoaekaa", sum := "4bc23511afdee0bff5ea0781fdc9461ff4773be9c5ccc6942e6efd8be8219a69", func := "loop.example/containerport/laws.FnExactStartHours", spec := "fnExactStartHours", apart := false }
def FnExactStartHoursSaid : Prop := fnExactStartHoursRow.holds Try.pinned (OpenSpec.ofChange fnExactStartHoursSpec)

/-- ITS FALSE NEIGHBOUR: 'it returns false'. Refute it at one input. -/
def fnExactStartHoursWrong : ChangeSpec := { name := "fnExactStartHours", fn := fun _ => fun
  | [d1, d2] => { results := [.lit (.bool false)], args := [d1, d2] }
  | _ => none }
def FnExactStartHoursWrongFalsely : Prop := fnExactStartHoursRow.holds Try.pinned (OpenSpec.ofChange fnExactStartHoursWrong)

/-- 'laws.FnExactWaitOf': WHATEVER THE INPUT: true; the input reads as it did. -/
def fnExactWaitOfSpec : ChangeSpec := { name := "fnExactWaitOf", fn := fun _ => fun
  | [d1, d2] => { results := [.lit (.bool true)], args := [d1, d2] }
  | _ => none }
def fnExactWaitOfRow : OpenClaim := { program := "ytjbocijckoaekaa", sum := "4bc23511afdee0bff5ea0781fdc9461ff4773be9c5ccc6942e6efd8be8219a69", func := "loop.example/containerport/laws.FnExactWaitOf", spec := "fnExactWaitOf", apart := false }
def FnExactWaitOfSaid : Prop := fnExactWaitOfRow.holds Try.pinned (OpenSpec.ofChange fnExactWaitOfSpec)

/-- ITS FALSE NEIGHBOUR: 'it returns false'. Refute it at one input. -/
def fnExactWaitOfWrong : ChangeSpec := { name := "fnExactWaitOf", fn := fun _ => fun
  | [d1, d2] => { results := [.lit (.bool false)], args := [d1, d2] }
  | _ => none }
def FnExactWaitOfWrongFalsely : Prop := fnExactWaitOfRow.holds Try.pinned (OpenSpec.ofChange fnExactWaitOfWrong)

/-- 'laws.FnExactBestWait': WHATEVER THE INPUT: true; the input reads as it did. -/
def fnExactBestWaitSpec : ChangeSpec := { name := "fnExactBestWait", fn := fun _ => fun
  | [d] => { results := [.lit (.bool true)], args := [d] }
  | _ => none }
def fnExactBestWaitRow : OpenClaim := { program := "ytjbocijckoaekaa", sum := "4bc23511afdee0bff5ea0781fdc9461ff4773be9c5ccc6942e6efd8be8219a69", func := "loop.example/containerport/laws.FnExactBestWait", spec := "fnExactBestWait", unfollowed := true, recurses := true, apart := false }
def FnExactBestWaitSaid : Prop := fnExactBestWaitRow.holds Try.pinned (OpenSpec.ofChange fnExactBestWaitSpec)

/-- ITS FALSE NEIGHBOUR: 'it returns false'. Refute it at one input. -/
def fnExactBestWaitWrong : ChangeSpec := { name := "fnExactBestWait", fn := fun _ => fun
  | [d] => { results := [.lit (.bool false)], args := [d] }
  | _ => none }
def FnExactBestWaitWrongFalsely : Prop := fnExactBestWaitRow.holds Try.pinned (OpenSpec.ofChange fnExactBestWaitWrong)

/-- 'laws.FnExactComeOrder': WHATEVER THE INPUT: true; the input reads as it did. -/
def fnExactComeOrderSpec : ChangeSpec := { name := "fnExactComeOrder", fn := fun _ => fun
  | [d] => { results := [.lit (.bool true)], args := [d] }
  | _ => none }
def fnExactComeOrderRow : OpenClaim := { program := "ytjbocijckoaekaa", sum := "4bc23511afdee0bff5ea0781fdc9461ff4773be9c5ccc6942e6efd8be8219a69", func := "loop.example/containerport/laws.FnExactComeOrder", spec := "fnExactComeOrder", unfollowed := true, recurses := true, apart := false }
def FnExactComeOrderSaid : Prop := fnExactComeOrderRow.holds Try.pinned (OpenSpec.ofChange fnExactComeOrderSpec)

/-- ITS FALSE NEIGHBOUR: 'it returns false'. Refute it at one input. -/
def fnExactComeOrderWrong : ChangeSpec := { name := "fnExactComeOrder", fn := fun _ => fun
  | [d] => { results := [.lit (.bool false)], args := [d] }
  | _ => none }
def FnExactComeOrderWrongFalsely : Prop := fnExactComeOrderRow.holds Try.pinned (OpenSpec.ofChange fnExactComeOrderWrong)

/-- 'laws.FnShipsValid': WHATEVER THE INPUT: true; the input reads as it did. -/
def fnShipsValidSpec : ChangeSpec := { name := "fnShipsValid", fn := fun _ => fun
  | [d] => { results := [.lit (.bool true)], args := [d] }
  | _ => none }
def fnShipsValidRow : OpenClaim := { program := "ytjbocijckoaekaa", sum := "4bc23511afdee0bff5ea0781fdc9461ff4773be9c5ccc6942e6efd8be8219a69", func := "loop.example/containerport/laws.FnShipsValid", spec := "fnShipsValid", inPlace := ["internal/bytealg.IndexByteString"], apart := false }
def FnShipsValidSaid : Prop := fnShipsValidRow.holds Try.pinned (OpenSpec.ofChange fnShipsValidSpec)

/-- ITS FALSE NEIGHBOUR: 'it returns false'. Refute it at one input. -/
def fnShipsValidWrong : ChangeSpec := { name := "fnShipsValid", fn := fun _ => fun
  | [d] => { results := [.lit (.bool false)], args := [d] }
  | _ => none }
def FnShipsValidWrongFalsely : Prop := fnShipsValidRow.holds Try.pinned (OpenSpec.ofChange fnShipsValidWrong)

/-- 'laws.FnStartHours': WHATEVER THE INPUT: true; the input reads as it did. -/
def fnStartHoursSpec : ChangeSpec := { name := "fnStartHours", fn := fun _ => fun
  | [d] => { results := [.lit (.bool true)], args := [d] }
  | _ => none }
def fnStartHoursRow : OpenClaim := { program := "ytjbocijckoaekaa", sum := "4bc23511afdee0bff5ea0781fdc9461ff4773be9c5ccc6942e6efd8be8219a69", func := "loop.example/containerport/laws.FnStartHours", spec := "fnStartHours", inPlace := ["internal/bytealg.IndexByteString"], apart := false }
def FnStartHoursSaid : Prop := fnStartHoursRow.holds Try.pinned (OpenSpec.ofChange fnStartHoursSpec)

/-- ITS FALSE NEIGHBOUR: 'it returns false'. Refute it at one input. -/
def fnStartHoursWrong : ChangeSpec := { name := "fnStartHours", fn := fun _ => fun
  | [d] => { results := [.lit (.bool false)], args := [d] }
  | _ => none }
def FnStartHoursWrongFalsely : Prop := fnStartHoursRow.holds Try.pinned (OpenSpec.ofChange fnStartHoursWrong)

/-- 'laws.FnWaitOf': WHATEVER THE INPUT: true; the input reads as it did. -/
def fnWaitOfSpec : ChangeSpec := { name := "fnWaitOf", fn := fun _ => fun
  | [d] => { results := [.lit (.bool true)], args := [d] }
  | _ => none }
def fnWaitOfRow : OpenClaim := { program := "ytjbocijckoaekaa", sum := "4bc23511afdee0bff5ea0781fdc9461ff4773be9c5ccc6942e6efd8be8219a69", func := "loop.example/containerport/laws.FnWaitOf", spec := "fnWaitOf", inPlace := ["internal/bytealg.IndexByteString"], unfollowed := true, recurses := true, apart := false }
def FnWaitOfSaid : Prop := fnWaitOfRow.holds Try.pinned (OpenSpec.ofChange fnWaitOfSpec)

/-- ITS FALSE NEIGHBOUR: 'it returns false'. Refute it at one input. -/
def fnWaitOfWrong : ChangeSpec := { name := "fnWaitOf", fn := fun _ => fun
  | [d] => { results := [.lit (.bool false)], args := [d] }
  | _ => none }
def FnWaitOfWrongFalsely : Prop := fnWaitOfRow.holds Try.pinned (OpenSpec.ofChange fnWaitOfWrong)

/-- 'laws.FnBestWait': WHATEVER THE INPUT: true; the input reads as it did. -/
def fnBestWaitSpec : ChangeSpec := { name := "fnBestWait", fn := fun _ => fun
  | [d] => { results := [.lit (.bool true)], args := [d] }
  | _ => none }
def fnBestWaitRow : OpenClaim := { program := "ytjbocijckoaekaa", sum := "4bc23511afdee0bff5ea0781fdc9461ff4773be9c5ccc6942e6efd8be8219a69", func := "loop.example/containerport/laws.FnBestWait", spec := "fnBestWait", inPlace := ["internal/bytealg.IndexByteString"], unfollowed := true, recurses := true, apart := false }
def FnBestWaitSaid : Prop := fnBestWaitRow.holds Try.pinned (OpenSpec.ofChange fnBestWaitSpec)

/-- ITS FALSE NEIGHBOUR: 'it returns false'. Refute it at one input. -/
def fnBestWaitWrong : ChangeSpec := { name := "fnBestWait", fn := fun _ => fun
  | [d] => { results := [.lit (.bool false)], args := [d] }
  | _ => none }
def FnBestWaitWrongFalsely : Prop := fnBestWaitRow.holds Try.pinned (OpenSpec.ofChange fnBestWaitWrong)

/-- 'laws.FnComeOrder': WHATEVER THE INPUT: true; the input reads as it did. -/
def fnComeOrderSpec : ChangeSpec := { name := "fnComeOrder", fn := fun _ => fun
  | [d] => { results := [.lit (.bool true)], args := [d] }
  | _ => none }
def fnComeOrderRow : OpenClaim := { program := "ytjbocijckoaekaa", sum := "4bc23511afdee0bff5ea0781fdc9461ff4773be9c5ccc6942e6efd8be8219a69", func := "loop.example/containerport/laws.FnComeOrder", spec := "fnComeOrder", inPlace := ["internal/bytealg.IndexByteString"], unfollowed := true, recurses := true, apart := false }
def FnComeOrderSaid : Prop := fnComeOrderRow.holds Try.pinned (OpenSpec.ofChange fnComeOrderSpec)

/-- ITS FALSE NEIGHBOUR: 'it returns false'. Refute it at one input. -/
def fnComeOrderWrong : ChangeSpec := { name := "fnComeOrder", fn := fun _ => fun
  | [d] => { results := [.lit (.bool false)], args := [d] }
  | _ => none }
def FnComeOrderWrongFalsely : Prop := fnComeOrderRow.holds Try.pinned (OpenSpec.ofChange fnComeOrderWrong)

/- THE SECOND FORM. 'bulk': how many values and letters a reading holds, each counted each time it is reached (what is shared counts as often as it is met; a slice's spare places count too). A statement '..UptoSaid' is the law's where the arguments, and the package variables that the reading takes, are together of bulk at most 1048576: NARROWER than '..Said'. Prove '..Said' where nothing that the law and all that it calls make is longer than what came in: it says more and counts as full. Else prove '..UptoSaid'. A law counts once. -/
mutual
def uptoBulk {H : Type} : DataW H → Nat
  | .lit (.string bytes) => bytes.length + 1
  | .lit _ => 1
  | .nil => 1
  | .ptr d => uptoBulk d + 1
  | .slice elems spare => uptoBulkAll elems + uptoBulkAll spare + 1
  | .agg parts => uptoBulkAll parts + 1
  | .iface _ d => uptoBulk d + 1
  | .map entries => uptoBulkEntries entries + 1
  | .held _ => 1
def uptoBulkAll {H : Type} : List (DataW H) → Nat
  | [] => 0
  | d :: r => uptoBulk d + uptoBulkAll r
def uptoBulkEntries {H : Type} : List (Lit × DataW H) → Nat
  | [] => 0
  | x :: r => uptoBulkEntry x + uptoBulkEntries r
def uptoBulkEntry {H : Type} : Lit × DataW H → Nat
  | (.string bytes, d) => bytes.length + uptoBulk d + 1
  | (_, d) => uptoBulk d + 1
 end
def uptoSmall : (H : Type) → List (DataW H) → Bool := fun _ ds => decide (uptoBulkAll ds ≤ 1048576)
def OpenSpec.upto (s : _root_.Go.ChangeSpec) : _root_.Go.OpenSpec := { _root_.Go.OpenSpec.ofChange s with cond := some uptoSmall }

/-- 'laws.FnExactShipsValid', WHERE WHAT IT READS IS OF BULK AT MOST 1048576: true; the input reads as it did. -/
def fnExactShipsValidUptoRow : OpenClaim := { program := "ytjbocijckoaekaa", sum := "4bc23511afdee0bff5ea0781fdc9461ff4773be9c5ccc6942e6efd8be8219a69", func := "loop.example/containerport/laws.FnExactShipsValid", spec := "fnExactShipsValid", apart := false, narrowed := true }
def FnExactShipsValidUptoSaid : Prop := fnExactShipsValidUptoRow.holds Try.pinned (OpenSpec.upto fnExactShipsValidSpec)

/-- 'laws.FnExactStartHours', WHERE WHAT IT READS IS OF BULK AT MOST 1048576: true; the input reads as it did. -/
def fnExactStartHoursUptoRow : OpenClaim := { program := "ytjbocijckoaekaa", sum := "4bc23511afdee0bff5ea0781fdc9461ff4773be9c5ccc6942e6efd8be8219a69", func := "loop.example/containerport/laws.FnExactStartHours", spec := "fnExactStartHours", apart := false, narrowed := true }
def FnExactStartHoursUptoSaid : Prop := fnExactStartHoursUptoRow.holds Try.pinned (OpenSpec.upto fnExactStartHoursSpec)

/-- 'laws.FnExactWaitOf', WHERE WHAT IT READS IS OF BULK AT MOST 1048576: true; the input reads as it did. -/
def fnExactWaitOfUptoRow : OpenClaim := { program := "ytjbocijckoaekaa", sum := "4bc23511afdee0bff5ea0781fdc9461ff4773be9c5ccc6942e6efd8be8219a69", func := "loop.example/containerport/laws.FnExactWaitOf", spec := "fnExactWaitOf", apart := false, narrowed := true }
def FnExactWaitOfUptoSaid : Prop := fnExactWaitOfUptoRow.holds Try.pinned (OpenSpec.upto fnExactWaitOfSpec)

/-- 'laws.FnExactBestWait', WHERE WHAT IT READS IS OF BULK AT MOST 1048576: true; the input reads as it did. -/
def fnExactBestWaitUptoRow : OpenClaim := { program := "ytjbocijckoaekaa", sum := "4bc23511afdee0bff5ea0781fdc9461ff4773be9c5ccc6942e6efd8be8219a69", func := "loop.example/containerport/laws.FnExactBestWait", spec := "fnExactBestWait", unfollowed := true, recurses := true, apart := false, narrowed := true }
def FnExactBestWaitUptoSaid : Prop := fnExactBestWaitUptoRow.holds Try.pinned (OpenSpec.upto fnExactBestWaitSpec)

/-- 'laws.FnExactComeOrder', WHERE WHAT IT READS IS OF BULK AT MOST 1048576: true; the input reads as it did. -/
def fnExactComeOrderUptoRow : OpenClaim := { program := "ytjbocijckoaekaa", sum := "4bc23511afdee0bff5ea0781fdc9461ff4773be9c5ccc6942e6efd8be8219a69", func := "loop.example/containerport/laws.FnExactComeOrder", spec := "fnExactComeOrder", unfollowed := true, recurses := true, apart := false, narrowed := true }
def FnExactComeOrderUptoSaid : Prop := fnExactComeOrderUptoRow.holds Try.pinned (OpenSpec.upto fnExactComeOrderSpec)

/-- 'laws.FnShipsValid', WHERE WHAT IT READS IS OF BULK AT MOST 1048576: true; the input reads as it did. -/
def fnShipsValidUptoRow : OpenClaim := { program := "ytjbocijckoaekaa", sum := "4bc23511afdee0bff5ea0781fdc9461ff4773be9c5ccc6942e6efd8be8219a69", func := "loop.example/containerport/laws.FnShipsValid", spec := "fnShipsValid", inPlace := ["internal/bytealg.IndexByteString"], apart := false, narrowed := true }
def FnShipsValidUptoSaid : Prop := fnShipsValidUptoRow.holds Try.pinned (OpenSpec.upto fnShipsValidSpec)

/-- 'laws.FnStartHours', WHERE WHAT IT READS IS OF BULK AT MOST 1048576: true; the input reads as it did. -/
def fnStartHoursUptoRow : OpenClaim := { program := "ytjbocijckoaekaa", sum := "4bc23511afdee0bff5ea0781fdc9461ff4773be9c5ccc6942e6efd8be8219a69", func := "loop.example/containerport/laws.FnStartHours", spec := "fnStartHours", inPlace := ["internal/bytealg.IndexByteString"], apart := false, narrowed := true }
def FnStartHoursUptoSaid : Prop := fnStartHoursUptoRow.holds Try.pinned (OpenSpec.upto fnStartHoursSpec)

/-- 'laws.FnWaitOf', WHERE WHAT IT READS IS OF BULK AT MOST 1048576: true; the input reads as it did. -/
def fnWaitOfUptoRow : OpenClaim := { program := "ytjbocijckoaekaa", sum := "4bc23511afdee0bff5ea0781fdc9461ff4773be9c5ccc6942e6efd8be8219a69", func := "loop.example/containerport/laws.FnWaitOf", spec := "fnWaitOf", inPlace := ["internal/bytealg.IndexByteString"], unfollowed := true, recurses := true, apart := false, narrowed := true }
def FnWaitOfUptoSaid : Prop := fnWaitOfUptoRow.holds Try.pinned (OpenSpec.upto fnWaitOfSpec)

/-- 'laws.FnBestWait', WHERE WHAT IT READS IS OF BULK AT MOST 1048576: true; the input reads as it did. -/
def fnBestWaitUptoRow : OpenClaim := { program := "ytjbocijckoaekaa", sum := "4bc23511afdee0bff5ea0781fdc9461ff4773be9c5ccc6942e6efd8be8219a69", func := "loop.example/containerport/laws.FnBestWait", spec := "fnBestWait", inPlace := ["internal/bytealg.IndexByteString"], unfollowed := true, recurses := true, apart := false, narrowed := true }
def FnBestWaitUptoSaid : Prop := fnBestWaitUptoRow.holds Try.pinned (OpenSpec.upto fnBestWaitSpec)

/-- 'laws.FnComeOrder', WHERE WHAT IT READS IS OF BULK AT MOST 1048576: true; the input reads as it did. -/
def fnComeOrderUptoRow : OpenClaim := { program := "ytjbocijckoaekaa", sum := "4bc23511afdee0bff5ea0781fdc9461ff4773be9c5ccc6942e6efd8be8219a69", func := "loop.example/containerport/laws.FnComeOrder", spec := "fnComeOrder", inPlace := ["internal/bytealg.IndexByteString"], unfollowed := true, recurses := true, apart := false, narrowed := true }
def FnComeOrderUptoSaid : Prop := fnComeOrderUptoRow.holds Try.pinned (OpenSpec.upto fnComeOrderSpec)

end Rows
end Go.Proofs.Ytjbocijckoaekaa
