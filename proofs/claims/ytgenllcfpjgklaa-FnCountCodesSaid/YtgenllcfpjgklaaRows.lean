/-
  No cell of these rows narrows 'for every input' (looked for: loops, veiled, ifaces, maps, wideKeys, modest, calm, conditions, laid).
  DERIVED. THE GIVEN ROWS OF THIS SEAT. 13 by the template 'for every input the law returns true; each argument reads behind the call as it read before'; 0 by the template 'total and deterministic' (their statements: YtgenllcfpjgklaaTotals.lean).
  GIVEN WITH THE SEED: the statements are not yours to turn. If you find one false, say at which input.
  Laid BY PROGRAM, IN A SANDBOX (cutbox-rows.mjs): the forced cells as the released guide's own fill.sh prints them over the translation 06593dee752fb1ff… (all of the seat's roots in one cut). By AI agents, Wed Nov 11 2026. No macro, syntax, notation, axiom, sorry.
-/
import Derived.Test.YtgenllcfpjgklaaChecked
import GoSem.Claim
import GoSem.ClaimJoined
import GoSem.ClaimMapViews
import Derived.JoinedTies
import Derived.KernelRfl
namespace Go.Proofs.Ytgenllcfpjgklaa
/- THE CELL 'sum', in the pinned program and in every row, IS THE sha256 OF THE DUMP (.gsa) THAT YtgenllcfpjgklaaProg.lean LOADS. Nothing in Lean hashes anything: it is a label: what it is worth is what the hold of that sum in a sandbox is worth. -/
noncomputable def Try.pinned : Pinned := { name := "ytgenllcfpjgklaa", sum := "06593dee752fb1ffad6dc05e1a5cde1709df2404f6c53cf8e909d2f200b370c2", checked := Try.checked }
namespace Rows
def none {H : Type} : Left H := { results := [], args := [] }

/-- 'laws.FnRulesAllow': WHATEVER THE INPUT: true; the input reads as it did. -/
def fnRulesAllowSpec : ChangeSpec := { name := "fnRulesAllow", fn := fun _ => fun
  | [d] => { results := [.lit (.bool true)], args := [d] }
  | _ => none }
def fnRulesAllowRow : OpenClaim := { program := "ytgenllcfpjgklaa", sum := "06593dee752fb1ffad6dc05e1a5cde1709df2404f6c53cf8e909d2f200b370c2", func := "loop.example/graphcode/laws.FnRulesAllow", spec := "fnRulesAllow", unfollowed := true, recurses := true, apart := false }
def FnRulesAllowSaid : Prop := fnRulesAllowRow.holds Try.pinned (OpenSpec.ofChange fnRulesAllowSpec)

/-- ITS FALSE NEIGHBOUR: 'it returns false'. Refute it at one input. -/
def fnRulesAllowWrong : ChangeSpec := { name := "fnRulesAllow", fn := fun _ => fun
  | [d] => { results := [.lit (.bool false)], args := [d] }
  | _ => none }
def FnRulesAllowWrongFalsely : Prop := fnRulesAllowRow.holds Try.pinned (OpenSpec.ofChange fnRulesAllowWrong)

/-- 'laws.FnValidOps': WHATEVER THE INPUT: true; the input reads as it did. -/
def fnValidOpsSpec : ChangeSpec := { name := "fnValidOps", fn := fun _ => fun
  | [d] => { results := [.lit (.bool true)], args := [d] }
  | _ => none }
def fnValidOpsRow : OpenClaim := { program := "ytgenllcfpjgklaa", sum := "06593dee752fb1ffad6dc05e1a5cde1709df2404f6c53cf8e909d2f200b370c2", func := "loop.example/graphcode/laws.FnValidOps", spec := "fnValidOps", recurses := true, apart := false }
def FnValidOpsSaid : Prop := fnValidOpsRow.holds Try.pinned (OpenSpec.ofChange fnValidOpsSpec)

/-- ITS FALSE NEIGHBOUR: 'it returns false'. Refute it at one input. -/
def fnValidOpsWrong : ChangeSpec := { name := "fnValidOps", fn := fun _ => fun
  | [d] => { results := [.lit (.bool false)], args := [d] }
  | _ => none }
def FnValidOpsWrongFalsely : Prop := fnValidOpsRow.holds Try.pinned (OpenSpec.ofChange fnValidOpsWrong)

/-- 'laws.FnValidMachine': WHATEVER THE INPUT: true; the input reads as it did. -/
def fnValidMachineSpec : ChangeSpec := { name := "fnValidMachine", fn := fun _ => fun
  | [d] => { results := [.lit (.bool true)], args := [d] }
  | _ => none }
def fnValidMachineRow : OpenClaim := { program := "ytgenllcfpjgklaa", sum := "06593dee752fb1ffad6dc05e1a5cde1709df2404f6c53cf8e909d2f200b370c2", func := "loop.example/graphcode/laws.FnValidMachine", spec := "fnValidMachine", apart := false }
def FnValidMachineSaid : Prop := fnValidMachineRow.holds Try.pinned (OpenSpec.ofChange fnValidMachineSpec)

/-- ITS FALSE NEIGHBOUR: 'it returns false'. Refute it at one input. -/
def fnValidMachineWrong : ChangeSpec := { name := "fnValidMachine", fn := fun _ => fun
  | [d] => { results := [.lit (.bool false)], args := [d] }
  | _ => none }
def FnValidMachineWrongFalsely : Prop := fnValidMachineRow.holds Try.pinned (OpenSpec.ofChange fnValidMachineWrong)

/-- 'laws.FnIsShort': WHATEVER THE INPUT: true; the input reads as it did. -/
def fnIsShortSpec : ChangeSpec := { name := "fnIsShort", fn := fun _ => fun
  | [d] => { results := [.lit (.bool true)], args := [d] }
  | _ => none }
def fnIsShortRow : OpenClaim := { program := "ytgenllcfpjgklaa", sum := "06593dee752fb1ffad6dc05e1a5cde1709df2404f6c53cf8e909d2f200b370c2", func := "loop.example/graphcode/laws.FnIsShort", spec := "fnIsShort", unfollowed := true, recurses := true, apart := false }
def FnIsShortSaid : Prop := fnIsShortRow.holds Try.pinned (OpenSpec.ofChange fnIsShortSpec)

/-- ITS FALSE NEIGHBOUR: 'it returns false'. Refute it at one input. -/
def fnIsShortWrong : ChangeSpec := { name := "fnIsShort", fn := fun _ => fun
  | [d] => { results := [.lit (.bool false)], args := [d] }
  | _ => none }
def FnIsShortWrongFalsely : Prop := fnIsShortRow.holds Try.pinned (OpenSpec.ofChange fnIsShortWrong)

/-- 'laws.FnCountCodes': WHATEVER THE INPUT: true; the input reads as it did. -/
def fnCountCodesSpec : ChangeSpec := { name := "fnCountCodes", fn := fun _ => fun
  | [d] => { results := [.lit (.bool true)], args := [d] }
  | _ => none }
def fnCountCodesRow : OpenClaim := { program := "ytgenllcfpjgklaa", sum := "06593dee752fb1ffad6dc05e1a5cde1709df2404f6c53cf8e909d2f200b370c2", func := "loop.example/graphcode/laws.FnCountCodes", spec := "fnCountCodes", recurses := true, apart := false }
def FnCountCodesSaid : Prop := fnCountCodesRow.holds Try.pinned (OpenSpec.ofChange fnCountCodesSpec)

/-- ITS FALSE NEIGHBOUR: 'it returns false'. Refute it at one input. -/
def fnCountCodesWrong : ChangeSpec := { name := "fnCountCodes", fn := fun _ => fun
  | [d] => { results := [.lit (.bool false)], args := [d] }
  | _ => none }
def FnCountCodesWrongFalsely : Prop := fnCountCodesRow.holds Try.pinned (OpenSpec.ofChange fnCountCodesWrong)

/-- 'laws.FnSizeOf': WHATEVER THE INPUT: true; the input reads as it did. -/
def fnSizeOfSpec : ChangeSpec := { name := "fnSizeOf", fn := fun _ => fun
  | [d] => { results := [.lit (.bool true)], args := [d] }
  | _ => none }
def fnSizeOfRow : OpenClaim := { program := "ytgenllcfpjgklaa", sum := "06593dee752fb1ffad6dc05e1a5cde1709df2404f6c53cf8e909d2f200b370c2", func := "loop.example/graphcode/laws.FnSizeOf", spec := "fnSizeOf", recurses := true, apart := false }
def FnSizeOfSaid : Prop := fnSizeOfRow.holds Try.pinned (OpenSpec.ofChange fnSizeOfSpec)

/-- ITS FALSE NEIGHBOUR: 'it returns false'. Refute it at one input. -/
def fnSizeOfWrong : ChangeSpec := { name := "fnSizeOf", fn := fun _ => fun
  | [d] => { results := [.lit (.bool false)], args := [d] }
  | _ => none }
def FnSizeOfWrongFalsely : Prop := fnSizeOfRow.holds Try.pinned (OpenSpec.ofChange fnSizeOfWrong)

/-- 'laws.FnPlacesOf': WHATEVER THE INPUT: true; the input reads as it did. -/
def fnPlacesOfSpec : ChangeSpec := { name := "fnPlacesOf", fn := fun _ => fun
  | [d] => { results := [.lit (.bool true)], args := [d] }
  | _ => none }
def fnPlacesOfRow : OpenClaim := { program := "ytgenllcfpjgklaa", sum := "06593dee752fb1ffad6dc05e1a5cde1709df2404f6c53cf8e909d2f200b370c2", func := "loop.example/graphcode/laws.FnPlacesOf", spec := "fnPlacesOf", recurses := true, apart := false }
def FnPlacesOfSaid : Prop := fnPlacesOfRow.holds Try.pinned (OpenSpec.ofChange fnPlacesOfSpec)

/-- ITS FALSE NEIGHBOUR: 'it returns false'. Refute it at one input. -/
def fnPlacesOfWrong : ChangeSpec := { name := "fnPlacesOf", fn := fun _ => fun
  | [d] => { results := [.lit (.bool false)], args := [d] }
  | _ => none }
def FnPlacesOfWrongFalsely : Prop := fnPlacesOfRow.holds Try.pinned (OpenSpec.ofChange fnPlacesOfWrong)

/-- 'laws.FnEncodeOpsJoin': WHATEVER THE INPUT: true; the input reads as it did. -/
def fnEncodeOpsJoinSpec : ChangeSpec := { name := "fnEncodeOpsJoin", fn := fun _ => fun
  | [d] => { results := [.lit (.bool true)], args := [d] }
  | _ => none }
def fnEncodeOpsJoinRow : OpenClaim := { program := "ytgenllcfpjgklaa", sum := "06593dee752fb1ffad6dc05e1a5cde1709df2404f6c53cf8e909d2f200b370c2", func := "loop.example/graphcode/laws.FnEncodeOpsJoin", spec := "fnEncodeOpsJoin", recurses := true, apart := false }
def FnEncodeOpsJoinSaid : Prop := fnEncodeOpsJoinRow.holds Try.pinned (OpenSpec.ofChange fnEncodeOpsJoinSpec)

/-- ITS FALSE NEIGHBOUR: 'it returns false'. Refute it at one input. -/
def fnEncodeOpsJoinWrong : ChangeSpec := { name := "fnEncodeOpsJoin", fn := fun _ => fun
  | [d] => { results := [.lit (.bool false)], args := [d] }
  | _ => none }
def FnEncodeOpsJoinWrongFalsely : Prop := fnEncodeOpsJoinRow.holds Try.pinned (OpenSpec.ofChange fnEncodeOpsJoinWrong)

/-- 'laws.FnEncodeOps': WHATEVER THE INPUT: true; the input reads as it did. -/
def fnEncodeOpsSpec : ChangeSpec := { name := "fnEncodeOps", fn := fun _ => fun
  | [d] => { results := [.lit (.bool true)], args := [d] }
  | _ => none }
def fnEncodeOpsRow : OpenClaim := { program := "ytgenllcfpjgklaa", sum := "06593dee752fb1ffad6dc05e1a5cde1709df2404f6c53cf8e909d2f200b370c2", func := "loop.example/graphcode/laws.FnEncodeOps", spec := "fnEncodeOps", unfollowed := true, recurses := true, apart := false }
def FnEncodeOpsSaid : Prop := fnEncodeOpsRow.holds Try.pinned (OpenSpec.ofChange fnEncodeOpsSpec)

/-- ITS FALSE NEIGHBOUR: 'it returns false'. Refute it at one input. -/
def fnEncodeOpsWrong : ChangeSpec := { name := "fnEncodeOps", fn := fun _ => fun
  | [d] => { results := [.lit (.bool false)], args := [d] }
  | _ => none }
def FnEncodeOpsWrongFalsely : Prop := fnEncodeOpsRow.holds Try.pinned (OpenSpec.ofChange fnEncodeOpsWrong)

/-- 'laws.FnSplitStops': WHATEVER THE INPUT: true; the input reads as it did. -/
def fnSplitStopsSpec : ChangeSpec := { name := "fnSplitStops", fn := fun _ => fun
  | [d] => { results := [.lit (.bool true)], args := [d] }
  | _ => none }
def fnSplitStopsRow : OpenClaim := { program := "ytgenllcfpjgklaa", sum := "06593dee752fb1ffad6dc05e1a5cde1709df2404f6c53cf8e909d2f200b370c2", func := "loop.example/graphcode/laws.FnSplitStops", spec := "fnSplitStops", recurses := true, apart := false }
def FnSplitStopsSaid : Prop := fnSplitStopsRow.holds Try.pinned (OpenSpec.ofChange fnSplitStopsSpec)

/-- ITS FALSE NEIGHBOUR: 'it returns false'. Refute it at one input. -/
def fnSplitStopsWrong : ChangeSpec := { name := "fnSplitStops", fn := fun _ => fun
  | [d] => { results := [.lit (.bool false)], args := [d] }
  | _ => none }
def FnSplitStopsWrongFalsely : Prop := fnSplitStopsRow.holds Try.pinned (OpenSpec.ofChange fnSplitStopsWrong)

/-- 'laws.FnFrameBytes': WHATEVER THE INPUT: true; the input reads as it did. -/
def fnFrameBytesSpec : ChangeSpec := { name := "fnFrameBytes", fn := fun _ => fun
  | [d] => { results := [.lit (.bool true)], args := [d] }
  | _ => none }
def fnFrameBytesRow : OpenClaim := { program := "ytgenllcfpjgklaa", sum := "06593dee752fb1ffad6dc05e1a5cde1709df2404f6c53cf8e909d2f200b370c2", func := "loop.example/graphcode/laws.FnFrameBytes", spec := "fnFrameBytes", unfollowed := true, recurses := true, apart := false }
def FnFrameBytesSaid : Prop := fnFrameBytesRow.holds Try.pinned (OpenSpec.ofChange fnFrameBytesSpec)

/-- ITS FALSE NEIGHBOUR: 'it returns false'. Refute it at one input. -/
def fnFrameBytesWrong : ChangeSpec := { name := "fnFrameBytes", fn := fun _ => fun
  | [d] => { results := [.lit (.bool false)], args := [d] }
  | _ => none }
def FnFrameBytesWrongFalsely : Prop := fnFrameBytesRow.holds Try.pinned (OpenSpec.ofChange fnFrameBytesWrong)

/-- 'laws.FnUnframeTorn': WHATEVER THE INPUT: true; the input reads as it did. -/
def fnUnframeTornSpec : ChangeSpec := { name := "fnUnframeTorn", fn := fun _ => fun
  | [d] => { results := [.lit (.bool true)], args := [d] }
  | _ => none }
def fnUnframeTornRow : OpenClaim := { program := "ytgenllcfpjgklaa", sum := "06593dee752fb1ffad6dc05e1a5cde1709df2404f6c53cf8e909d2f200b370c2", func := "loop.example/graphcode/laws.FnUnframeTorn", spec := "fnUnframeTorn", unfollowed := true, recurses := true, apart := false }
def FnUnframeTornSaid : Prop := fnUnframeTornRow.holds Try.pinned (OpenSpec.ofChange fnUnframeTornSpec)

/-- ITS FALSE NEIGHBOUR: 'it returns false'. Refute it at one input. -/
def fnUnframeTornWrong : ChangeSpec := { name := "fnUnframeTorn", fn := fun _ => fun
  | [d] => { results := [.lit (.bool false)], args := [d] }
  | _ => none }
def FnUnframeTornWrongFalsely : Prop := fnUnframeTornRow.holds Try.pinned (OpenSpec.ofChange fnUnframeTornWrong)

/-- 'laws.FnUnframeBytes': WHATEVER THE INPUT: true; the input reads as it did. -/
def fnUnframeBytesSpec : ChangeSpec := { name := "fnUnframeBytes", fn := fun _ => fun
  | [d] => { results := [.lit (.bool true)], args := [d] }
  | _ => none }
def fnUnframeBytesRow : OpenClaim := { program := "ytgenllcfpjgklaa", sum := "06593dee752fb1ffad6dc05e1a5cde1709df2404f6c53cf8e909d2f200b370c2", func := "loop.example/graphcode/laws.FnUnframeBytes", spec := "fnUnframeBytes", unfollowed := true, recurses := true, apart := false }
def FnUnframeBytesSaid : Prop := fnUnframeBytesRow.holds Try.pinned (OpenSpec.ofChange fnUnframeBytesSpec)

/-- ITS FALSE NEIGHBOUR: 'it returns false'. Refute it at one input. -/
def fnUnframeBytesWrong : ChangeSpec := { name := "fnUnframeBytes", fn := fun _ => fun
  | [d] => { results := [.lit (.bool false)], args := [d] }
  | _ => none }
def FnUnframeBytesWrongFalsely : Prop := fnUnframeBytesRow.holds Try.pinned (OpenSpec.ofChange fnUnframeBytesWrong)

/- THE SECOND FORM. 'bulk': how many values and letters a reading holds, each counted each time it is reached (what is shared counts as often as it is met; a slice's spare places count too). A statement '..UptoSaid' is the law's where the arguments, and the package variables that the reading takes, are together of bulk at most 1048576: NARROWER than '..Said'. Prove '..Said' where nothing that the law and all that it calls make is longer than what came in: it says more and counts as full. Else prove '..UptoSaid'. A law counts once. -/
mutual
def uptoBulk {H : Type} : DataW H → Nat
  | .lit (.string bytes) => bytes.length + 1
  | .lit _ => 1
  | .nil => 1
  | .ptr d => uptoBulk d + 1
  | .slice elems spare => uptoBulkAll elems + uptoBulkAll spare + 1
  | .agg parts => uptoBulkAll parts + 1
  | .iface _ d => uptoBulk d + 1
  | .map entries => uptoBulkEntries entries + 1
  | .held _ => 1
def uptoBulkAll {H : Type} : List (DataW H) → Nat
  | [] => 0
  | d :: r => uptoBulk d + uptoBulkAll r
def uptoBulkEntries {H : Type} : List (Lit × DataW H) → Nat
  | [] => 0
  | x :: r => uptoBulkEntry x + uptoBulkEntries r
def uptoBulkEntry {H : Type} : Lit × DataW H → Nat
  | (.string bytes, d) => bytes.length + uptoBulk d + 1
  | (_, d) => uptoBulk d + 1
 end
def uptoSmall : (H : Type) → List (DataW H) → Bool := fun _ ds => decide (uptoBulkAll ds ≤ 1048576)
def OpenSpec.upto (s : _root_.Go.ChangeSpec) : _root_.Go.OpenSpec := { _root_.Go.OpenSpec.ofChange s with cond := some uptoSmall }

/-- 'laws.FnRulesAllow', WHERE WHAT IT READS IS OF BULK AT MOST 1048576: true; the input reads as it did. -/
def fnRulesAllowUptoRow : OpenClaim := { program := "ytgenllcfpjgklaa", sum := "06593dee752fb1ffad6dc05e1a5cde1709df2404f6c53cf8e909d2f200b370c2", func := "loop.example/graphcode/laws.FnRulesAllow", spec := "fnRulesAllow", unfollowed := true, recurses := true, apart := false, narrowed := true }
def FnRulesAllowUptoSaid : Prop := fnRulesAllowUptoRow.holds Try.pinned (OpenSpec.upto fnRulesAllowSpec)

/-- 'laws.FnValidOps', WHERE WHAT IT READS IS OF BULK AT MOST 1048576: true; the input reads as it did. -/
def fnValidOpsUptoRow : OpenClaim := { program := "ytgenllcfpjgklaa", sum := "06593dee752fb1ffad6dc05e1a5cde1709df2404f6c53cf8e909d2f200b370c2", func := "loop.example/graphcode/laws.FnValidOps", spec := "fnValidOps", recurses := true, apart := false, narrowed := true }
def FnValidOpsUptoSaid : Prop := fnValidOpsUptoRow.holds Try.pinned (OpenSpec.upto fnValidOpsSpec)

/-- 'laws.FnValidMachine', WHERE WHAT IT READS IS OF BULK AT MOST 1048576: true; the input reads as it did. -/
def fnValidMachineUptoRow : OpenClaim := { program := "ytgenllcfpjgklaa", sum := "06593dee752fb1ffad6dc05e1a5cde1709df2404f6c53cf8e909d2f200b370c2", func := "loop.example/graphcode/laws.FnValidMachine", spec := "fnValidMachine", apart := false, narrowed := true }
def FnValidMachineUptoSaid : Prop := fnValidMachineUptoRow.holds Try.pinned (OpenSpec.upto fnValidMachineSpec)

/-- 'laws.FnIsShort', WHERE WHAT IT READS IS OF BULK AT MOST 1048576: true; the input reads as it did. -/
def fnIsShortUptoRow : OpenClaim := { program := "ytgenllcfpjgklaa", sum := "06593dee752fb1ffad6dc05e1a5cde1709df2404f6c53cf8e909d2f200b370c2", func := "loop.example/graphcode/laws.FnIsShort", spec := "fnIsShort", unfollowed := true, recurses := true, apart := false, narrowed := true }
def FnIsShortUptoSaid : Prop := fnIsShortUptoRow.holds Try.pinned (OpenSpec.upto fnIsShortSpec)

/-- 'laws.FnCountCodes', WHERE WHAT IT READS IS OF BULK AT MOST 1048576: true; the input reads as it did. -/
def fnCountCodesUptoRow : OpenClaim := { program := "ytgenllcfpjgklaa", sum := "06593dee752fb1ffad6dc05e1a5cde1709df2404f6c53cf8e909d2f200b370c2", func := "loop.example/graphcode/laws.FnCountCodes", spec := "fnCountCodes", recurses := true, apart := false, narrowed := true }
def FnCountCodesUptoSaid : Prop := fnCountCodesUptoRow.holds Try.pinned (OpenSpec.upto fnCountCodesSpec)

/-- 'laws.FnSizeOf', WHERE WHAT IT READS IS OF BULK AT MOST 1048576: true; the input reads as it did. -/
def fnSizeOfUptoRow : OpenClaim := { program := "ytgenllcfpjgklaa", sum := "06593dee752fb1ffad6dc05e1a5cde1709df2404f6c53cf8e909d2f200b370c2", func := "loop.example/graphcode/laws.FnSizeOf", spec := "fnSizeOf", recurses := true, apart := false, narrowed := true }
def FnSizeOfUptoSaid : Prop := fnSizeOfUptoRow.holds Try.pinned (OpenSpec.upto fnSizeOfSpec)

/-- 'laws.FnPlacesOf', WHERE WHAT IT READS IS OF BULK AT MOST 1048576: true; the input reads as it did. -/
def fnPlacesOfUptoRow : OpenClaim := { program := "ytgenllcfpjgklaa", sum := "06593dee752fb1ffad6dc05e1a5cde1709df2404f6c53cf8e909d2f200b370c2", func := "loop.example/graphcode/laws.FnPlacesOf", spec := "fnPlacesOf", recurses := true, apart := false, narrowed := true }
def FnPlacesOfUptoSaid : Prop := fnPlacesOfUptoRow.holds Try.pinned (OpenSpec.upto fnPlacesOfSpec)

/-- 'laws.FnEncodeOpsJoin', WHERE WHAT IT READS IS OF BULK AT MOST 1048576: true; the input reads as it did. -/
def fnEncodeOpsJoinUptoRow : OpenClaim := { program := "ytgenllcfpjgklaa", sum := "06593dee752fb1ffad6dc05e1a5cde1709df2404f6c53cf8e909d2f200b370c2", func := "loop.example/graphcode/laws.FnEncodeOpsJoin", spec := "fnEncodeOpsJoin", recurses := true, apart := false, narrowed := true }
def FnEncodeOpsJoinUptoSaid : Prop := fnEncodeOpsJoinUptoRow.holds Try.pinned (OpenSpec.upto fnEncodeOpsJoinSpec)

/-- 'laws.FnEncodeOps', WHERE WHAT IT READS IS OF BULK AT MOST 1048576: true; the input reads as it did. -/
def fnEncodeOpsUptoRow : OpenClaim := { program := "ytgenllcfpjgklaa", sum := "06593dee752fb1ffad6dc05e1a5cde1709df2404f6c53cf8e909d2f200b370c2", func := "loop.example/graphcode/laws.FnEncodeOps", spec := "fnEncodeOps", unfollowed := true, recurses := true, apart := false, narrowed := true }
def FnEncodeOpsUptoSaid : Prop := fnEncodeOpsUptoRow.holds Try.pinned (OpenSpec.upto fnEncodeOpsSpec)

/-- 'laws.FnSplitStops', WHERE WHAT IT READS IS OF BULK AT MOST 1048576: true; the input reads as it did. -/
def fnSplitStopsUptoRow : OpenClaim := { program := "ytgenllcfpjgklaa", sum := "06593dee752fb1ffad6dc05e1a5cde1709df2404f6c53cf8e909d2f200b370c2", func := "loop.example/graphcode/laws.FnSplitStops", spec := "fnSplitStops", recurses := true, apart := false, narrowed := true }
def FnSplitStopsUptoSaid : Prop := fnSplitStopsUptoRow.holds Try.pinned (OpenSpec.upto fnSplitStopsSpec)

/-- 'laws.FnFrameBytes', WHERE WHAT IT READS IS OF BULK AT MOST 1048576: true; the input reads as it did. -/
def fnFrameBytesUptoRow : OpenClaim := { program := "ytgenllcfpjgklaa", sum := "06593dee752fb1ffad6dc05e1a5cde1709df2404f6c53cf8e909d2f200b370c2", func := "loop.example/graphcode/laws.FnFrameBytes", spec := "fnFrameBytes", unfollowed := true, recurses := true, apart := false, narrowed := true }
def FnFrameBytesUptoSaid : Prop := fnFrameBytesUptoRow.holds Try.pinned (OpenSpec.upto fnFrameBytesSpec)

/-- 'laws.FnUnframeTorn', WHERE WHAT IT READS IS OF BULK AT MOST 1048576: true; the input reads as it did. -/
def fnUnframeTornUptoRow : OpenClaim := { program := "ytgenllcfpjgklaa", sum := "06593dee752fb1ffad6dc05e1a5cde1709df2404f6c53cf8e909d2f200b370c2", func := "loop.example/graphcode/laws.FnUnframeTorn", spec := "fnUnframeTorn", unfollowed := true, recurses := true, apart := false, narrowed := true }
def FnUnframeTornUptoSaid : Prop := fnUnframeTornUptoRow.holds Try.pinned (OpenSpec.upto fnUnframeTornSpec)

/-- 'laws.FnUnframeBytes', WHERE WHAT IT READS IS OF BULK AT MOST 1048576: true; the input reads as it did. -/
def fnUnframeBytesUptoRow : OpenClaim := { program := "ytgenllcfpjgklaa", sum := "06593dee752fb1ffad6dc05e1a5cde1709df2404f6c53cf8e909d2f200b370c2", func := "loop.example/graphcode/laws.FnUnframeBytes", spec := "fnUnframeBytes", unfollowed := true, recurses := true, apart := false, narrowed := true }
def FnUnframeBytesUptoSaid : Prop := fnUnframeBytesUptoRow.holds Try.pinned (OpenSpec.upto fnUnframeBytesSpec)

end Rows
end Go.Proofs.Ytgenllcfpjgklaa
