/-
  No cell of these rows narrows 'for every input' (looked for: loops, veiled, ifaces, maps, wideKeys, modest, calm, conditions, laid).
  DERIVED. THE GIVEN ROWS OF THIS SEAT. 16 by the template 'for every input the law returns true; each argument reads behind the call as it read before'; 0 by the template 'total and deterministic' (their statements: YtcodbpjaamggeaaTotals.lean).
  GIVEN WITH THE SEED: the statements are not yours to turn. If you find one false, say at which input.
  Laid BY PROGRAM, IN A SANDBOX (cutbox-rows.mjs): the forced cells as the released guide's own fill.sh prints them over the translation 3135234bc7f45de6… (all of the seat's roots in one cut). By AI agents, Wed Nov 11 2026. No macro, syntax, notation, axiom, sorry.
-/
import Derived.Test.YtcodbpjaamggeaaChecked
import GoSem.Claim
import GoSem.ClaimJoined
import GoSem.ClaimMapViews
import Derived.JoinedTies
import Derived.KernelRfl
namespace Go.Proofs.Ytcodbpjaamggeaa
/- THE CELL 'sum', in the pinned program and in every row, IS THE sha256 OF THE DUMP (.gsa) THAT YtcodbpjaamggeaaProg.lean LOADS. Nothing in Lean hashes anything: it is a label: what it is worth is what the hold of that sum in a sandbox is worth. -/
noncomputable def Try.pinned : Pinned := { name := "ytcodbpjaamggeaa", sum := "3135234bc7f45de614412bb6c0af6fb7a8f5a7d65d1461dd6adf52af7b97c14a", checked := Try.checked }
namespace Rows
def none {H : Type} : Left H := { results := [], args := [] }

/-- 'laws.FnExactFirstBad': WHATEVER THE INPUT: true; the input reads as it did. -/
def fnExactFirstBadSpec : ChangeSpec := { name := "fnExactFirstBad", fn := fun _ => fun
  | [d] => { results := [.lit (.bool true)], args := [d] }
  | _ => none }
def fnExactFirstBadRow : OpenClaim := { program := "ytcodbpjaamggeaa", sum := "3135234bc7f45de614412bb6c0af6fb7a8f5a7d65d1461dd6adf52af7b97c14a", func := "loop.example/graphcode/laws.FnExactFirstBad", spec := "fnExactFirstBad", unfollowed := true, recurses := true, apart := false }
def FnExactFirstBadSaid : Prop := fnExactFirstBadRow.holds Try.pinned (OpenSpec.ofChange fnExactFirstBadSpec)

/-- ITS FALSE NEIGHBOUR: 'it returns false'. Refute it at one input. -/
def fnExactFirstBadWrong : ChangeSpec := { name := "fnExactFirstBad", fn := fun _ => fun
  | [d] => { results := [.lit (.bool false)], args := [d] }
  | _ => none }
def FnExactFirstBadWrongFalsely : Prop := fnExactFirstBadRow.holds Try.pinned (OpenSpec.ofChange fnExactFirstBadWrong)

/-- 'laws.FnExactIsWhole': WHATEVER THE INPUT: true; the input reads as it did. -/
def fnExactIsWholeSpec : ChangeSpec := { name := "fnExactIsWhole", fn := fun _ => fun
  | [d] => { results := [.lit (.bool true)], args := [d] }
  | _ => none }
def fnExactIsWholeRow : OpenClaim := { program := "ytcodbpjaamggeaa", sum := "3135234bc7f45de614412bb6c0af6fb7a8f5a7d65d1461dd6adf52af7b97c14a", func := "loop.example/graphcode/laws.FnExactIsWhole", spec := "fnExactIsWhole", unfollowed := true, recurses := true, apart := false }
def FnExactIsWholeSaid : Prop := fnExactIsWholeRow.holds Try.pinned (OpenSpec.ofChange fnExactIsWholeSpec)

/-- ITS FALSE NEIGHBOUR: 'it returns false'. Refute it at one input. -/
def fnExactIsWholeWrong : ChangeSpec := { name := "fnExactIsWhole", fn := fun _ => fun
  | [d] => { results := [.lit (.bool false)], args := [d] }
  | _ => none }
def FnExactIsWholeWrongFalsely : Prop := fnExactIsWholeRow.holds Try.pinned (OpenSpec.ofChange fnExactIsWholeWrong)

/-- 'laws.FnExactCutOps': WHATEVER THE INPUT: true; the input reads as it did. -/
def fnExactCutOpsSpec : ChangeSpec := { name := "fnExactCutOps", fn := fun _ => fun
  | [d] => { results := [.lit (.bool true)], args := [d] }
  | _ => none }
def fnExactCutOpsRow : OpenClaim := { program := "ytcodbpjaamggeaa", sum := "3135234bc7f45de614412bb6c0af6fb7a8f5a7d65d1461dd6adf52af7b97c14a", func := "loop.example/graphcode/laws.FnExactCutOps", spec := "fnExactCutOps", unfollowed := true, recurses := true, apart := false }
def FnExactCutOpsSaid : Prop := fnExactCutOpsRow.holds Try.pinned (OpenSpec.ofChange fnExactCutOpsSpec)

/-- ITS FALSE NEIGHBOUR: 'it returns false'. Refute it at one input. -/
def fnExactCutOpsWrong : ChangeSpec := { name := "fnExactCutOps", fn := fun _ => fun
  | [d] => { results := [.lit (.bool false)], args := [d] }
  | _ => none }
def FnExactCutOpsWrongFalsely : Prop := fnExactCutOpsRow.holds Try.pinned (OpenSpec.ofChange fnExactCutOpsWrong)

/-- 'laws.FnExactDepthsOf': WHATEVER THE INPUT: true; the input reads as it did. -/
def fnExactDepthsOfSpec : ChangeSpec := { name := "fnExactDepthsOf", fn := fun _ => fun
  | [d] => { results := [.lit (.bool true)], args := [d] }
  | _ => none }
def fnExactDepthsOfRow : OpenClaim := { program := "ytcodbpjaamggeaa", sum := "3135234bc7f45de614412bb6c0af6fb7a8f5a7d65d1461dd6adf52af7b97c14a", func := "loop.example/graphcode/laws.FnExactDepthsOf", spec := "fnExactDepthsOf", unfollowed := true, recurses := true, apart := false }
def FnExactDepthsOfSaid : Prop := fnExactDepthsOfRow.holds Try.pinned (OpenSpec.ofChange fnExactDepthsOfSpec)

/-- ITS FALSE NEIGHBOUR: 'it returns false'. Refute it at one input. -/
def fnExactDepthsOfWrong : ChangeSpec := { name := "fnExactDepthsOf", fn := fun _ => fun
  | [d] => { results := [.lit (.bool false)], args := [d] }
  | _ => none }
def FnExactDepthsOfWrongFalsely : Prop := fnExactDepthsOfRow.holds Try.pinned (OpenSpec.ofChange fnExactDepthsOfWrong)

/-- 'laws.FnExactMarksOf': WHATEVER THE INPUT: true; the input reads as it did. -/
def fnExactMarksOfSpec : ChangeSpec := { name := "fnExactMarksOf", fn := fun _ => fun
  | [d] => { results := [.lit (.bool true)], args := [d] }
  | _ => none }
def fnExactMarksOfRow : OpenClaim := { program := "ytcodbpjaamggeaa", sum := "3135234bc7f45de614412bb6c0af6fb7a8f5a7d65d1461dd6adf52af7b97c14a", func := "loop.example/graphcode/laws.FnExactMarksOf", spec := "fnExactMarksOf", unfollowed := true, recurses := true, apart := false }
def FnExactMarksOfSaid : Prop := fnExactMarksOfRow.holds Try.pinned (OpenSpec.ofChange fnExactMarksOfSpec)

/-- ITS FALSE NEIGHBOUR: 'it returns false'. Refute it at one input. -/
def fnExactMarksOfWrong : ChangeSpec := { name := "fnExactMarksOf", fn := fun _ => fun
  | [d] => { results := [.lit (.bool false)], args := [d] }
  | _ => none }
def FnExactMarksOfWrongFalsely : Prop := fnExactMarksOfRow.holds Try.pinned (OpenSpec.ofChange fnExactMarksOfWrong)

/-- 'laws.FnExactForbidClass': WHATEVER THE INPUT: true; the input reads as it did. -/
def fnExactForbidClassSpec : ChangeSpec := { name := "fnExactForbidClass", fn := fun _ => fun
  | [d1, d2] => { results := [.lit (.bool true)], args := [d1, d2] }
  | _ => none }
def fnExactForbidClassRow : OpenClaim := { program := "ytcodbpjaamggeaa", sum := "3135234bc7f45de614412bb6c0af6fb7a8f5a7d65d1461dd6adf52af7b97c14a", func := "loop.example/graphcode/laws.FnExactForbidClass", spec := "fnExactForbidClass", unfollowed := true, recurses := true, apart := false }
def FnExactForbidClassSaid : Prop := fnExactForbidClassRow.holds Try.pinned (OpenSpec.ofChange fnExactForbidClassSpec)

/-- ITS FALSE NEIGHBOUR: 'it returns false'. Refute it at one input. -/
def fnExactForbidClassWrong : ChangeSpec := { name := "fnExactForbidClass", fn := fun _ => fun
  | [d1, d2] => { results := [.lit (.bool false)], args := [d1, d2] }
  | _ => none }
def FnExactForbidClassWrongFalsely : Prop := fnExactForbidClassRow.holds Try.pinned (OpenSpec.ofChange fnExactForbidClassWrong)

/-- 'laws.FnExactClassesIn': WHATEVER THE INPUT: true; the input reads as it did. -/
def fnExactClassesInSpec : ChangeSpec := { name := "fnExactClassesIn", fn := fun _ => fun
  | [d] => { results := [.lit (.bool true)], args := [d] }
  | _ => none }
def fnExactClassesInRow : OpenClaim := { program := "ytcodbpjaamggeaa", sum := "3135234bc7f45de614412bb6c0af6fb7a8f5a7d65d1461dd6adf52af7b97c14a", func := "loop.example/graphcode/laws.FnExactClassesIn", spec := "fnExactClassesIn", recurses := true, apart := false }
def FnExactClassesInSaid : Prop := fnExactClassesInRow.holds Try.pinned (OpenSpec.ofChange fnExactClassesInSpec)

/-- ITS FALSE NEIGHBOUR: 'it returns false'. Refute it at one input. -/
def fnExactClassesInWrong : ChangeSpec := { name := "fnExactClassesIn", fn := fun _ => fun
  | [d] => { results := [.lit (.bool false)], args := [d] }
  | _ => none }
def FnExactClassesInWrongFalsely : Prop := fnExactClassesInRow.holds Try.pinned (OpenSpec.ofChange fnExactClassesInWrong)

/-- 'laws.FnExactEndOps': WHATEVER THE INPUT: true; the input reads as it did. -/
def fnExactEndOpsSpec : ChangeSpec := { name := "fnExactEndOps", fn := fun _ => fun
  | [d] => { results := [.lit (.bool true)], args := [d] }
  | _ => none }
def fnExactEndOpsRow : OpenClaim := { program := "ytcodbpjaamggeaa", sum := "3135234bc7f45de614412bb6c0af6fb7a8f5a7d65d1461dd6adf52af7b97c14a", func := "loop.example/graphcode/laws.FnExactEndOps", spec := "fnExactEndOps", unfollowed := true, recurses := true, apart := false }
def FnExactEndOpsSaid : Prop := fnExactEndOpsRow.holds Try.pinned (OpenSpec.ofChange fnExactEndOpsSpec)

/-- ITS FALSE NEIGHBOUR: 'it returns false'. Refute it at one input. -/
def fnExactEndOpsWrong : ChangeSpec := { name := "fnExactEndOps", fn := fun _ => fun
  | [d] => { results := [.lit (.bool false)], args := [d] }
  | _ => none }
def FnExactEndOpsWrongFalsely : Prop := fnExactEndOpsRow.holds Try.pinned (OpenSpec.ofChange fnExactEndOpsWrong)

/-- 'laws.FnExactSafeRun': WHATEVER THE INPUT: true; the input reads as it did. -/
def fnExactSafeRunSpec : ChangeSpec := { name := "fnExactSafeRun", fn := fun _ => fun
  | [d1, d2] => { results := [.lit (.bool true)], args := [d1, d2] }
  | _ => none }
def fnExactSafeRunRow : OpenClaim := { program := "ytcodbpjaamggeaa", sum := "3135234bc7f45de614412bb6c0af6fb7a8f5a7d65d1461dd6adf52af7b97c14a", func := "loop.example/graphcode/laws.FnExactSafeRun", spec := "fnExactSafeRun", apart := false }
def FnExactSafeRunSaid : Prop := fnExactSafeRunRow.holds Try.pinned (OpenSpec.ofChange fnExactSafeRunSpec)

/-- ITS FALSE NEIGHBOUR: 'it returns false'. Refute it at one input. -/
def fnExactSafeRunWrong : ChangeSpec := { name := "fnExactSafeRun", fn := fun _ => fun
  | [d1, d2] => { results := [.lit (.bool false)], args := [d1, d2] }
  | _ => none }
def FnExactSafeRunWrongFalsely : Prop := fnExactSafeRunRow.holds Try.pinned (OpenSpec.ofChange fnExactSafeRunWrong)

/-- 'laws.FnExactShapesOf': WHATEVER THE INPUT: true; the input reads as it did. -/
def fnExactShapesOfSpec : ChangeSpec := { name := "fnExactShapesOf", fn := fun _ => fun
  | [d] => { results := [.lit (.bool true)], args := [d] }
  | _ => none }
def fnExactShapesOfRow : OpenClaim := { program := "ytcodbpjaamggeaa", sum := "3135234bc7f45de614412bb6c0af6fb7a8f5a7d65d1461dd6adf52af7b97c14a", func := "loop.example/graphcode/laws.FnExactShapesOf", spec := "fnExactShapesOf", unfollowed := true, recurses := true, apart := false }
def FnExactShapesOfSaid : Prop := fnExactShapesOfRow.holds Try.pinned (OpenSpec.ofChange fnExactShapesOfSpec)

/-- ITS FALSE NEIGHBOUR: 'it returns false'. Refute it at one input. -/
def fnExactShapesOfWrong : ChangeSpec := { name := "fnExactShapesOf", fn := fun _ => fun
  | [d] => { results := [.lit (.bool false)], args := [d] }
  | _ => none }
def FnExactShapesOfWrongFalsely : Prop := fnExactShapesOfRow.holds Try.pinned (OpenSpec.ofChange fnExactShapesOfWrong)

/-- 'laws.FnExactBuildGraph': WHATEVER THE INPUT: true; the input reads as it did. -/
def fnExactBuildGraphSpec : ChangeSpec := { name := "fnExactBuildGraph", fn := fun _ => fun
  | [d] => { results := [.lit (.bool true)], args := [d] }
  | _ => none }
def fnExactBuildGraphRow : OpenClaim := { program := "ytcodbpjaamggeaa", sum := "3135234bc7f45de614412bb6c0af6fb7a8f5a7d65d1461dd6adf52af7b97c14a", func := "loop.example/graphcode/laws.FnExactBuildGraph", spec := "fnExactBuildGraph", unfollowed := true, recurses := true, apart := false }
def FnExactBuildGraphSaid : Prop := fnExactBuildGraphRow.holds Try.pinned (OpenSpec.ofChange fnExactBuildGraphSpec)

/-- ITS FALSE NEIGHBOUR: 'it returns false'. Refute it at one input. -/
def fnExactBuildGraphWrong : ChangeSpec := { name := "fnExactBuildGraph", fn := fun _ => fun
  | [d] => { results := [.lit (.bool false)], args := [d] }
  | _ => none }
def FnExactBuildGraphWrongFalsely : Prop := fnExactBuildGraphRow.holds Try.pinned (OpenSpec.ofChange fnExactBuildGraphWrong)

/-- 'laws.FnExactRunOps': WHATEVER THE INPUT: true; the input reads as it did. -/
def fnExactRunOpsSpec : ChangeSpec := { name := "fnExactRunOps", fn := fun _ => fun
  | [d] => { results := [.lit (.bool true)], args := [d] }
  | _ => none }
def fnExactRunOpsRow : OpenClaim := { program := "ytcodbpjaamggeaa", sum := "3135234bc7f45de614412bb6c0af6fb7a8f5a7d65d1461dd6adf52af7b97c14a", func := "loop.example/graphcode/laws.FnExactRunOps", spec := "fnExactRunOps", unfollowed := true, recurses := true, apart := false }
def FnExactRunOpsSaid : Prop := fnExactRunOpsRow.holds Try.pinned (OpenSpec.ofChange fnExactRunOpsSpec)

/-- ITS FALSE NEIGHBOUR: 'it returns false'. Refute it at one input. -/
def fnExactRunOpsWrong : ChangeSpec := { name := "fnExactRunOps", fn := fun _ => fun
  | [d] => { results := [.lit (.bool false)], args := [d] }
  | _ => none }
def FnExactRunOpsWrongFalsely : Prop := fnExactRunOpsRow.holds Try.pinned (OpenSpec.ofChange fnExactRunOpsWrong)

/-- 'laws.FnExactReadCode': WHATEVER THE INPUT: true; the input reads as it did. -/
def fnExactReadCodeSpec : ChangeSpec := { name := "fnExactReadCode", fn := fun _ => fun
  | [d] => { results := [.lit (.bool true)], args := [d] }
  | _ => none }
def fnExactReadCodeRow : OpenClaim := { program := "ytcodbpjaamggeaa", sum := "3135234bc7f45de614412bb6c0af6fb7a8f5a7d65d1461dd6adf52af7b97c14a", func := "loop.example/graphcode/laws.FnExactReadCode", spec := "fnExactReadCode", unfollowed := true, recurses := true, apart := false }
def FnExactReadCodeSaid : Prop := fnExactReadCodeRow.holds Try.pinned (OpenSpec.ofChange fnExactReadCodeSpec)

/-- ITS FALSE NEIGHBOUR: 'it returns false'. Refute it at one input. -/
def fnExactReadCodeWrong : ChangeSpec := { name := "fnExactReadCode", fn := fun _ => fun
  | [d] => { results := [.lit (.bool false)], args := [d] }
  | _ => none }
def FnExactReadCodeWrongFalsely : Prop := fnExactReadCodeRow.holds Try.pinned (OpenSpec.ofChange fnExactReadCodeWrong)

/-- 'laws.FnExactBuiltCode': WHATEVER THE INPUT: true; the input reads as it did. -/
def fnExactBuiltCodeSpec : ChangeSpec := { name := "fnExactBuiltCode", fn := fun _ => fun
  | [d] => { results := [.lit (.bool true)], args := [d] }
  | _ => none }
def fnExactBuiltCodeRow : OpenClaim := { program := "ytcodbpjaamggeaa", sum := "3135234bc7f45de614412bb6c0af6fb7a8f5a7d65d1461dd6adf52af7b97c14a", func := "loop.example/graphcode/laws.FnExactBuiltCode", spec := "fnExactBuiltCode", unfollowed := true, recurses := true, apart := false }
def FnExactBuiltCodeSaid : Prop := fnExactBuiltCodeRow.holds Try.pinned (OpenSpec.ofChange fnExactBuiltCodeSpec)

/-- ITS FALSE NEIGHBOUR: 'it returns false'. Refute it at one input. -/
def fnExactBuiltCodeWrong : ChangeSpec := { name := "fnExactBuiltCode", fn := fun _ => fun
  | [d] => { results := [.lit (.bool false)], args := [d] }
  | _ => none }
def FnExactBuiltCodeWrongFalsely : Prop := fnExactBuiltCodeRow.holds Try.pinned (OpenSpec.ofChange fnExactBuiltCodeWrong)

/-- 'laws.FnExactReadMany': WHATEVER THE INPUT: true; the input reads as it did. -/
def fnExactReadManySpec : ChangeSpec := { name := "fnExactReadMany", fn := fun _ => fun
  | [d] => { results := [.lit (.bool true)], args := [d] }
  | _ => none }
def fnExactReadManyRow : OpenClaim := { program := "ytcodbpjaamggeaa", sum := "3135234bc7f45de614412bb6c0af6fb7a8f5a7d65d1461dd6adf52af7b97c14a", func := "loop.example/graphcode/laws.FnExactReadMany", spec := "fnExactReadMany", apart := false }
def FnExactReadManySaid : Prop := fnExactReadManyRow.holds Try.pinned (OpenSpec.ofChange fnExactReadManySpec)

/-- ITS FALSE NEIGHBOUR: 'it returns false'. Refute it at one input. -/
def fnExactReadManyWrong : ChangeSpec := { name := "fnExactReadMany", fn := fun _ => fun
  | [d] => { results := [.lit (.bool false)], args := [d] }
  | _ => none }
def FnExactReadManyWrongFalsely : Prop := fnExactReadManyRow.holds Try.pinned (OpenSpec.ofChange fnExactReadManyWrong)

/-- 'laws.FnExactStepMachine': WHATEVER THE INPUT: true; the input reads as it did. -/
def fnExactStepMachineSpec : ChangeSpec := { name := "fnExactStepMachine", fn := fun _ => fun
  | [d1, d2] => { results := [.lit (.bool true)], args := [d1, d2] }
  | _ => none }
def fnExactStepMachineRow : OpenClaim := { program := "ytcodbpjaamggeaa", sum := "3135234bc7f45de614412bb6c0af6fb7a8f5a7d65d1461dd6adf52af7b97c14a", func := "loop.example/graphcode/laws.FnExactStepMachine", spec := "fnExactStepMachine", apart := false }
def FnExactStepMachineSaid : Prop := fnExactStepMachineRow.holds Try.pinned (OpenSpec.ofChange fnExactStepMachineSpec)

/-- ITS FALSE NEIGHBOUR: 'it returns false'. Refute it at one input. -/
def fnExactStepMachineWrong : ChangeSpec := { name := "fnExactStepMachine", fn := fun _ => fun
  | [d1, d2] => { results := [.lit (.bool false)], args := [d1, d2] }
  | _ => none }
def FnExactStepMachineWrongFalsely : Prop := fnExactStepMachineRow.holds Try.pinned (OpenSpec.ofChange fnExactStepMachineWrong)

/- THE SECOND FORM. 'bulk': how many values and letters a reading holds, each counted each time it is reached (what is shared counts as often as it is met; a slice's spare places count too). A statement '..UptoSaid' is the law's where the arguments, and the package variables that the reading takes, are together of bulk at most 1048576: NARROWER than '..Said'. Prove '..Said' where nothing that the law and all that it calls make is longer than what came in: it says more and counts as full. Else prove '..UptoSaid'. A law counts once. -/
mutual
def uptoBulk {H : Type} : DataW H → Nat
  | .lit (.string bytes) => bytes.length + 1
  | .lit _ => 1
  | .nil => 1
  | .ptr d => uptoBulk d + 1
  | .slice elems spare => uptoBulkAll elems + uptoBulkAll spare + 1
  | .agg parts => uptoBulkAll parts + 1
  | .iface _ d => uptoBulk d + 1
  | .map entries => uptoBulkEntries entries + 1
  | .held _ => 1
def uptoBulkAll {H : Type} : List (DataW H) → Nat
  | [] => 0
  | d :: r => uptoBulk d + uptoBulkAll r
def uptoBulkEntries {H : Type} : List (Lit × DataW H) → Nat
  | [] => 0
  | x :: r => uptoBulkEntry x + uptoBulkEntries r
def uptoBulkEntry {H : Type} : Lit × DataW H → Nat
  | (.string bytes, d) => bytes.length + uptoBulk d + 1
  | (_, d) => uptoBulk d + 1
 end
def uptoSmall : (H : Type) → List (DataW H) → Bool := fun _ ds => decide (uptoBulkAll ds ≤ 1048576)
def OpenSpec.upto (s : _root_.Go.ChangeSpec) : _root_.Go.OpenSpec := { _root_.Go.OpenSpec.ofChange s with cond := some uptoSmall }

/-- 'laws.FnExactFirstBad', WHERE WHAT IT READS IS OF BULK AT MOST 1048576: true; the input reads as it did. -/
def fnExactFirstBadUptoRow : OpenClaim := { program := "ytcodbpjaamggeaa", sum := "3135234bc7f45de614412bb6c0af6fb7a8f5a7d65d1461dd6adf52af7b97c14a", func := "loop.example/graphcode/laws.FnExactFirstBad", spec := "fnExactFirstBad", unfollowed := true, recurses := true, apart := false, narrowed := true }
def FnExactFirstBadUptoSaid : Prop := fnExactFirstBadUptoRow.holds Try.pinned (OpenSpec.upto fnExactFirstBadSpec)

/-- 'laws.FnExactIsWhole', WHERE WHAT IT READS IS OF BULK AT MOST 1048576: true; the input reads as it did. -/
def fnExactIsWholeUptoRow : OpenClaim := { program := "ytcodbpjaamggeaa", sum := "3135234bc7f45de614412bb6c0af6fb7a8f5a7d65d1461dd6adf52af7b97c14a", func := "loop.example/graphcode/laws.FnExactIsWhole", spec := "fnExactIsWhole", unfollowed := true, recurses := true, apart := false, narrowed := true }
def FnExactIsWholeUptoSaid : Prop := fnExactIsWholeUptoRow.holds Try.pinned (OpenSpec.upto fnExactIsWholeSpec)

/-- 'laws.FnExactCutOps', WHERE WHAT IT READS IS OF BULK AT MOST 1048576: true; the input reads as it did. -/
def fnExactCutOpsUptoRow : OpenClaim := { program := "ytcodbpjaamggeaa", sum := "3135234bc7f45de614412bb6c0af6fb7a8f5a7d65d1461dd6adf52af7b97c14a", func := "loop.example/graphcode/laws.FnExactCutOps", spec := "fnExactCutOps", unfollowed := true, recurses := true, apart := false, narrowed := true }
def FnExactCutOpsUptoSaid : Prop := fnExactCutOpsUptoRow.holds Try.pinned (OpenSpec.upto fnExactCutOpsSpec)

/-- 'laws.FnExactDepthsOf', WHERE WHAT IT READS IS OF BULK AT MOST 1048576: true; the input reads as it did. -/
def fnExactDepthsOfUptoRow : OpenClaim := { program := "ytcodbpjaamggeaa", sum := "3135234bc7f45de614412bb6c0af6fb7a8f5a7d65d1461dd6adf52af7b97c14a", func := "loop.example/graphcode/laws.FnExactDepthsOf", spec := "fnExactDepthsOf", unfollowed := true, recurses := true, apart := false, narrowed := true }
def FnExactDepthsOfUptoSaid : Prop := fnExactDepthsOfUptoRow.holds Try.pinned (OpenSpec.upto fnExactDepthsOfSpec)

/-- 'laws.FnExactMarksOf', WHERE WHAT IT READS IS OF BULK AT MOST 1048576: true; the input reads as it did. -/
def fnExactMarksOfUptoRow : OpenClaim := { program := "ytcodbpjaamggeaa", sum := "3135234bc7f45de614412bb6c0af6fb7a8f5a7d65d1461dd6adf52af7b97c14a", func := "loop.example/graphcode/laws.FnExactMarksOf", spec := "fnExactMarksOf", unfollowed := true, recurses := true, apart := false, narrowed := true }
def FnExactMarksOfUptoSaid : Prop := fnExactMarksOfUptoRow.holds Try.pinned (OpenSpec.upto fnExactMarksOfSpec)

/-- 'laws.FnExactForbidClass', WHERE WHAT IT READS IS OF BULK AT MOST 1048576: true; the input reads as it did. -/
def fnExactForbidClassUptoRow : OpenClaim := { program := "ytcodbpjaamggeaa", sum := "3135234bc7f45de614412bb6c0af6fb7a8f5a7d65d1461dd6adf52af7b97c14a", func := "loop.example/graphcode/laws.FnExactForbidClass", spec := "fnExactForbidClass", unfollowed := true, recurses := true, apart := false, narrowed := true }
def FnExactForbidClassUptoSaid : Prop := fnExactForbidClassUptoRow.holds Try.pinned (OpenSpec.upto fnExactForbidClassSpec)

/-- 'laws.FnExactClassesIn', WHERE WHAT IT READS IS OF BULK AT MOST 1048576: true; the input reads as it did. -/
def fnExactClassesInUptoRow : OpenClaim := { program := "ytcodbpjaamggeaa", sum := "3135234bc7f45de614412bb6c0af6fb7a8f5a7d65d1461dd6adf52af7b97c14a", func := "loop.example/graphcode/laws.FnExactClassesIn", spec := "fnExactClassesIn", recurses := true, apart := false, narrowed := true }
def FnExactClassesInUptoSaid : Prop := fnExactClassesInUptoRow.holds Try.pinned (OpenSpec.upto fnExactClassesInSpec)

/-- 'laws.FnExactEndOps', WHERE WHAT IT READS IS OF BULK AT MOST 1048576: true; the input reads as it did. -/
def fnExactEndOpsUptoRow : OpenClaim := { program := "ytcodbpjaamggeaa", sum := "3135234bc7f45de614412bb6c0af6fb7a8f5a7d65d1461dd6adf52af7b97c14a", func := "loop.example/graphcode/laws.FnExactEndOps", spec := "fnExactEndOps", unfollowed := true, recurses := true, apart := false, narrowed := true }
def FnExactEndOpsUptoSaid : Prop := fnExactEndOpsUptoRow.holds Try.pinned (OpenSpec.upto fnExactEndOpsSpec)

/-- 'laws.FnExactSafeRun', WHERE WHAT IT READS IS OF BULK AT MOST 1048576: true; the input reads as it did. -/
def fnExactSafeRunUptoRow : OpenClaim := { program := "ytcodbpjaamggeaa", sum := "3135234bc7f45de614412bb6c0af6fb7a8f5a7d65d1461dd6adf52af7b97c14a", func := "loop.example/graphcode/laws.FnExactSafeRun", spec := "fnExactSafeRun", apart := false, narrowed := true }
def FnExactSafeRunUptoSaid : Prop := fnExactSafeRunUptoRow.holds Try.pinned (OpenSpec.upto fnExactSafeRunSpec)

/-- 'laws.FnExactShapesOf', WHERE WHAT IT READS IS OF BULK AT MOST 1048576: true; the input reads as it did. -/
def fnExactShapesOfUptoRow : OpenClaim := { program := "ytcodbpjaamggeaa", sum := "3135234bc7f45de614412bb6c0af6fb7a8f5a7d65d1461dd6adf52af7b97c14a", func := "loop.example/graphcode/laws.FnExactShapesOf", spec := "fnExactShapesOf", unfollowed := true, recurses := true, apart := false, narrowed := true }
def FnExactShapesOfUptoSaid : Prop := fnExactShapesOfUptoRow.holds Try.pinned (OpenSpec.upto fnExactShapesOfSpec)

/-- 'laws.FnExactBuildGraph', WHERE WHAT IT READS IS OF BULK AT MOST 1048576: true; the input reads as it did. -/
def fnExactBuildGraphUptoRow : OpenClaim := { program := "ytcodbpjaamggeaa", sum := "3135234bc7f45de614412bb6c0af6fb7a8f5a7d65d1461dd6adf52af7b97c14a", func := "loop.example/graphcode/laws.FnExactBuildGraph", spec := "fnExactBuildGraph", unfollowed := true, recurses := true, apart := false, narrowed := true }
def FnExactBuildGraphUptoSaid : Prop := fnExactBuildGraphUptoRow.holds Try.pinned (OpenSpec.upto fnExactBuildGraphSpec)

/-- 'laws.FnExactRunOps', WHERE WHAT IT READS IS OF BULK AT MOST 1048576: true; the input reads as it did. -/
def fnExactRunOpsUptoRow : OpenClaim := { program := "ytcodbpjaamggeaa", sum := "3135234bc7f45de614412bb6c0af6fb7a8f5a7d65d1461dd6adf52af7b97c14a", func := "loop.example/graphcode/laws.FnExactRunOps", spec := "fnExactRunOps", unfollowed := true, recurses := true, apart := false, narrowed := true }
def FnExactRunOpsUptoSaid : Prop := fnExactRunOpsUptoRow.holds Try.pinned (OpenSpec.upto fnExactRunOpsSpec)

/-- 'laws.FnExactReadCode', WHERE WHAT IT READS IS OF BULK AT MOST 1048576: true; the input reads as it did. -/
def fnExactReadCodeUptoRow : OpenClaim := { program := "ytcodbpjaamggeaa", sum := "3135234bc7f45de614412bb6c0af6fb7a8f5a7d65d1461dd6adf52af7b97c14a", func := "loop.example/graphcode/laws.FnExactReadCode", spec := "fnExactReadCode", unfollowed := true, recurses := true, apart := false, narrowed := true }
def FnExactReadCodeUptoSaid : Prop := fnExactReadCodeUptoRow.holds Try.pinned (OpenSpec.upto fnExactReadCodeSpec)

/-- 'laws.FnExactBuiltCode', WHERE WHAT IT READS IS OF BULK AT MOST 1048576: true; the input reads as it did. -/
def fnExactBuiltCodeUptoRow : OpenClaim := { program := "ytcodbpjaamggeaa", sum := "3135234bc7f45de614412bb6c0af6fb7a8f5a7d65d1461dd6adf52af7b97c14a", func := "loop.example/graphcode/laws.FnExactBuiltCode", spec := "fnExactBuiltCode", unfollowed := true, recurses := true, apart := false, narrowed := true }
def FnExactBuiltCodeUptoSaid : Prop := fnExactBuiltCodeUptoRow.holds Try.pinned (OpenSpec.upto fnExactBuiltCodeSpec)

/-- 'laws.FnExactReadMany', WHERE WHAT IT READS IS OF BULK AT MOST 1048576: true; the input reads as it did. -/
def fnExactReadManyUptoRow : OpenClaim := { program := "ytcodbpjaamggeaa", sum := "3135234bc7f45de614412bb6c0af6fb7a8f5a7d65d1461dd6adf52af7b97c14a", func := "loop.example/graphcode/laws.FnExactReadMany", spec := "fnExactReadMany", apart := false, narrowed := true }
def FnExactReadManyUptoSaid : Prop := fnExactReadManyUptoRow.holds Try.pinned (OpenSpec.upto fnExactReadManySpec)

/-- 'laws.FnExactStepMachine', WHERE WHAT IT READS IS OF BULK AT MOST 1048576: true; the input reads as it did. -/
def fnExactStepMachineUptoRow : OpenClaim := { program := "ytcodbpjaamggeaa", sum := "3135234bc7f45de614412bb6c0af6fb7a8f5a7d65d1461dd6adf52af7b97c14a", func := "loop.example/graphcode/laws.FnExactStepMachine", spec := "fnExactStepMachine", apart := false, narrowed := true }
def FnExactStepMachineUptoSaid : Prop := fnExactStepMachineUptoRow.holds Try.pinned (OpenSpec.upto fnExactStepMachineSpec)

end Rows
end Go.Proofs.Ytcodbpjaamggeaa
