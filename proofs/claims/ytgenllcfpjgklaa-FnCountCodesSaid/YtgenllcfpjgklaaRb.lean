/- The closed facts of the whole program that the rows ask, one by one. -/
import Derived.Test.YtgenllcfpjgklaaRows
import Derived.JoinedOf
import Derived.ProofKit
set_option linter.unusedVariables false
set_option linter.unusedSimpArgs false
namespace Go.Proofs.Ytgenllcfpjgklaa.R
theorem may_of (P : Program) (c : List Char) (r : List (List Char)) (hw : behindMainWord (wordsSigns P.initOrder.toList) = c :: r) (hs : stripLifts liftWords (c :: r) = ([], c :: r)) (hc : (c == "cut".toList) = true)
    (h2 : P.laysLater = false) (h3 : P.bearsReflect = false) (h4 : P.doorFits [] = true) : P.mayEnter = true := by
  unfold Program.mayEnter
  rw [hw]
  have hc' : c = "cut".toList := by simpa using hc
  subst hc'
  simp only [hs, h2, h3, h4, List.head?_cons, beq_self_eq_true, List.contains_nil, Bool.not_false, Bool.or_true, Bool.and_true]
theorem lifts_of (P : Program) (c : List Char) (r : List (List Char)) (hw : behindMainWord (wordsSigns P.initOrder.toList) = c :: r) (hs : stripLifts liftWords (c :: r) = ([], c :: r)) (hc : (c == "cut".toList) = true) : P.liftsFinal = false := by
  unfold Program.liftsFinal Program.headLifts
  rw [hw]
  have hc' : c = "cut".toList := by simpa using hc
  subst hc'
  simp only [hs, List.head?_cons, if_true, beq_self_eq_true, List.contains_nil, Bool.or_false]
  have h : (some "cut".toList == some "carried".toList) = false := by decide +kernel
  rw [h, Bool.false_and]
theorem made_of (P : Program) (c : List Char) (r : List (List Char)) (hw : behindMainWord (wordsSigns P.initOrder.toList) = c :: r) (hc : (c == "cut".toList) = true) : P.make = some .cut := by
  unfold Program.make
  rw [hw]
  have hc' : c = "cut".toList := by simpa using hc
  subst hc'
  have h1 : ("cut".toList == "gc".toList) = false := by decide +kernel
  have h2 : ("cut".toList == "spec".toList) = false := by decide +kernel
  simp only [h1, h2, Bool.or_self, Bool.false_eq_true, if_false, beq_self_eq_true, Bool.true_or, if_true]
theorem closed_of (P : Program) (f : FuncId) (fn : Func) (s : ChangeSpec) (c : OpenClaim)
    (a1 : c.wf (OpenSpec.ofChange s) = true) (a2 : laidOutB P = true) (a3 : mapsRowed P = true) (a4 : fn.params.all (P.readableRec ·) = true) (a5 : namedTie P c.named s.vars = true)
    (a6 : (c.stops == []) = true) (a7 : (P.stops == []) = true) (a8 : (c.knobs == []) = true) (a9 : (P.stopKnobs == []) = true)
    (a10 : (c.inPlace == P.inPlace f) = true) (a11 : (c.unfollowed == P.unfollowed f) = true) (a12 : (c.recurses == P.recurses f) = true) (a13 : (c.named == P.varsNamed f) = true)
    (a14 : (c.maps == (fn.params.toList ++ s.plain.varTypes P).any (P.mapsRec ·)) = true) (a15 : (c.ifaces == (fn.params.toList ++ s.plain.varTypes P).any (P.ifacesRec ·)) = true) (a16 : (c.mapsOut == P.mapsAmong fn.resultTypes.toList) = true)
    (a17 : (c.loops == (fn.params.toList ++ s.plain.varTypes P).any (P.loopsFrom ·)) = true) (a18 : (c.wideKeys == (fn.params.toList ++ s.plain.varTypes P ++ fn.resultTypes.toList).any (P.wideKeysFrom ·)) = true)
    (a19 : s.vars.all (P.varReadable ·) = true) (a20 : fn.resultTypes.all (fun t => P.readableRec t && decide (t < P.types.size)) = true) (a21 : (c.ifacesOut == fn.resultTypes.toList.any (P.ifacesRec ·)) = true) (a22 : (c.loopsOut == fn.resultTypes.toList.any (P.loopsFrom ·)) = true)
    (a23 : (c.plainKeys == P.plainKeys) = true) (a24 : c.shortTexts.isNone = true) (a25 : P.stopsHeard = true) (a26 : P.mayEnter = true) (a27 : P.liftsFinal = false) (a27' : c.lifted = false) (a28 : P.make = some .cut) (a28' : c.make = .cut)
    (a29 : (c.kinds == (if c.domain.isEmpty then [] else fn.params.toList.map fun t => match P.underlying t with | some (.int k) => some k | _ => none)) = true) (a30 : (c.pinned == c.pinnedBy) = true)
    (a31 : (c.veiled == (fn.params.toList ++ s.plain.varTypes P ++ fn.resultTypes.toList).any (P.veiledRec ·)) = true) (a32 : c.veiledFits P fn.params.toList (fn.params.toList ++ s.plain.varTypes P ++ fn.resultTypes.toList) = true) :
    joinedFacts P f fn s c = true := by
  have b27 : (c.lifted == P.liftsFinal) = true := by rw [a27, a27']; rfl
  have b28 : (P.make == some c.make) = true := by rw [a28, a28']; exact beq_self_eq_true _
  unfold joinedFacts
  simp only [Bool.and_eq_true]
  exact ⟨⟨⟨⟨⟨⟨⟨⟨⟨⟨⟨⟨⟨⟨⟨⟨⟨⟨⟨⟨⟨⟨⟨⟨⟨⟨⟨⟨⟨⟨⟨a1, a2⟩, a3⟩, a4⟩, a5⟩, a6⟩, a7⟩, a8⟩, a9⟩, a10⟩, a11⟩, a12⟩, a13⟩, a14⟩, a15⟩, a16⟩, a17⟩, a18⟩, a19⟩, a20⟩, a21⟩, a22⟩, a23⟩, a24⟩, a25⟩, a26⟩, b27⟩, b28⟩, a29⟩, a30⟩, a31⟩, a32⟩
theorem ioChars : Try.prog.initOrder.toList = List.map Char.ofNat [104, 97, 114, 110, 101, 115, 115, 32, 51, 52, 49, 100, 102, 51, 97, 98, 98, 97, 97, 49, 56, 55, 97, 48, 57, 97, 101, 55, 55, 50, 48, 102, 57, 99, 99, 52, 100, 51, 49, 97, 56, 57, 49, 51, 55, 97, 51, 53, 99, 56, 97, 48, 97, 97, 102, 55, 98, 97, 51, 56, 97, 97, 52, 48, 51, 48, 99, 57, 100, 48, 52, 48, 32, 99, 117, 116, 32, 97, 116, 32, 108, 111, 111, 112, 46, 101, 120, 97, 109, 112, 108, 101, 47, 103, 114, 97, 112, 104, 99, 111, 100, 101, 47, 108, 97, 119, 115, 46, 70, 110, 82, 117, 108, 101, 115, 65, 108, 108, 111, 119, 32, 108, 111, 111, 112, 46, 101, 120, 97, 109, 112, 108, 101, 47, 103, 114, 97, 112, 104, 99, 111, 100, 101, 47, 108, 97, 119, 115, 46, 70, 110, 86, 97, 108, 105, 100, 79, 112, 115, 32, 108, 111, 111, 112, 46, 101, 120, 97, 109, 112, 108, 101, 47, 103, 114, 97, 112, 104, 99, 111, 100, 101, 47, 108, 97, 119, 115, 46, 70, 110, 86, 97, 108, 105, 100, 77, 97, 99, 104, 105, 110, 101, 32, 108, 111, 111, 112, 46, 101, 120, 97, 109, 112, 108, 101, 47, 103, 114, 97, 112, 104, 99, 111, 100, 101, 47, 108, 97, 119, 115, 46, 70, 110, 73, 115, 83, 104, 111, 114, 116, 32, 108, 111, 111, 112, 46, 101, 120, 97, 109, 112, 108, 101, 47, 103, 114, 97, 112, 104, 99, 111, 100, 101, 47, 108, 97, 119, 115, 46, 70, 110, 67, 111, 117, 110, 116, 67, 111, 100, 101, 115, 32, 108, 111, 111, 112, 46, 101, 120, 97, 109, 112, 108, 101, 47, 103, 114, 97, 112, 104, 99, 111, 100, 101, 47, 108, 97, 119, 115, 46, 70, 110, 83, 105, 122, 101, 79, 102, 32, 108, 111, 111, 112, 46, 101, 120, 97, 109, 112, 108, 101, 47, 103, 114, 97, 112, 104, 99, 111, 100, 101, 47, 108, 97, 119, 115, 46, 70, 110, 80, 108, 97, 99, 101, 115, 79, 102, 32, 108, 111, 111, 112, 46, 101, 120, 97, 109, 112, 108, 101, 47, 103, 114, 97, 112, 104, 99, 111, 100, 101, 47, 108, 97, 119, 115, 46, 70, 110, 69, 110, 99, 111, 100, 101, 79, 112, 115, 74, 111, 105, 110, 32, 108, 111, 111, 112, 46, 101, 120, 97, 109, 112, 108, 101, 47, 103, 114, 97, 112, 104, 99, 111, 100, 101, 47, 108, 97, 119, 115, 46, 70, 110, 69, 110, 99, 111, 100, 101, 79, 112, 115, 32, 108, 111, 111, 112, 46, 101, 120, 97, 109, 112, 108, 101, 47, 103, 114, 97, 112, 104, 99, 111, 100, 101, 47, 108, 97, 119, 115, 46, 70, 110, 83, 112, 108, 105, 116, 83, 116, 111, 112, 115, 32, 108, 111, 111, 112, 46, 101, 120, 97, 109, 112, 108, 101, 47, 103, 114, 97, 112, 104, 99, 111, 100, 101, 47, 108, 97, 119, 115, 46, 70, 110, 70, 114, 97, 109, 101, 66, 121, 116, 101, 115, 32, 108, 111, 111, 112, 46, 101, 120, 97, 109, 112, 108, 101, 47, 103, 114, 97, 112, 104, 99, 111, 100, 101, 47, 108, 97, 119, 115, 46, 70, 110, 85, 110, 102, 114, 97, 109, 101, 84, 111, 114, 110, 32, 108, 111, 111, 112, 46, 101, 120, 97, 109, 112, 108, 101, 47, 103, 114, 97, 112, 104, 99, 111, 100, 101, 47, 108, 97, 119, 115, 46, 70, 110, 85, 110, 102, 114, 97, 109, 101, 66, 121, 116, 101, 115] := by
  have h : Try.prog.initOrder = String.ofList (List.map Char.ofNat [104, 97, 114, 110, 101, 115, 115, 32, 51, 52, 49, 100, 102, 51, 97, 98, 98, 97, 97, 49, 56, 55, 97, 48, 57, 97, 101, 55, 55, 50, 48, 102, 57, 99, 99, 52, 100, 51, 49, 97, 56, 57, 49, 51, 55, 97, 51, 53, 99, 56, 97, 48, 97, 97, 102, 55, 98, 97, 51, 56, 97, 97, 52, 48, 51, 48, 99, 57, 100, 48, 52, 48, 32, 99, 117, 116, 32, 97, 116, 32, 108, 111, 111, 112, 46, 101, 120, 97, 109, 112, 108, 101, 47, 103, 114, 97, 112, 104, 99, 111, 100, 101, 47, 108, 97, 119, 115, 46, 70, 110, 82, 117, 108, 101, 115, 65, 108, 108, 111, 119, 32, 108, 111, 111, 112, 46, 101, 120, 97, 109, 112, 108, 101, 47, 103, 114, 97, 112, 104, 99, 111, 100, 101, 47, 108, 97, 119, 115, 46, 70, 110, 86, 97, 108, 105, 100, 79, 112, 115, 32, 108, 111, 111, 112, 46, 101, 120, 97, 109, 112, 108, 101, 47, 103, 114, 97, 112, 104, 99, 111, 100, 101, 47, 108, 97, 119, 115, 46, 70, 110, 86, 97, 108, 105, 100, 77, 97, 99, 104, 105, 110, 101, 32, 108, 111, 111, 112, 46, 101, 120, 97, 109, 112, 108, 101, 47, 103, 114, 97, 112, 104, 99, 111, 100, 101, 47, 108, 97, 119, 115, 46, 70, 110, 73, 115, 83, 104, 111, 114, 116, 32, 108, 111, 111, 112, 46, 101, 120, 97, 109, 112, 108, 101, 47, 103, 114, 97, 112, 104, 99, 111, 100, 101, 47, 108, 97, 119, 115, 46, 70, 110, 67, 111, 117, 110, 116, 67, 111, 100, 101, 115, 32, 108, 111, 111, 112, 46, 101, 120, 97, 109, 112, 108, 101, 47, 103, 114, 97, 112, 104, 99, 111, 100, 101, 47, 108, 97, 119, 115, 46, 70, 110, 83, 105, 122, 101, 79, 102, 32, 108, 111, 111, 112, 46, 101, 120, 97, 109, 112, 108, 101, 47, 103, 114, 97, 112, 104, 99, 111, 100, 101, 47, 108, 97, 119, 115, 46, 70, 110, 80, 108, 97, 99, 101, 115, 79, 102, 32, 108, 111, 111, 112, 46, 101, 120, 97, 109, 112, 108, 101, 47, 103, 114, 97, 112, 104, 99, 111, 100, 101, 47, 108, 97, 119, 115, 46, 70, 110, 69, 110, 99, 111, 100, 101, 79, 112, 115, 74, 111, 105, 110, 32, 108, 111, 111, 112, 46, 101, 120, 97, 109, 112, 108, 101, 47, 103, 114, 97, 112, 104, 99, 111, 100, 101, 47, 108, 97, 119, 115, 46, 70, 110, 69, 110, 99, 111, 100, 101, 79, 112, 115, 32, 108, 111, 111, 112, 46, 101, 120, 97, 109, 112, 108, 101, 47, 103, 114, 97, 112, 104, 99, 111, 100, 101, 47, 108, 97, 119, 115, 46, 70, 110, 83, 112, 108, 105, 116, 83, 116, 111, 112, 115, 32, 108, 111, 111, 112, 46, 101, 120, 97, 109, 112, 108, 101, 47, 103, 114, 97, 112, 104, 99, 111, 100, 101, 47, 108, 97, 119, 115, 46, 70, 110, 70, 114, 97, 109, 101, 66, 121, 116, 101, 115, 32, 108, 111, 111, 112, 46, 101, 120, 97, 109, 112, 108, 101, 47, 103, 114, 97, 112, 104, 99, 111, 100, 101, 47, 108, 97, 119, 115, 46, 70, 110, 85, 110, 102, 114, 97, 109, 101, 84, 111, 114, 110, 32, 108, 111, 111, 112, 46, 101, 120, 97, 109, 112, 108, 101, 47, 103, 114, 97, 112, 104, 99, 111, 100, 101, 47, 108, 97, 119, 115, 46, 70, 110, 85, 110, 102, 114, 97, 109, 101, 66, 121, 116, 101, 115]) := by kernel_rfl
  rw [h, String.toList_ofList]
def ioC : List Char := List.map Char.ofNat [99, 117, 116]
def ioR : List (List Char) := [List.map Char.ofNat [97, 116], List.map Char.ofNat [108, 111, 111, 112, 46, 101, 120, 97, 109, 112, 108, 101, 47, 103, 114, 97, 112, 104, 99, 111, 100, 101, 47, 108, 97, 119, 115, 46, 70, 110, 82, 117, 108, 101, 115, 65, 108, 108, 111, 119], List.map Char.ofNat [108, 111, 111, 112, 46, 101, 120, 97, 109, 112, 108, 101, 47, 103, 114, 97, 112, 104, 99, 111, 100, 101, 47, 108, 97, 119, 115, 46, 70, 110, 86, 97, 108, 105, 100, 79, 112, 115], List.map Char.ofNat [108, 111, 111, 112, 46, 101, 120, 97, 109, 112, 108, 101, 47, 103, 114, 97, 112, 104, 99, 111, 100, 101, 47, 108, 97, 119, 115, 46, 70, 110, 86, 97, 108, 105, 100, 77, 97, 99, 104, 105, 110, 101], List.map Char.ofNat [108, 111, 111, 112, 46, 101, 120, 97, 109, 112, 108, 101, 47, 103, 114, 97, 112, 104, 99, 111, 100, 101, 47, 108, 97, 119, 115, 46, 70, 110, 73, 115, 83, 104, 111, 114, 116], List.map Char.ofNat [108, 111, 111, 112, 46, 101, 120, 97, 109, 112, 108, 101, 47, 103, 114, 97, 112, 104, 99, 111, 100, 101, 47, 108, 97, 119, 115, 46, 70, 110, 67, 111, 117, 110, 116, 67, 111, 100, 101, 115], List.map Char.ofNat [108, 111, 111, 112, 46, 101, 120, 97, 109, 112, 108, 101, 47, 103, 114, 97, 112, 104, 99, 111, 100, 101, 47, 108, 97, 119, 115, 46, 70, 110, 83, 105, 122, 101, 79, 102], List.map Char.ofNat [108, 111, 111, 112, 46, 101, 120, 97, 109, 112, 108, 101, 47, 103, 114, 97, 112, 104, 99, 111, 100, 101, 47, 108, 97, 119, 115, 46, 70, 110, 80, 108, 97, 99, 101, 115, 79, 102], List.map Char.ofNat [108, 111, 111, 112, 46, 101, 120, 97, 109, 112, 108, 101, 47, 103, 114, 97, 112, 104, 99, 111, 100, 101, 47, 108, 97, 119, 115, 46, 70, 110, 69, 110, 99, 111, 100, 101, 79, 112, 115, 74, 111, 105, 110], List.map Char.ofNat [108, 111, 111, 112, 46, 101, 120, 97, 109, 112, 108, 101, 47, 103, 114, 97, 112, 104, 99, 111, 100, 101, 47, 108, 97, 119, 115, 46, 70, 110, 69, 110, 99, 111, 100, 101, 79, 112, 115], List.map Char.ofNat [108, 111, 111, 112, 46, 101, 120, 97, 109, 112, 108, 101, 47, 103, 114, 97, 112, 104, 99, 111, 100, 101, 47, 108, 97, 119, 115, 46, 70, 110, 83, 112, 108, 105, 116, 83, 116, 111, 112, 115], List.map Char.ofNat [108, 111, 111, 112, 46, 101, 120, 97, 109, 112, 108, 101, 47, 103, 114, 97, 112, 104, 99, 111, 100, 101, 47, 108, 97, 119, 115, 46, 70, 110, 70, 114, 97, 109, 101, 66, 121, 116, 101, 115], List.map Char.ofNat [108, 111, 111, 112, 46, 101, 120, 97, 109, 112, 108, 101, 47, 103, 114, 97, 112, 104, 99, 111, 100, 101, 47, 108, 97, 119, 115, 46, 70, 110, 85, 110, 102, 114, 97, 109, 101, 84, 111, 114, 110], List.map Char.ofNat [108, 111, 111, 112, 46, 101, 120, 97, 109, 112, 108, 101, 47, 103, 114, 97, 112, 104, 99, 111, 100, 101, 47, 108, 97, 119, 115, 46, 70, 110, 85, 110, 102, 114, 97, 109, 101, 66, 121, 116, 101, 115]]
theorem words : behindMainWord (wordsSigns Try.prog.initOrder.toList) = ioC :: ioR := by
  rw [ioChars]; kernel_rfl
theorem later : Try.prog.laysLater = false := by kernel_rfl
theorem refl_ : Try.prog.bearsReflect = false := by kernel_rfl
theorem doors : Try.prog.doorRows = [] := by kernel_rfl
theorem strip : stripLifts liftWords (ioC :: ioR) = ([], ioC :: ioR) := by kernel_rfl
theorem door : Try.prog.doorFits [] = true := by
  unfold Program.doorFits
  rw [doors]
  kernel_rfl
theorem isCut : (ioC == "cut".toList) = true := by kernel_rfl
theorem may : Try.prog.mayEnter = true := may_of _ _ _ words strip isCut later refl_ door
theorem lifts : Try.prog.liftsFinal = false := lifts_of _ _ _ words strip isCut
theorem made : Try.prog.make = some .cut := made_of _ _ _ words isCut
theorem pLaid : laidOutB Try.prog = true := by kernel_rfl
theorem pMaps : mapsRowed Try.prog = true := by kernel_rfl
theorem pStops : (Try.prog.stops == []) = true := by kernel_rfl
theorem pKnobs : (Try.prog.stopKnobs == []) = true := by kernel_rfl
theorem pHeard : Try.prog.stopsHeard = true := by kernel_rfl
end Go.Proofs.Ytgenllcfpjgklaa.R
