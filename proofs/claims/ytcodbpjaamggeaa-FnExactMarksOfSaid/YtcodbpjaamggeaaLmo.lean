/- FnExactMarksOf: for every input the law returns true, and its argument reads as it did. -/
import Derived.Test.YtcodbpjaamggeaaRows
import Derived.Test.YtcodbpjaamggeaaRa
import Derived.Test.YtcodbpjaamggeaaRb
import Derived.Test.YtcodbpjaamggeaaDd
import Derived.WalkKit
import Derived.ProofKit
import Derived.OpenShut
import Derived.ChangeOld
import Derived.Below
import Derived.SizedLaws
set_option linter.unusedVariables false
set_option linter.unusedSimpArgs false
namespace Go.Proofs.Ytcodbpjaamggeaa.R
open Go.ChangeShapes Go.WideShapes Go.ChangeAt Go.RowKit

set_option maxRecDepth 100000 in
theorem fnExactMarksOf_lifted (os : Os) (started : os.Started) (H : Type) (enc : TypeId × Value → H) :
    ReturnsInHanded {} Try.checked os 7 .any (Rows.fnExactMarksOfSpec.pre6 enc Try.prog Try.f7 Rows.fnExactMarksOfRow.domain false) (Rows.fnExactMarksOfSpec.post enc Try.prog Try.f7 false true false false) := by
  refine returnsInHanded_of_change_sized (C := Try.checked) own started (by kernel_rfl) Try.func7
    (ChangeSpec.witness6 (enc := enc) (C := Try.checked) false ⟨#[], #[.slice none 0 0], []⟩ 8 (by kernel_rfl) (by kernel_rfl) (by kernel_rfl) (by kernel_rfl)) ?_
  intro W base args ds gs before hval0 hW hcnd hsz0 _
  have hval : ∀ (j : Nat) t v, Try.f7.params[j]? = some t → args[j]? = some v → Value.okWide Try.prog W .any base t v := hval0
  have hW' := hW
  obtain ⟨p, q, hA0, hV, rfl, hfz, hnd⟩ := hW
  have hA : DataW.TrodAll enc Try.prog W 0 (fun _ => true) true Try.f7.params.toList args.toList ds p := hA0
  rw [Try.params7] at hA hval
  obtain ⟨v0, vs0, d0, ds0, p0, q0, hargs, rfl, rfl, h0, r0⟩ := trodAll_cons hA
  obtain ⟨rfl, rfl, rfl⟩ := trodAll_nil r0
  obtain rfl : args = #[v0] := by cases args; simp_all
  obtain ⟨rfl, rfl⟩ := trodVars_none hV
  obtain ⟨a0, len0, cap0, rfl⟩ := okWide_slice Try.underlying22 (hval 0 22 v0 rfl rfl)
  have k0 := h0
  have lt0 : ∀ x ∈ p0, x.block < W.heap.size := by obtain ⟨m, hm⟩ := k0; exact DataW.trod_lt m _ _ _ hm
  obtain ⟨l, rfl, hl⟩ := open_two Try.underlying22 Try.underlying77 (by kernel_rfl) (by kernel_rfl) (by kernel_rfl) (by kernel_rfl) h0
  clear hA0 hval0 hsz0
  refine (C.FnExactMarksOf_c a0 cap0 l W hl).mono fun e W' ⟨he, bel⟩ => ?_
  subst he
  exact ⟨_, rfl, _, _, _, [], _, [], hW', trodAll_mk1 (shut_bool Try.underlying4 _), (trodAll_cons_mk (Below.trod laidOut (by kernel_rfl) (of_decide_eq_true (by kernel_rfl)) k0 bel lt0) trodAll_mk0), rfl, bel.frame _, fun h => by cases h⟩
theorem fnExactMarksOf_j1 : Rows.fnExactMarksOfRow.wf (OpenSpec.ofChange Rows.fnExactMarksOfSpec) = true := by kernel_rfl
theorem fnExactMarksOf_j4 : Try.f7.params.all (Try.prog.readableRec ·) = true := by kernel_rfl
theorem fnExactMarksOf_j5 : namedTie Try.prog Rows.fnExactMarksOfRow.named Rows.fnExactMarksOfSpec.vars = true := by kernel_rfl
theorem fnExactMarksOf_j6 : (Rows.fnExactMarksOfRow.stops == []) = true := by kernel_rfl
theorem fnExactMarksOf_j8 : (Rows.fnExactMarksOfRow.knobs == []) = true := by kernel_rfl
theorem fnExactMarksOf_j10 : (Rows.fnExactMarksOfRow.inPlace == Try.prog.inPlace 7) = true := by kernel_rfl
theorem fnExactMarksOf_j11 : (Rows.fnExactMarksOfRow.unfollowed == Try.prog.unfollowed 7) = true := by kernel_rfl
theorem fnExactMarksOf_j12 : (Rows.fnExactMarksOfRow.recurses == Try.prog.recurses 7) = true := by kernel_rfl
theorem fnExactMarksOf_j13 : (Rows.fnExactMarksOfRow.named == Try.prog.varsNamed 7) = true := by kernel_rfl
theorem fnExactMarksOf_j14 : (Rows.fnExactMarksOfRow.maps == (Try.f7.params.toList ++ (Rows.fnExactMarksOfSpec).plain.varTypes Try.prog).any (Try.prog.mapsRec ·)) = true := by kernel_rfl
theorem fnExactMarksOf_j15 : (Rows.fnExactMarksOfRow.ifaces == (Try.f7.params.toList ++ (Rows.fnExactMarksOfSpec).plain.varTypes Try.prog).any (Try.prog.ifacesRec ·)) = true := by kernel_rfl
theorem fnExactMarksOf_j16 : (Rows.fnExactMarksOfRow.mapsOut == Try.prog.mapsAmong Try.f7.resultTypes.toList) = true := by kernel_rfl
theorem fnExactMarksOf_j17 : (Rows.fnExactMarksOfRow.loops == (Try.f7.params.toList ++ (Rows.fnExactMarksOfSpec).plain.varTypes Try.prog).any (Try.prog.loopsFrom ·)) = true := by kernel_rfl
theorem fnExactMarksOf_j18 : (Rows.fnExactMarksOfRow.wideKeys == (Try.f7.params.toList ++ (Rows.fnExactMarksOfSpec).plain.varTypes Try.prog ++ Try.f7.resultTypes.toList).any (Try.prog.wideKeysFrom ·)) = true := by kernel_rfl
theorem fnExactMarksOf_j19 : Rows.fnExactMarksOfSpec.vars.all (Try.prog.varReadable ·) = true := by kernel_rfl
theorem fnExactMarksOf_j20 : Try.f7.resultTypes.all (fun t => Try.prog.readableRec t && decide (t < Try.prog.types.size)) = true := by kernel_rfl
theorem fnExactMarksOf_j21 : (Rows.fnExactMarksOfRow.ifacesOut == Try.f7.resultTypes.toList.any (Try.prog.ifacesRec ·)) = true := by kernel_rfl
theorem fnExactMarksOf_j22 : (Rows.fnExactMarksOfRow.loopsOut == Try.f7.resultTypes.toList.any (Try.prog.loopsFrom ·)) = true := by kernel_rfl
theorem fnExactMarksOf_j23 : (Rows.fnExactMarksOfRow.plainKeys == Try.prog.plainKeys) = true := by kernel_rfl
theorem fnExactMarksOf_j24 : Rows.fnExactMarksOfRow.shortTexts.isNone = true := by kernel_rfl
theorem fnExactMarksOf_j30 : (Rows.fnExactMarksOfRow.pinned == Rows.fnExactMarksOfRow.pinnedBy) = true := by kernel_rfl
theorem fnExactMarksOf_j31 : (Rows.fnExactMarksOfRow.veiled == (Try.f7.params.toList ++ (Rows.fnExactMarksOfSpec).plain.varTypes Try.prog ++ Try.f7.resultTypes.toList).any (Try.prog.veiledRec ·)) = true := by kernel_rfl
theorem fnExactMarksOf_j32 : Rows.fnExactMarksOfRow.veiledFits Try.prog Try.f7.params.toList (Try.f7.params.toList ++ (Rows.fnExactMarksOfSpec).plain.varTypes Try.prog ++ Try.f7.resultTypes.toList) = true := by kernel_rfl
theorem fnExactMarksOf_closed : joinedFacts Try.prog 7 Try.f7 Rows.fnExactMarksOfSpec Rows.fnExactMarksOfRow = true :=
  closed_of _ _ _ _ _ fnExactMarksOf_j1 pLaid pMaps fnExactMarksOf_j4 fnExactMarksOf_j5 fnExactMarksOf_j6 pStops fnExactMarksOf_j8 pKnobs fnExactMarksOf_j10 fnExactMarksOf_j11 fnExactMarksOf_j12 fnExactMarksOf_j13 fnExactMarksOf_j14 fnExactMarksOf_j15 fnExactMarksOf_j16 fnExactMarksOf_j17 fnExactMarksOf_j18 fnExactMarksOf_j19 fnExactMarksOf_j20 fnExactMarksOf_j21 fnExactMarksOf_j22 fnExactMarksOf_j23 fnExactMarksOf_j24 pHeard may lifts rfl made rfl (by kernel_rfl) fnExactMarksOf_j30 fnExactMarksOf_j31 fnExactMarksOf_j32
theorem fnExactMarksOf_inst : Try.f7.isInstance Try.prog Rows.fnExactMarksOfRow.origin Rows.fnExactMarksOfRow.targs := of_decide_eq_true (by kernel_rfl)
theorem fnExactMarksOf_wrap : Try.f7.isWrapper Try.prog Rows.fnExactMarksOfRow.wrapper Rows.fnExactMarksOfRow.mainSum := by unfold Func.isWrapper; first | (rw [if_pos (by decide +kernel)]; kernel_rfl) | (rw [if_neg (by decide +kernel)]; exact ⟨rfl, rfl⟩)
theorem fnExactMarksOf_over : Rows.fnExactMarksOfRow.holds Try.pinned (OpenSpec.ofChange Rows.fnExactMarksOfSpec) :=
  OpenClaim.holds_of_wide 7 Try.f7 rfl rfl rfl rfl rfl rfl rfl ⟨rfl, rfl, rfl, rfl, rfl⟩ rfl rfl rfl rfl rfl (by kernel_rfl) Try.func7 fnExactMarksOf_closed
    fnExactMarksOf_inst fnExactMarksOf_wrap
    (fun os started H enc _ => fnExactMarksOf_lifted os started H enc)
end Go.Proofs.Ytcodbpjaamggeaa.R
namespace Go.Proofs.Ytcodbpjaamggeaa
/-- The row, under a short name, for the claim. -/
theorem fnExactMarksOf_holds : Rows.FnExactMarksOfSaid := R.fnExactMarksOf_over
#print axioms fnExactMarksOf_holds
end Go.Proofs.Ytcodbpjaamggeaa
