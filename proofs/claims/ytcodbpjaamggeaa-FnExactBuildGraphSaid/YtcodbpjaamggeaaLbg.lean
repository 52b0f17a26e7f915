/- FnExactBuildGraph: for every input the law returns true, and its argument reads as it did. -/
import Derived.Test.YtcodbpjaamggeaaRows
import Derived.Test.YtcodbpjaamggeaaRa
import Derived.Test.YtcodbpjaamggeaaRb
import Derived.Test.YtcodbpjaamggeaaDi
import Derived.WalkKit
import Derived.ProofKit
import Derived.OpenShut
import Derived.ChangeOld
import Derived.Below
import Derived.SizedLaws
set_option linter.unusedVariables false
set_option linter.unusedSimpArgs false
namespace Go.Proofs.Ytcodbpjaamggeaa.R
open Go.ChangeShapes Go.WideShapes Go.ChangeAt Go.RowKit

set_option maxRecDepth 100000 in
theorem fnExactBuildGraph_lifted (os : Os) (started : os.Started) (H : Type) (enc : TypeId × Value → H) :
    ReturnsInHanded {} Try.checked os 13 .any (Rows.fnExactBuildGraphSpec.pre6 enc Try.prog Try.f13 Rows.fnExactBuildGraphRow.domain false) (Rows.fnExactBuildGraphSpec.post enc Try.prog Try.f13 false true false false) := by
  refine returnsInHanded_of_change_sized (C := Try.checked) own started (by kernel_rfl) Try.func13
    (ChangeSpec.witness6 (enc := enc) (C := Try.checked) false ⟨#[], #[.slice none 0 0], []⟩ 8 (by kernel_rfl) (by kernel_rfl) (by kernel_rfl) (by kernel_rfl)) ?_
  intro W base args ds gs before hval0 hW hcnd hsz0 _
  have hval : ∀ (j : Nat) t v, Try.f13.params[j]? = some t → args[j]? = some v → Value.okWide Try.prog W .any base t v := hval0
  have hW' := hW
  obtain ⟨p, q, hA0, hV, rfl, hfz, hnd⟩ := hW
  have hA : DataW.TrodAll enc Try.prog W 0 (fun _ => true) true Try.f13.params.toList args.toList ds p := hA0
  rw [Try.params13] at hA hval
  obtain ⟨v0, vs0, d0, ds0, p0, q0, hargs, rfl, rfl, h0, r0⟩ := trodAll_cons hA
  obtain ⟨rfl, rfl, rfl⟩ := trodAll_nil r0
  obtain rfl : args = #[v0] := by cases args; simp_all
  obtain ⟨rfl, rfl⟩ := trodVars_none hV
  obtain ⟨a0, len0, cap0, rfl⟩ := okWide_slice Try.underlying22 (hval 0 22 v0 rfl rfl)
  have k0 := h0
  have lt0 : ∀ x ∈ p0, x.block < W.heap.size := by obtain ⟨m, hm⟩ := k0; exact DataW.trod_lt m _ _ _ hm
  obtain ⟨l, rfl, hl⟩ := open_two Try.underlying22 Try.underlying77 (by kernel_rfl) (by kernel_rfl) (by kernel_rfl) (by kernel_rfl) h0
  clear hA0 hval0 hsz0
  refine (C.FnExactBuildGraph_c a0 cap0 l W hl).mono fun e W' ⟨he, bel⟩ => ?_
  subst he
  exact ⟨_, rfl, _, _, _, [], _, [], hW', trodAll_mk1 (shut_bool Try.underlying4 _), (trodAll_cons_mk (Below.trod laidOut (by kernel_rfl) (of_decide_eq_true (by kernel_rfl)) k0 bel lt0) trodAll_mk0), rfl, bel.frame _, fun h => by cases h⟩
theorem fnExactBuildGraph_j1 : Rows.fnExactBuildGraphRow.wf (OpenSpec.ofChange Rows.fnExactBuildGraphSpec) = true := by kernel_rfl
theorem fnExactBuildGraph_j4 : Try.f13.params.all (Try.prog.readableRec ·) = true := by kernel_rfl
theorem fnExactBuildGraph_j5 : namedTie Try.prog Rows.fnExactBuildGraphRow.named Rows.fnExactBuildGraphSpec.vars = true := by kernel_rfl
theorem fnExactBuildGraph_j6 : (Rows.fnExactBuildGraphRow.stops == []) = true := by kernel_rfl
theorem fnExactBuildGraph_j8 : (Rows.fnExactBuildGraphRow.knobs == []) = true := by kernel_rfl
theorem fnExactBuildGraph_j10 : (Rows.fnExactBuildGraphRow.inPlace == Try.prog.inPlace 13) = true := by kernel_rfl
theorem fnExactBuildGraph_j11 : (Rows.fnExactBuildGraphRow.unfollowed == Try.prog.unfollowed 13) = true := by kernel_rfl
theorem fnExactBuildGraph_j12 : (Rows.fnExactBuildGraphRow.recurses == Try.prog.recurses 13) = true := by kernel_rfl
theorem fnExactBuildGraph_j13 : (Rows.fnExactBuildGraphRow.named == Try.prog.varsNamed 13) = true := by kernel_rfl
theorem fnExactBuildGraph_j14 : (Rows.fnExactBuildGraphRow.maps == (Try.f13.params.toList ++ (Rows.fnExactBuildGraphSpec).plain.varTypes Try.prog).any (Try.prog.mapsRec ·)) = true := by kernel_rfl
theorem fnExactBuildGraph_j15 : (Rows.fnExactBuildGraphRow.ifaces == (Try.f13.params.toList ++ (Rows.fnExactBuildGraphSpec).plain.varTypes Try.prog).any (Try.prog.ifacesRec ·)) = true := by kernel_rfl
theorem fnExactBuildGraph_j16 : (Rows.fnExactBuildGraphRow.mapsOut == Try.prog.mapsAmong Try.f13.resultTypes.toList) = true := by kernel_rfl
theorem fnExactBuildGraph_j17 : (Rows.fnExactBuildGraphRow.loops == (Try.f13.params.toList ++ (Rows.fnExactBuildGraphSpec).plain.varTypes Try.prog).any (Try.prog.loopsFrom ·)) = true := by kernel_rfl
theorem fnExactBuildGraph_j18 : (Rows.fnExactBuildGraphRow.wideKeys == (Try.f13.params.toList ++ (Rows.fnExactBuildGraphSpec).plain.varTypes Try.prog ++ Try.f13.resultTypes.toList).any (Try.prog.wideKeysFrom ·)) = true := by kernel_rfl
theorem fnExactBuildGraph_j19 : Rows.fnExactBuildGraphSpec.vars.all (Try.prog.varReadable ·) = true := by kernel_rfl
theorem fnExactBuildGraph_j20 : Try.f13.resultTypes.all (fun t => Try.prog.readableRec t && decide (t < Try.prog.types.size)) = true := by kernel_rfl
theorem fnExactBuildGraph_j21 : (Rows.fnExactBuildGraphRow.ifacesOut == Try.f13.resultTypes.toList.any (Try.prog.ifacesRec ·)) = true := by kernel_rfl
theorem fnExactBuildGraph_j22 : (Rows.fnExactBuildGraphRow.loopsOut == Try.f13.resultTypes.toList.any (Try.prog.loopsFrom ·)) = true := by kernel_rfl
theorem fnExactBuildGraph_j23 : (Rows.fnExactBuildGraphRow.plainKeys == Try.prog.plainKeys) = true := by kernel_rfl
theorem fnExactBuildGraph_j24 : Rows.fnExactBuildGraphRow.shortTexts.isNone = true := by kernel_rfl
theorem fnExactBuildGraph_j30 : (Rows.fnExactBuildGraphRow.pinned == Rows.fnExactBuildGraphRow.pinnedBy) = true := by kernel_rfl
theorem fnExactBuildGraph_j31 : (Rows.fnExactBuildGraphRow.veiled == (Try.f13.params.toList ++ (Rows.fnExactBuildGraphSpec).plain.varTypes Try.prog ++ Try.f13.resultTypes.toList).any (Try.prog.veiledRec ·)) = true := by kernel_rfl
theorem fnExactBuildGraph_j32 : Rows.fnExactBuildGraphRow.veiledFits Try.prog Try.f13.params.toList (Try.f13.params.toList ++ (Rows.fnExactBuildGraphSpec).plain.varTypes Try.prog ++ Try.f13.resultTypes.toList) = true := by kernel_rfl
theorem fnExactBuildGraph_closed : joinedFacts Try.prog 13 Try.f13 Rows.fnExactBuildGraphSpec Rows.fnExactBuildGraphRow = true :=
  closed_of _ _ _ _ _ fnExactBuildGraph_j1 pLaid pMaps fnExactBuildGraph_j4 fnExactBuildGraph_j5 fnExactBuildGraph_j6 pStops fnExactBuildGraph_j8 pKnobs fnExactBuildGraph_j10 fnExactBuildGraph_j11 fnExactBuildGraph_j12 fnExactBuildGraph_j13 fnExactBuildGraph_j14 fnExactBuildGraph_j15 fnExactBuildGraph_j16 fnExactBuildGraph_j17 fnExactBuildGraph_j18 fnExactBuildGraph_j19 fnExactBuildGraph_j20 fnExactBuildGraph_j21 fnExactBuildGraph_j22 fnExactBuildGraph_j23 fnExactBuildGraph_j24 pHeard may lifts rfl made rfl (by kernel_rfl) fnExactBuildGraph_j30 fnExactBuildGraph_j31 fnExactBuildGraph_j32
theorem fnExactBuildGraph_inst : Try.f13.isInstance Try.prog Rows.fnExactBuildGraphRow.origin Rows.fnExactBuildGraphRow.targs := of_decide_eq_true (by kernel_rfl)
theorem fnExactBuildGraph_wrap : Try.f13.isWrapper Try.prog Rows.fnExactBuildGraphRow.wrapper Rows.fnExactBuildGraphRow.mainSum := by unfold Func.isWrapper; first | (rw [if_pos (by decide +kernel)]; kernel_rfl) | (rw [if_neg (by decide +kernel)]; exact ⟨rfl, rfl⟩)
theorem fnExactBuildGraph_over : Rows.fnExactBuildGraphRow.holds Try.pinned (OpenSpec.ofChange Rows.fnExactBuildGraphSpec) :=
  OpenClaim.holds_of_wide 13 Try.f13 rfl rfl rfl rfl rfl rfl rfl ⟨rfl, rfl, rfl, rfl, rfl⟩ rfl rfl rfl rfl rfl (by kernel_rfl) Try.func13 fnExactBuildGraph_closed
    fnExactBuildGraph_inst fnExactBuildGraph_wrap
    (fun os started H enc _ => fnExactBuildGraph_lifted os started H enc)
end Go.Proofs.Ytcodbpjaamggeaa.R
namespace Go.Proofs.Ytcodbpjaamggeaa
/-- The row, under a short name, for the claim. -/
theorem fnExactBuildGraph_holds : Rows.FnExactBuildGraphSaid := R.fnExactBuildGraph_over
#print axioms fnExactBuildGraph_holds
end Go.Proofs.Ytcodbpjaamggeaa
