/- FnExactCutOps: for every input the law returns true, and its argument reads as it did. -/
import Derived.Test.YtcodbpjaamggeaaRows
import Derived.Test.YtcodbpjaamggeaaRa
import Derived.Test.YtcodbpjaamggeaaRb
import Derived.Test.YtcodbpjaamggeaaDc
import Derived.WalkKit
import Derived.ProofKit
import Derived.OpenShut
import Derived.ChangeOld
import Derived.Below
import Derived.SizedLaws
set_option linter.unusedVariables false
set_option linter.unusedSimpArgs false
namespace Go.Proofs.Ytcodbpjaamggeaa.R
open Go.ChangeShapes Go.WideShapes Go.ChangeAt Go.RowKit

set_option maxRecDepth 100000 in
theorem fnExactCutOps_lifted (os : Os) (started : os.Started) (H : Type) (enc : TypeId × Value → H) :
    ReturnsInHanded {} Try.checked os 5 .any (Rows.fnExactCutOpsSpec.pre6 enc Try.prog Try.f5 Rows.fnExactCutOpsRow.domain false) (Rows.fnExactCutOpsSpec.post enc Try.prog Try.f5 false true false false) := by
  refine returnsInHanded_of_change_sized (C := Try.checked) own started (by kernel_rfl) Try.func5
    (ChangeSpec.witness6 (enc := enc) (C := Try.checked) false ⟨#[], #[.slice none 0 0], []⟩ 8 (by kernel_rfl) (by kernel_rfl) (by kernel_rfl) (by kernel_rfl)) ?_
  intro W base args ds gs before hval0 hW hcnd hsz0 _
  have hval : ∀ (j : Nat) t v, Try.f5.params[j]? = some t → args[j]? = some v → Value.okWide Try.prog W .any base t v := hval0
  have hW' := hW
  obtain ⟨p, q, hA0, hV, rfl, hfz, hnd⟩ := hW
  have hA : DataW.TrodAll enc Try.prog W 0 (fun _ => true) true Try.f5.params.toList args.toList ds p := hA0
  rw [Try.params5] at hA hval
  obtain ⟨v0, vs0, d0, ds0, p0, q0, hargs, rfl, rfl, h0, r0⟩ := trodAll_cons hA
  obtain ⟨rfl, rfl, rfl⟩ := trodAll_nil r0
  obtain rfl : args = #[v0] := by cases args; simp_all
  obtain ⟨rfl, rfl⟩ := trodVars_none hV
  obtain ⟨a0, len0, cap0, rfl⟩ := okWide_slice Try.underlying22 (hval 0 22 v0 rfl rfl)
  have k0 := h0
  have lt0 : ∀ x ∈ p0, x.block < W.heap.size := by obtain ⟨m, hm⟩ := k0; exact DataW.trod_lt m _ _ _ hm
  obtain ⟨l, rfl, hl⟩ := open_two Try.underlying22 Try.underlying77 (by kernel_rfl) (by kernel_rfl) (by kernel_rfl) (by kernel_rfl) h0
  clear hA0 hval0 hsz0
  refine (C.FnExactCutOps_c a0 cap0 l W hl).mono fun e W' ⟨he, bel⟩ => ?_
  subst he
  exact ⟨_, rfl, _, _, _, [], _, [], hW', trodAll_mk1 (shut_bool Try.underlying4 _), (trodAll_cons_mk (Below.trod laidOut (by kernel_rfl) (of_decide_eq_true (by kernel_rfl)) k0 bel lt0) trodAll_mk0), rfl, bel.frame _, fun h => by cases h⟩
theorem fnExactCutOps_j1 : Rows.fnExactCutOpsRow.wf (OpenSpec.ofChange Rows.fnExactCutOpsSpec) = true := by kernel_rfl
theorem fnExactCutOps_j4 : Try.f5.params.all (Try.prog.readableRec ·) = true := by kernel_rfl
theorem fnExactCutOps_j5 : namedTie Try.prog Rows.fnExactCutOpsRow.named Rows.fnExactCutOpsSpec.vars = true := by kernel_rfl
theorem fnExactCutOps_j6 : (Rows.fnExactCutOpsRow.stops == []) = true := by kernel_rfl
theorem fnExactCutOps_j8 : (Rows.fnExactCutOpsRow.knobs == []) = true := by kernel_rfl
theorem fnExactCutOps_j10 : (Rows.fnExactCutOpsRow.inPlace == Try.prog.inPlace 5) = true := by kernel_rfl
theorem fnExactCutOps_j11 : (Rows.fnExactCutOpsRow.unfollowed == Try.prog.unfollowed 5) = true := by kernel_rfl
theorem fnExactCutOps_j12 : (Rows.fnExactCutOpsRow.recurses == Try.prog.recurses 5) = true := by kernel_rfl
theorem fnExactCutOps_j13 : (Rows.fnExactCutOpsRow.named == Try.prog.varsNamed 5) = true := by kernel_rfl
theorem fnExactCutOps_j14 : (Rows.fnExactCutOpsRow.maps == (Try.f5.params.toList ++ (Rows.fnExactCutOpsSpec).plain.varTypes Try.prog).any (Try.prog.mapsRec ·)) = true := by kernel_rfl
theorem fnExactCutOps_j15 : (Rows.fnExactCutOpsRow.ifaces == (Try.f5.params.toList ++ (Rows.fnExactCutOpsSpec).plain.varTypes Try.prog).any (Try.prog.ifacesRec ·)) = true := by kernel_rfl
theorem fnExactCutOps_j16 : (Rows.fnExactCutOpsRow.mapsOut == Try.prog.mapsAmong Try.f5.resultTypes.toList) = true := by kernel_rfl
theorem fnExactCutOps_j17 : (Rows.fnExactCutOpsRow.loops == (Try.f5.params.toList ++ (Rows.fnExactCutOpsSpec).plain.varTypes Try.prog).any (Try.prog.loopsFrom ·)) = true := by kernel_rfl
theorem fnExactCutOps_j18 : (Rows.fnExactCutOpsRow.wideKeys == (Try.f5.params.toList ++ (Rows.fnExactCutOpsSpec).plain.varTypes Try.prog ++ Try.f5.resultTypes.toList).any (Try.prog.wideKeysFrom ·)) = true := by kernel_rfl
theorem fnExactCutOps_j19 : Rows.fnExactCutOpsSpec.vars.all (Try.prog.varReadable ·) = true := by kernel_rfl
theorem fnExactCutOps_j20 : Try.f5.resultTypes.all (fun t => Try.prog.readableRec t && decide (t < Try.prog.types.size)) = true := by kernel_rfl
theorem fnExactCutOps_j21 : (Rows.fnExactCutOpsRow.ifacesOut == Try.f5.resultTypes.toList.any (Try.prog.ifacesRec ·)) = true := by kernel_rfl
theorem fnExactCutOps_j22 : (Rows.fnExactCutOpsRow.loopsOut == Try.f5.resultTypes.toList.any (Try.prog.loopsFrom ·)) = true := by kernel_rfl
theorem fnExactCutOps_j23 : (Rows.fnExactCutOpsRow.plainKeys == Try.prog.plainKeys) = true := by kernel_rfl
theorem fnExactCutOps_j24 : Rows.fnExactCutOpsRow.shortTexts.isNone = true := by kernel_rfl
theorem fnExactCutOps_j30 : (Rows.fnExactCutOpsRow.pinned == Rows.fnExactCutOpsRow.pinnedBy) = true := by kernel_rfl
theorem fnExactCutOps_j31 : (Rows.fnExactCutOpsRow.veiled == (Try.f5.params.toList ++ (Rows.fnExactCutOpsSpec).plain.varTypes Try.prog ++ Try.f5.resultTypes.toList).any (Try.prog.veiledRec ·)) = true := by kernel_rfl
theorem fnExactCutOps_j32 : Rows.fnExactCutOpsRow.veiledFits Try.prog Try.f5.params.toList (Try.f5.params.toList ++ (Rows.fnExactCutOpsSpec).plain.varTypes Try.prog ++ Try.f5.resultTypes.toList) = true := by kernel_rfl
theorem fnExactCutOps_closed : joinedFacts Try.prog 5 Try.f5 Rows.fnExactCutOpsSpec Rows.fnExactCutOpsRow = true :=
  closed_of _ _ _ _ _ fnExactCutOps_j1 pLaid pMaps fnExactCutOps_j4 fnExactCutOps_j5 fnExactCutOps_j6 pStops fnExactCutOps_j8 pKnobs fnExactCutOps_j10 fnExactCutOps_j11 fnExactCutOps_j12 fnExactCutOps_j13 fnExactCutOps_j14 fnExactCutOps_j15 fnExactCutOps_j16 fnExactCutOps_j17 fnExactCutOps_j18 fnExactCutOps_j19 fnExactCutOps_j20 fnExactCutOps_j21 fnExactCutOps_j22 fnExactCutOps_j23 fnExactCutOps_j24 pHeard may lifts rfl made rfl (by kernel_rfl) fnExactCutOps_j30 fnExactCutOps_j31 fnExactCutOps_j32
theorem fnExactCutOps_inst : Try.f5.isInstance Try.prog Rows.fnExactCutOpsRow.origin Rows.fnExactCutOpsRow.targs := of_decide_eq_true (by kernel_rfl)
theorem fnExactCutOps_wrap : Try.f5.isWrapper Try.prog Rows.fnExactCutOpsRow.wrapper Rows.fnExactCutOpsRow.mainSum := by unfold Func.isWrapper; first | (rw [if_pos (by decide +kernel)]; kernel_rfl) | (rw [if_neg (by decide +kernel)]; exact ⟨rfl, rfl⟩)
theorem fnExactCutOps_over : Rows.fnExactCutOpsRow.holds Try.pinned (OpenSpec.ofChange Rows.fnExactCutOpsSpec) :=
  OpenClaim.holds_of_wide 5 Try.f5 rfl rfl rfl rfl rfl rfl rfl ⟨rfl, rfl, rfl, rfl, rfl⟩ rfl rfl rfl rfl rfl (by kernel_rfl) Try.func5 fnExactCutOps_closed
    fnExactCutOps_inst fnExactCutOps_wrap
    (fun os started H enc _ => fnExactCutOps_lifted os started H enc)
end Go.Proofs.Ytcodbpjaamggeaa.R
namespace Go.Proofs.Ytcodbpjaamggeaa
/-- The row, under a short name, for the claim. -/
theorem fnExactCutOps_holds : Rows.FnExactCutOpsSaid := R.fnExactCutOps_over
#print axioms fnExactCutOps_holds
end Go.Proofs.Ytcodbpjaamggeaa
