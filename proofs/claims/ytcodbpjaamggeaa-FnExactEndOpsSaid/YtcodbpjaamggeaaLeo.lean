/- FnExactEndOps: for every input the law returns true, and its argument reads as it did. -/
import Derived.Test.YtcodbpjaamggeaaRows
import Derived.Test.YtcodbpjaamggeaaRa
import Derived.Test.YtcodbpjaamggeaaRb
import Derived.Test.YtcodbpjaamggeaaDf
import Derived.WalkKit
import Derived.ProofKit
import Derived.OpenShut
import Derived.ChangeOld
import Derived.Below
import Derived.SizedLaws
set_option linter.unusedVariables false
set_option linter.unusedSimpArgs false
namespace Go.Proofs.Ytcodbpjaamggeaa.R
open Go.ChangeShapes Go.WideShapes Go.ChangeAt Go.RowKit

set_option maxRecDepth 100000 in
theorem fnExactEndOps_lifted (os : Os) (started : os.Started) (H : Type) (enc : TypeId × Value → H) :
    ReturnsInHanded {} Try.checked os 10 .any (Rows.fnExactEndOpsSpec.pre6 enc Try.prog Try.f10 Rows.fnExactEndOpsRow.domain false) (Rows.fnExactEndOpsSpec.post enc Try.prog Try.f10 false true false false) := by
  refine returnsInHanded_of_change_sized (C := Try.checked) own started (by kernel_rfl) Try.func10
    (ChangeSpec.witness6 (enc := enc) (C := Try.checked) false ⟨#[], #[.slice none 0 0], []⟩ 8 (by kernel_rfl) (by kernel_rfl) (by kernel_rfl) (by kernel_rfl)) ?_
  intro W base args ds gs before hval0 hW hcnd hsz0 _
  have hval : ∀ (j : Nat) t v, Try.f10.params[j]? = some t → args[j]? = some v → Value.okWide Try.prog W .any base t v := hval0
  have hW' := hW
  obtain ⟨p, q, hA0, hV, rfl, hfz, hnd⟩ := hW
  have hA : DataW.TrodAll enc Try.prog W 0 (fun _ => true) true Try.f10.params.toList args.toList ds p := hA0
  rw [Try.params10] at hA hval
  obtain ⟨v0, vs0, d0, ds0, p0, q0, hargs, rfl, rfl, h0, r0⟩ := trodAll_cons hA
  obtain ⟨rfl, rfl, rfl⟩ := trodAll_nil r0
  obtain rfl : args = #[v0] := by cases args; simp_all
  obtain ⟨rfl, rfl⟩ := trodVars_none hV
  obtain ⟨a0, len0, cap0, rfl⟩ := okWide_slice Try.underlying22 (hval 0 22 v0 rfl rfl)
  have k0 := h0
  have lt0 : ∀ x ∈ p0, x.block < W.heap.size := by obtain ⟨m, hm⟩ := k0; exact DataW.trod_lt m _ _ _ hm
  obtain ⟨l, rfl, hl⟩ := open_two Try.underlying22 Try.underlying77 (by kernel_rfl) (by kernel_rfl) (by kernel_rfl) (by kernel_rfl) h0
  clear hA0 hval0 hsz0
  refine (C.FnExactEndOps_c a0 cap0 l W hl).mono fun e W' ⟨he, bel⟩ => ?_
  subst he
  exact ⟨_, rfl, _, _, _, [], _, [], hW', trodAll_mk1 (shut_bool Try.underlying4 _), (trodAll_cons_mk (Below.trod laidOut (by kernel_rfl) (of_decide_eq_true (by kernel_rfl)) k0 bel lt0) trodAll_mk0), rfl, bel.frame _, fun h => by cases h⟩
theorem fnExactEndOps_j1 : Rows.fnExactEndOpsRow.wf (OpenSpec.ofChange Rows.fnExactEndOpsSpec) = true := by kernel_rfl
theorem fnExactEndOps_j4 : Try.f10.params.all (Try.prog.readableRec ·) = true := by kernel_rfl
theorem fnExactEndOps_j5 : namedTie Try.prog Rows.fnExactEndOpsRow.named Rows.fnExactEndOpsSpec.vars = true := by kernel_rfl
theorem fnExactEndOps_j6 : (Rows.fnExactEndOpsRow.stops == []) = true := by kernel_rfl
theorem fnExactEndOps_j8 : (Rows.fnExactEndOpsRow.knobs == []) = true := by kernel_rfl
theorem fnExactEndOps_j10 : (Rows.fnExactEndOpsRow.inPlace == Try.prog.inPlace 10) = true := by kernel_rfl
theorem fnExactEndOps_j11 : (Rows.fnExactEndOpsRow.unfollowed == Try.prog.unfollowed 10) = true := by kernel_rfl
theorem fnExactEndOps_j12 : (Rows.fnExactEndOpsRow.recurses == Try.prog.recurses 10) = true := by kernel_rfl
theorem fnExactEndOps_j13 : (Rows.fnExactEndOpsRow.named == Try.prog.varsNamed 10) = true := by kernel_rfl
theorem fnExactEndOps_j14 : (Rows.fnExactEndOpsRow.maps == (Try.f10.params.toList ++ (Rows.fnExactEndOpsSpec).plain.varTypes Try.prog).any (Try.prog.mapsRec ·)) = true := by kernel_rfl
theorem fnExactEndOps_j15 : (Rows.fnExactEndOpsRow.ifaces == (Try.f10.params.toList ++ (Rows.fnExactEndOpsSpec).plain.varTypes Try.prog).any (Try.prog.ifacesRec ·)) = true := by kernel_rfl
theorem fnExactEndOps_j16 : (Rows.fnExactEndOpsRow.mapsOut == Try.prog.mapsAmong Try.f10.resultTypes.toList) = true := by kernel_rfl
theorem fnExactEndOps_j17 : (Rows.fnExactEndOpsRow.loops == (Try.f10.params.toList ++ (Rows.fnExactEndOpsSpec).plain.varTypes Try.prog).any (Try.prog.loopsFrom ·)) = true := by kernel_rfl
theorem fnExactEndOps_j18 : (Rows.fnExactEndOpsRow.wideKeys == (Try.f10.params.toList ++ (Rows.fnExactEndOpsSpec).plain.varTypes Try.prog ++ Try.f10.resultTypes.toList).any (Try.prog.wideKeysFrom ·)) = true := by kernel_rfl
theorem fnExactEndOps_j19 : Rows.fnExactEndOpsSpec.vars.all (Try.prog.varReadable ·) = true := by kernel_rfl
theorem fnExactEndOps_j20 : Try.f10.resultTypes.all (fun t => Try.prog.readableRec t && decide (t < Try.prog.types.size)) = true := by kernel_rfl
theorem fnExactEndOps_j21 : (Rows.fnExactEndOpsRow.ifacesOut == Try.f10.resultTypes.toList.any (Try.prog.ifacesRec ·)) = true := by kernel_rfl
theorem fnExactEndOps_j22 : (Rows.fnExactEndOpsRow.loopsOut == Try.f10.resultTypes.toList.any (Try.prog.loopsFrom ·)) = true := by kernel_rfl
theorem fnExactEndOps_j23 : (Rows.fnExactEndOpsRow.plainKeys == Try.prog.plainKeys) = true := by kernel_rfl
theorem fnExactEndOps_j24 : Rows.fnExactEndOpsRow.shortTexts.isNone = true := by kernel_rfl
theorem fnExactEndOps_j30 : (Rows.fnExactEndOpsRow.pinned == Rows.fnExactEndOpsRow.pinnedBy) = true := by kernel_rfl
theorem fnExactEndOps_j31 : (Rows.fnExactEndOpsRow.veiled == (Try.f10.params.toList ++ (Rows.fnExactEndOpsSpec).plain.varTypes Try.prog ++ Try.f10.resultTypes.toList).any (Try.prog.veiledRec ·)) = true := by kernel_rfl
theorem fnExactEndOps_j32 : Rows.fnExactEndOpsRow.veiledFits Try.prog Try.f10.params.toList (Try.f10.params.toList ++ (Rows.fnExactEndOpsSpec).plain.varTypes Try.prog ++ Try.f10.resultTypes.toList) = true := by kernel_rfl
theorem fnExactEndOps_closed : joinedFacts Try.prog 10 Try.f10 Rows.fnExactEndOpsSpec Rows.fnExactEndOpsRow = true :=
  closed_of _ _ _ _ _ fnExactEndOps_j1 pLaid pMaps fnExactEndOps_j4 fnExactEndOps_j5 fnExactEndOps_j6 pStops fnExactEndOps_j8 pKnobs fnExactEndOps_j10 fnExactEndOps_j11 fnExactEndOps_j12 fnExactEndOps_j13 fnExactEndOps_j14 fnExactEndOps_j15 fnExactEndOps_j16 fnExactEndOps_j17 fnExactEndOps_j18 fnExactEndOps_j19 fnExactEndOps_j20 fnExactEndOps_j21 fnExactEndOps_j22 fnExactEndOps_j23 fnExactEndOps_j24 pHeard may lifts rfl made rfl (by kernel_rfl) fnExactEndOps_j30 fnExactEndOps_j31 fnExactEndOps_j32
theorem fnExactEndOps_inst : Try.f10.isInstance Try.prog Rows.fnExactEndOpsRow.origin Rows.fnExactEndOpsRow.targs := of_decide_eq_true (by kernel_rfl)
theorem fnExactEndOps_wrap : Try.f10.isWrapper Try.prog Rows.fnExactEndOpsRow.wrapper Rows.fnExactEndOpsRow.mainSum := by unfold Func.isWrapper; first | (rw [if_pos (by decide +kernel)]; kernel_rfl) | (rw [if_neg (by decide +kernel)]; exact ⟨rfl, rfl⟩)
theorem fnExactEndOps_over : Rows.fnExactEndOpsRow.holds Try.pinned (OpenSpec.ofChange Rows.fnExactEndOpsSpec) :=
  OpenClaim.holds_of_wide 10 Try.f10 rfl rfl rfl rfl rfl rfl rfl ⟨rfl, rfl, rfl, rfl, rfl⟩ rfl rfl rfl rfl rfl (by kernel_rfl) Try.func10 fnExactEndOps_closed
    fnExactEndOps_inst fnExactEndOps_wrap
    (fun os started H enc _ => fnExactEndOps_lifted os started H enc)
end Go.Proofs.Ytcodbpjaamggeaa.R
namespace Go.Proofs.Ytcodbpjaamggeaa
/-- The row, under a short name, for the claim. -/
theorem fnExactEndOps_holds : Rows.FnExactEndOpsSaid := R.fnExactEndOps_over
#print axioms fnExactEndOps_holds
end Go.Proofs.Ytcodbpjaamggeaa
