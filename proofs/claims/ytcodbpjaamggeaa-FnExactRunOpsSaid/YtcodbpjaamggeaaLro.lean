/- FnExactRunOps: for every input the law returns true, and its argument reads as it did. -/
import Derived.Test.YtcodbpjaamggeaaRows
import Derived.Test.YtcodbpjaamggeaaRa
import Derived.Test.YtcodbpjaamggeaaRb
import Derived.Test.YtcodbpjaamggeaaDh
import Derived.WalkKit
import Derived.ProofKit
import Derived.OpenShut
import Derived.ChangeOld
import Derived.Below
import Derived.SizedLaws
set_option linter.unusedVariables false
set_option linter.unusedSimpArgs false
namespace Go.Proofs.Ytcodbpjaamggeaa.R
open Go.ChangeShapes Go.WideShapes Go.ChangeAt Go.RowKit

set_option maxRecDepth 100000 in
theorem fnExactRunOps_lifted (os : Os) (started : os.Started) (H : Type) (enc : TypeId × Value → H) :
    ReturnsInHanded {} Try.checked os 14 .any (Rows.fnExactRunOpsSpec.pre6 enc Try.prog Try.f14 Rows.fnExactRunOpsRow.domain false) (Rows.fnExactRunOpsSpec.post enc Try.prog Try.f14 false true false false) := by
  refine returnsInHanded_of_change_sized (C := Try.checked) own started (by kernel_rfl) Try.func14
    (ChangeSpec.witness6 (enc := enc) (C := Try.checked) false ⟨#[], #[.slice none 0 0], []⟩ 8 (by kernel_rfl) (by kernel_rfl) (by kernel_rfl) (by kernel_rfl)) ?_
  intro W base args ds gs before hval0 hW hcnd hsz0 _
  have hval : ∀ (j : Nat) t v, Try.f14.params[j]? = some t → args[j]? = some v → Value.okWide Try.prog W .any base t v := hval0
  have hW' := hW
  obtain ⟨p, q, hA0, hV, rfl, hfz, hnd⟩ := hW
  have hA : DataW.TrodAll enc Try.prog W 0 (fun _ => true) true Try.f14.params.toList args.toList ds p := hA0
  rw [Try.params14] at hA hval
  obtain ⟨v0, vs0, d0, ds0, p0, q0, hargs, rfl, rfl, h0, r0⟩ := trodAll_cons hA
  obtain ⟨rfl, rfl, rfl⟩ := trodAll_nil r0
  obtain rfl : args = #[v0] := by cases args; simp_all
  obtain ⟨rfl, rfl⟩ := trodVars_none hV
  obtain ⟨a0, len0, cap0, rfl⟩ := okWide_slice Try.underlying22 (hval 0 22 v0 rfl rfl)
  have k0 := h0
  have lt0 : ∀ x ∈ p0, x.block < W.heap.size := by obtain ⟨m, hm⟩ := k0; exact DataW.trod_lt m _ _ _ hm
  obtain ⟨l, rfl, hl⟩ := open_two Try.underlying22 Try.underlying77 (by kernel_rfl) (by kernel_rfl) (by kernel_rfl) (by kernel_rfl) h0
  clear hA0 hval0 hsz0
  refine (C.FnExactRunOps_c a0 cap0 l W hl).mono fun e W' ⟨he, bel⟩ => ?_
  subst he
  exact ⟨_, rfl, _, _, _, [], _, [], hW', trodAll_mk1 (shut_bool Try.underlying4 _), (trodAll_cons_mk (Below.trod laidOut (by kernel_rfl) (of_decide_eq_true (by kernel_rfl)) k0 bel lt0) trodAll_mk0), rfl, bel.frame _, fun h => by cases h⟩
theorem fnExactRunOps_j1 : Rows.fnExactRunOpsRow.wf (OpenSpec.ofChange Rows.fnExactRunOpsSpec) = true := by kernel_rfl
theorem fnExactRunOps_j4 : Try.f14.params.all (Try.prog.readableRec ·) = true := by kernel_rfl
theorem fnExactRunOps_j5 : namedTie Try.prog Rows.fnExactRunOpsRow.named Rows.fnExactRunOpsSpec.vars = true := by kernel_rfl
theorem fnExactRunOps_j6 : (Rows.fnExactRunOpsRow.stops == []) = true := by kernel_rfl
theorem fnExactRunOps_j8 : (Rows.fnExactRunOpsRow.knobs == []) = true := by kernel_rfl
theorem fnExactRunOps_j10 : (Rows.fnExactRunOpsRow.inPlace == Try.prog.inPlace 14) = true := by kernel_rfl
theorem fnExactRunOps_j11 : (Rows.fnExactRunOpsRow.unfollowed == Try.prog.unfollowed 14) = true := by kernel_rfl
theorem fnExactRunOps_j12 : (Rows.fnExactRunOpsRow.recurses == Try.prog.recurses 14) = true := by kernel_rfl
theorem fnExactRunOps_j13 : (Rows.fnExactRunOpsRow.named == Try.prog.varsNamed 14) = true := by kernel_rfl
theorem fnExactRunOps_j14 : (Rows.fnExactRunOpsRow.maps == (Try.f14.params.toList ++ (Rows.fnExactRunOpsSpec).plain.varTypes Try.prog).any (Try.prog.mapsRec ·)) = true := by kernel_rfl
theorem fnExactRunOps_j15 : (Rows.fnExactRunOpsRow.ifaces == (Try.f14.params.toList ++ (Rows.fnExactRunOpsSpec).plain.varTypes Try.prog).any (Try.prog.ifacesRec ·)) = true := by kernel_rfl
theorem fnExactRunOps_j16 : (Rows.fnExactRunOpsRow.mapsOut == Try.prog.mapsAmong Try.f14.resultTypes.toList) = true := by kernel_rfl
theorem fnExactRunOps_j17 : (Rows.fnExactRunOpsRow.loops == (Try.f14.params.toList ++ (Rows.fnExactRunOpsSpec).plain.varTypes Try.prog).any (Try.prog.loopsFrom ·)) = true := by kernel_rfl
theorem fnExactRunOps_j18 : (Rows.fnExactRunOpsRow.wideKeys == (Try.f14.params.toList ++ (Rows.fnExactRunOpsSpec).plain.varTypes Try.prog ++ Try.f14.resultTypes.toList).any (Try.prog.wideKeysFrom ·)) = true := by kernel_rfl
theorem fnExactRunOps_j19 : Rows.fnExactRunOpsSpec.vars.all (Try.prog.varReadable ·) = true := by kernel_rfl
theorem fnExactRunOps_j20 : Try.f14.resultTypes.all (fun t => Try.prog.readableRec t && decide (t < Try.prog.types.size)) = true := by kernel_rfl
theorem fnExactRunOps_j21 : (Rows.fnExactRunOpsRow.ifacesOut == Try.f14.resultTypes.toList.any (Try.prog.ifacesRec ·)) = true := by kernel_rfl
theorem fnExactRunOps_j22 : (Rows.fnExactRunOpsRow.loopsOut == Try.f14.resultTypes.toList.any (Try.prog.loopsFrom ·)) = true := by kernel_rfl
theorem fnExactRunOps_j23 : (Rows.fnExactRunOpsRow.plainKeys == Try.prog.plainKeys) = true := by kernel_rfl
theorem fnExactRunOps_j24 : Rows.fnExactRunOpsRow.shortTexts.isNone = true := by kernel_rfl
theorem fnExactRunOps_j30 : (Rows.fnExactRunOpsRow.pinned == Rows.fnExactRunOpsRow.pinnedBy) = true := by kernel_rfl
theorem fnExactRunOps_j31 : (Rows.fnExactRunOpsRow.veiled == (Try.f14.params.toList ++ (Rows.fnExactRunOpsSpec).plain.varTypes Try.prog ++ Try.f14.resultTypes.toList).any (Try.prog.veiledRec ·)) = true := by kernel_rfl
theorem fnExactRunOps_j32 : Rows.fnExactRunOpsRow.veiledFits Try.prog Try.f14.params.toList (Try.f14.params.toList ++ (Rows.fnExactRunOpsSpec).plain.varTypes Try.prog ++ Try.f14.resultTypes.toList) = true := by kernel_rfl
theorem fnExactRunOps_closed : joinedFacts Try.prog 14 Try.f14 Rows.fnExactRunOpsSpec Rows.fnExactRunOpsRow = true :=
  closed_of _ _ _ _ _ fnExactRunOps_j1 pLaid pMaps fnExactRunOps_j4 fnExactRunOps_j5 fnExactRunOps_j6 pStops fnExactRunOps_j8 pKnobs fnExactRunOps_j10 fnExactRunOps_j11 fnExactRunOps_j12 fnExactRunOps_j13 fnExactRunOps_j14 fnExactRunOps_j15 fnExactRunOps_j16 fnExactRunOps_j17 fnExactRunOps_j18 fnExactRunOps_j19 fnExactRunOps_j20 fnExactRunOps_j21 fnExactRunOps_j22 fnExactRunOps_j23 fnExactRunOps_j24 pHeard may lifts rfl made rfl (by kernel_rfl) fnExactRunOps_j30 fnExactRunOps_j31 fnExactRunOps_j32
theorem fnExactRunOps_inst : Try.f14.isInstance Try.prog Rows.fnExactRunOpsRow.origin Rows.fnExactRunOpsRow.targs := of_decide_eq_true (by kernel_rfl)
theorem fnExactRunOps_wrap : Try.f14.isWrapper Try.prog Rows.fnExactRunOpsRow.wrapper Rows.fnExactRunOpsRow.mainSum := by unfold Func.isWrapper; first | (rw [if_pos (by decide +kernel)]; kernel_rfl) | (rw [if_neg (by decide +kernel)]; exact ⟨rfl, rfl⟩)
theorem fnExactRunOps_over : Rows.fnExactRunOpsRow.holds Try.pinned (OpenSpec.ofChange Rows.fnExactRunOpsSpec) :=
  OpenClaim.holds_of_wide 14 Try.f14 rfl rfl rfl rfl rfl rfl rfl ⟨rfl, rfl, rfl, rfl, rfl⟩ rfl rfl rfl rfl rfl (by kernel_rfl) Try.func14 fnExactRunOps_closed
    fnExactRunOps_inst fnExactRunOps_wrap
    (fun os started H enc _ => fnExactRunOps_lifted os started H enc)
end Go.Proofs.Ytcodbpjaamggeaa.R
namespace Go.Proofs.Ytcodbpjaamggeaa
/-- The row, under a short name, for the claim. -/
theorem fnExactRunOps_holds : Rows.FnExactRunOpsSaid := R.fnExactRunOps_over
#print axioms fnExactRunOps_holds
end Go.Proofs.Ytcodbpjaamggeaa
