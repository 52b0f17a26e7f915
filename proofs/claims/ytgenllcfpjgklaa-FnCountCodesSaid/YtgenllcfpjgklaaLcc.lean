/- FnCountCodes: for every input the law returns true, and its argument reads as it did. -/
import Derived.Test.YtgenllcfpjgklaaRows
import Derived.Test.YtgenllcfpjgklaaRa
import Derived.Test.YtgenllcfpjgklaaRb
import Derived.Test.YtgenllcfpjgklaaRd
import Derived.Test.YtgenllcfpjgklaaDq
import Derived.WalkKit
import Derived.ProofKit
import Derived.OpenShut
import Derived.ChangeOld
import Derived.Below
import Derived.SizedLaws
set_option linter.unusedVariables false
set_option linter.unusedSimpArgs false
namespace Go.Proofs.Ytgenllcfpjgklaa.R
open Go.ChangeShapes Go.WideShapes Go.ChangeAt Go.RowKit

set_option maxRecDepth 100000 in
theorem fnCountCodes_lifted (os : Os) (started : os.Started) (H : Type) (enc : TypeId × Value → H) :
    ReturnsInHanded {} Try.checked os 7 .any (Rows.fnCountCodesSpec.pre6 enc Try.prog Try.f7 Rows.fnCountCodesRow.domain false) (Rows.fnCountCodesSpec.post enc Try.prog Try.f7 false true false false) := by
  refine returnsInHanded_of_change_sized (C := Try.checked) own started (by kernel_rfl) Try.func7
    (ChangeSpec.witness6 (enc := enc) (C := Try.checked) false ⟨#[], #[.slice none 0 0], []⟩ 8 (by kernel_rfl) (by kernel_rfl) (by kernel_rfl) (by kernel_rfl)) ?_
  intro W base args ds gs before hval0 hW hcnd hsz0 _
  have hval : ∀ (j : Nat) t v, Try.f7.params[j]? = some t → args[j]? = some v → Value.okWide Try.prog W .any base t v := hval0
  have hW' := hW
  obtain ⟨p, q, hA0, hV, rfl, hfz, hnd⟩ := hW
  have hA : DataW.TrodAll enc Try.prog W 0 (fun _ => true) true Try.f7.params.toList args.toList ds p := hA0
  rw [Try.params7] at hA hval
  obtain ⟨v0, vs0, d0, ds0, p0, q0, hargs, rfl, rfl, h0, r0⟩ := trodAll_cons hA
  obtain ⟨rfl, rfl, rfl⟩ := trodAll_nil r0
  obtain rfl : args = #[v0] := by cases args; simp_all
  obtain ⟨rfl, rfl⟩ := trodVars_none hV
  obtain ⟨a0, len0, cap0, rfl⟩ := okWide_slice Try.underlying22 (hval 0 22 v0 rfl rfl)
  have k0 := h0
  have lt0 : ∀ x ∈ p0, x.block < W.heap.size := by obtain ⟨m, hm⟩ := k0; exact DataW.trod_lt m _ _ _ hm
  obtain ⟨A, c, l, hv0, hlc, hl⟩ := open_bytes h0 rfl
  clear hA0 hval0 hsz0
  injection hv0 with e1 e2 e3
  subst e1 e2 e3
  refine (C.FnCountCodes_c a0 cap0 l W hl hlc).mono fun e W' ⟨he, bel⟩ => ?_
  subst he
  exact ⟨_, rfl, _, _, _, [], _, [], hW', trodAll_mk1 (shut_bool Try.underlying4 _), (trodAll_cons_mk (Below.trod laidOut (by kernel_rfl) (of_decide_eq_true (by kernel_rfl)) k0 bel lt0) trodAll_mk0), rfl, bel.frame _, fun h => by cases h⟩
theorem fnCountCodes_j1 : Rows.fnCountCodesRow.wf (OpenSpec.ofChange Rows.fnCountCodesSpec) = true := by kernel_rfl
theorem fnCountCodes_j4 : Try.f7.params.all (Try.prog.readableRec ·) = true := by kernel_rfl
theorem fnCountCodes_j5 : namedTie Try.prog Rows.fnCountCodesRow.named Rows.fnCountCodesSpec.vars = true := by kernel_rfl
theorem fnCountCodes_j6 : (Rows.fnCountCodesRow.stops == []) = true := by kernel_rfl
theorem fnCountCodes_j8 : (Rows.fnCountCodesRow.knobs == []) = true := by kernel_rfl
theorem fnCountCodes_j10 : (Rows.fnCountCodesRow.inPlace == Try.prog.inPlace 7) = true := by kernel_rfl
theorem fnCountCodes_j11 : (Rows.fnCountCodesRow.unfollowed == Try.prog.unfollowed 7) = true := by kernel_rfl
theorem fnCountCodes_j12 : (Rows.fnCountCodesRow.recurses == Try.prog.recurses 7) = true := by kernel_rfl
theorem fnCountCodes_j13 : (Rows.fnCountCodesRow.named == Try.prog.varsNamed 7) = true := by kernel_rfl
theorem fnCountCodes_j14 : (Rows.fnCountCodesRow.maps == (Try.f7.params.toList ++ (Rows.fnCountCodesSpec).plain.varTypes Try.prog).any (Try.prog.mapsRec ·)) = true := by kernel_rfl
theorem fnCountCodes_j15 : (Rows.fnCountCodesRow.ifaces == (Try.f7.params.toList ++ (Rows.fnCountCodesSpec).plain.varTypes Try.prog).any (Try.prog.ifacesRec ·)) = true := by kernel_rfl
theorem fnCountCodes_j16 : (Rows.fnCountCodesRow.mapsOut == Try.prog.mapsAmong Try.f7.resultTypes.toList) = true := by kernel_rfl
theorem fnCountCodes_j17 : (Rows.fnCountCodesRow.loops == (Try.f7.params.toList ++ (Rows.fnCountCodesSpec).plain.varTypes Try.prog).any (Try.prog.loopsFrom ·)) = true := by kernel_rfl
theorem fnCountCodes_j18 : (Rows.fnCountCodesRow.wideKeys == (Try.f7.params.toList ++ (Rows.fnCountCodesSpec).plain.varTypes Try.prog ++ Try.f7.resultTypes.toList).any (Try.prog.wideKeysFrom ·)) = true := by kernel_rfl
theorem fnCountCodes_j19 : Rows.fnCountCodesSpec.vars.all (Try.prog.varReadable ·) = true := by kernel_rfl
theorem fnCountCodes_j20 : Try.f7.resultTypes.all (fun t => Try.prog.readableRec t && decide (t < Try.prog.types.size)) = true := by kernel_rfl
theorem fnCountCodes_j21 : (Rows.fnCountCodesRow.ifacesOut == Try.f7.resultTypes.toList.any (Try.prog.ifacesRec ·)) = true := by kernel_rfl
theorem fnCountCodes_j22 : (Rows.fnCountCodesRow.loopsOut == Try.f7.resultTypes.toList.any (Try.prog.loopsFrom ·)) = true := by kernel_rfl
theorem fnCountCodes_j23 : (Rows.fnCountCodesRow.plainKeys == Try.prog.plainKeys) = true := by kernel_rfl
theorem fnCountCodes_j24 : Rows.fnCountCodesRow.shortTexts.isNone = true := by kernel_rfl
theorem fnCountCodes_j30 : (Rows.fnCountCodesRow.pinned == Rows.fnCountCodesRow.pinnedBy) = true := by kernel_rfl
theorem fnCountCodes_j31 : (Rows.fnCountCodesRow.veiled == (Try.f7.params.toList ++ (Rows.fnCountCodesSpec).plain.varTypes Try.prog ++ Try.f7.resultTypes.toList).any (Try.prog.veiledRec ·)) = true := by kernel_rfl
theorem fnCountCodes_j32 : Rows.fnCountCodesRow.veiledFits Try.prog Try.f7.params.toList (Try.f7.params.toList ++ (Rows.fnCountCodesSpec).plain.varTypes Try.prog ++ Try.f7.resultTypes.toList) = true := by kernel_rfl
theorem fnCountCodes_closed : joinedFacts Try.prog 7 Try.f7 Rows.fnCountCodesSpec Rows.fnCountCodesRow = true :=
  closed_of _ _ _ _ _ fnCountCodes_j1 pLaid pMaps fnCountCodes_j4 fnCountCodes_j5 fnCountCodes_j6 pStops fnCountCodes_j8 pKnobs fnCountCodes_j10 fnCountCodes_j11 fnCountCodes_j12 fnCountCodes_j13 fnCountCodes_j14 fnCountCodes_j15 fnCountCodes_j16 fnCountCodes_j17 fnCountCodes_j18 fnCountCodes_j19 fnCountCodes_j20 fnCountCodes_j21 fnCountCodes_j22 fnCountCodes_j23 fnCountCodes_j24 pHeard may lifts rfl made rfl (by kernel_rfl) fnCountCodes_j30 fnCountCodes_j31 fnCountCodes_j32
theorem fnCountCodes_inst : Try.f7.isInstance Try.prog Rows.fnCountCodesRow.origin Rows.fnCountCodesRow.targs := of_decide_eq_true (by kernel_rfl)
theorem fnCountCodes_wrap : Try.f7.isWrapper Try.prog Rows.fnCountCodesRow.wrapper Rows.fnCountCodesRow.mainSum := by unfold Func.isWrapper; first | (rw [if_pos (by decide +kernel)]; kernel_rfl) | (rw [if_neg (by decide +kernel)]; exact ⟨rfl, rfl⟩)
theorem fnCountCodes_over : Rows.fnCountCodesRow.holds Try.pinned (OpenSpec.ofChange Rows.fnCountCodesSpec) :=
  OpenClaim.holds_of_wide 7 Try.f7 rfl rfl rfl rfl rfl rfl rfl ⟨rfl, rfl, rfl, rfl, rfl⟩ rfl rfl rfl rfl rfl (by kernel_rfl) Try.func7 fnCountCodes_closed
    fnCountCodes_inst fnCountCodes_wrap
    (fun os started H enc _ => fnCountCodes_lifted os started H enc)
end Go.Proofs.Ytgenllcfpjgklaa.R
namespace Go.Proofs.Ytgenllcfpjgklaa
/-- The row, under a short name, for the claim. -/
theorem fnCountCodes_holds : Rows.FnCountCodesSaid := R.fnCountCodes_over
#print axioms fnCountCodes_holds
end Go.Proofs.Ytgenllcfpjgklaa
