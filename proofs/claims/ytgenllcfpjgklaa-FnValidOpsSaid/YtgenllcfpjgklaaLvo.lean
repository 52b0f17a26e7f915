/- FnValidOps: for every input the law returns true, and its argument reads as it did. -/
import Derived.Test.YtgenllcfpjgklaaRows
import Derived.Test.YtgenllcfpjgklaaRa
import Derived.Test.YtgenllcfpjgklaaRb
import Derived.Test.YtgenllcfpjgklaaRd
import Derived.Test.YtgenllcfpjgklaaDk
import Derived.WalkKit
import Derived.ProofKit
import Derived.OpenShut
import Derived.ChangeOld
import Derived.Below
import Derived.SizedLaws
set_option linter.unusedVariables false
set_option linter.unusedSimpArgs false
namespace Go.Proofs.Ytgenllcfpjgklaa.R
open Go.ChangeShapes Go.WideShapes Go.ChangeAt Go.RowKit

set_option maxRecDepth 100000 in
theorem fnValidOps_lifted (os : Os) (started : os.Started) (H : Type) (enc : TypeId × Value → H) :
    ReturnsInHanded {} Try.checked os 4 .any (Rows.fnValidOpsSpec.pre6 enc Try.prog Try.f4 Rows.fnValidOpsRow.domain false) (Rows.fnValidOpsSpec.post enc Try.prog Try.f4 false true false false) := by
  refine returnsInHanded_of_change_sized (C := Try.checked) own started (by kernel_rfl) Try.func4
    (ChangeSpec.witness6 (enc := enc) (C := Try.checked) false ⟨#[], #[.slice none 0 0], []⟩ 8 (by kernel_rfl) (by kernel_rfl) (by kernel_rfl) (by kernel_rfl)) ?_
  intro W base args ds gs before hval0 hW hcnd hsz0 _
  have hval : ∀ (j : Nat) t v, Try.f4.params[j]? = some t → args[j]? = some v → Value.okWide Try.prog W .any base t v := hval0
  have hW' := hW
  obtain ⟨p, q, hA0, hV, rfl, hfz, hnd⟩ := hW
  have hA : DataW.TrodAll enc Try.prog W 0 (fun _ => true) true Try.f4.params.toList args.toList ds p := hA0
  rw [Try.params4] at hA hval
  obtain ⟨v0, vs0, d0, ds0, p0, q0, hargs, rfl, rfl, h0, r0⟩ := trodAll_cons hA
  obtain ⟨rfl, rfl, rfl⟩ := trodAll_nil r0
  obtain rfl : args = #[v0] := by cases args; simp_all
  obtain ⟨rfl, rfl⟩ := trodVars_none hV
  obtain ⟨a0, len0, cap0, rfl⟩ := okWide_slice Try.underlying22 (hval 0 22 v0 rfl rfl)
  have k0 := h0
  have lt0 : ∀ x ∈ p0, x.block < W.heap.size := by obtain ⟨m, hm⟩ := k0; exact DataW.trod_lt m _ _ _ hm
  obtain ⟨A, c, l, hv0, hlc, hl⟩ := open_bytes h0 rfl
  clear hA0 hval0 hsz0
  injection hv0 with e1 e2 e3
  subst e1 e2 e3
  refine (C.FnValidOps_c a0 cap0 l W hl hlc).mono fun e W' ⟨he, bel⟩ => ?_
  subst he
  exact ⟨_, rfl, _, _, _, [], _, [], hW', trodAll_mk1 (shut_bool Try.underlying4 _), (trodAll_cons_mk (Below.trod laidOut (by kernel_rfl) (of_decide_eq_true (by kernel_rfl)) k0 bel lt0) trodAll_mk0), rfl, bel.frame _, fun h => by cases h⟩
theorem fnValidOps_j1 : Rows.fnValidOpsRow.wf (OpenSpec.ofChange Rows.fnValidOpsSpec) = true := by kernel_rfl
theorem fnValidOps_j4 : Try.f4.params.all (Try.prog.readableRec ·) = true := by kernel_rfl
theorem fnValidOps_j5 : namedTie Try.prog Rows.fnValidOpsRow.named Rows.fnValidOpsSpec.vars = true := by kernel_rfl
theorem fnValidOps_j6 : (Rows.fnValidOpsRow.stops == []) = true := by kernel_rfl
theorem fnValidOps_j8 : (Rows.fnValidOpsRow.knobs == []) = true := by kernel_rfl
theorem fnValidOps_j10 : (Rows.fnValidOpsRow.inPlace == Try.prog.inPlace 4) = true := by kernel_rfl
theorem fnValidOps_j11 : (Rows.fnValidOpsRow.unfollowed == Try.prog.unfollowed 4) = true := by kernel_rfl
theorem fnValidOps_j12 : (Rows.fnValidOpsRow.recurses == Try.prog.recurses 4) = true := by kernel_rfl
theorem fnValidOps_j13 : (Rows.fnValidOpsRow.named == Try.prog.varsNamed 4) = true := by kernel_rfl
theorem fnValidOps_j14 : (Rows.fnValidOpsRow.maps == (Try.f4.params.toList ++ (Rows.fnValidOpsSpec).plain.varTypes Try.prog).any (Try.prog.mapsRec ·)) = true := by kernel_rfl
theorem fnValidOps_j15 : (Rows.fnValidOpsRow.ifaces == (Try.f4.params.toList ++ (Rows.fnValidOpsSpec).plain.varTypes Try.prog).any (Try.prog.ifacesRec ·)) = true := by kernel_rfl
theorem fnValidOps_j16 : (Rows.fnValidOpsRow.mapsOut == Try.prog.mapsAmong Try.f4.resultTypes.toList) = true := by kernel_rfl
theorem fnValidOps_j17 : (Rows.fnValidOpsRow.loops == (Try.f4.params.toList ++ (Rows.fnValidOpsSpec).plain.varTypes Try.prog).any (Try.prog.loopsFrom ·)) = true := by kernel_rfl
theorem fnValidOps_j18 : (Rows.fnValidOpsRow.wideKeys == (Try.f4.params.toList ++ (Rows.fnValidOpsSpec).plain.varTypes Try.prog ++ Try.f4.resultTypes.toList).any (Try.prog.wideKeysFrom ·)) = true := by kernel_rfl
theorem fnValidOps_j19 : Rows.fnValidOpsSpec.vars.all (Try.prog.varReadable ·) = true := by kernel_rfl
theorem fnValidOps_j20 : Try.f4.resultTypes.all (fun t => Try.prog.readableRec t && decide (t < Try.prog.types.size)) = true := by kernel_rfl
theorem fnValidOps_j21 : (Rows.fnValidOpsRow.ifacesOut == Try.f4.resultTypes.toList.any (Try.prog.ifacesRec ·)) = true := by kernel_rfl
theorem fnValidOps_j22 : (Rows.fnValidOpsRow.loopsOut == Try.f4.resultTypes.toList.any (Try.prog.loopsFrom ·)) = true := by kernel_rfl
theorem fnValidOps_j23 : (Rows.fnValidOpsRow.plainKeys == Try.prog.plainKeys) = true := by kernel_rfl
theorem fnValidOps_j24 : Rows.fnValidOpsRow.shortTexts.isNone = true := by kernel_rfl
theorem fnValidOps_j30 : (Rows.fnValidOpsRow.pinned == Rows.fnValidOpsRow.pinnedBy) = true := by kernel_rfl
theorem fnValidOps_j31 : (Rows.fnValidOpsRow.veiled == (Try.f4.params.toList ++ (Rows.fnValidOpsSpec).plain.varTypes Try.prog ++ Try.f4.resultTypes.toList).any (Try.prog.veiledRec ·)) = true := by kernel_rfl
theorem fnValidOps_j32 : Rows.fnValidOpsRow.veiledFits Try.prog Try.f4.params.toList (Try.f4.params.toList ++ (Rows.fnValidOpsSpec).plain.varTypes Try.prog ++ Try.f4.resultTypes.toList) = true := by kernel_rfl
theorem fnValidOps_closed : joinedFacts Try.prog 4 Try.f4 Rows.fnValidOpsSpec Rows.fnValidOpsRow = true :=
  closed_of _ _ _ _ _ fnValidOps_j1 pLaid pMaps fnValidOps_j4 fnValidOps_j5 fnValidOps_j6 pStops fnValidOps_j8 pKnobs fnValidOps_j10 fnValidOps_j11 fnValidOps_j12 fnValidOps_j13 fnValidOps_j14 fnValidOps_j15 fnValidOps_j16 fnValidOps_j17 fnValidOps_j18 fnValidOps_j19 fnValidOps_j20 fnValidOps_j21 fnValidOps_j22 fnValidOps_j23 fnValidOps_j24 pHeard may lifts rfl made rfl (by kernel_rfl) fnValidOps_j30 fnValidOps_j31 fnValidOps_j32
theorem fnValidOps_inst : Try.f4.isInstance Try.prog Rows.fnValidOpsRow.origin Rows.fnValidOpsRow.targs := of_decide_eq_true (by kernel_rfl)
theorem fnValidOps_wrap : Try.f4.isWrapper Try.prog Rows.fnValidOpsRow.wrapper Rows.fnValidOpsRow.mainSum := by unfold Func.isWrapper; first | (rw [if_pos (by decide +kernel)]; kernel_rfl) | (rw [if_neg (by decide +kernel)]; exact ⟨rfl, rfl⟩)
theorem fnValidOps_over : Rows.fnValidOpsRow.holds Try.pinned (OpenSpec.ofChange Rows.fnValidOpsSpec) :=
  OpenClaim.holds_of_wide 4 Try.f4 rfl rfl rfl rfl rfl rfl rfl ⟨rfl, rfl, rfl, rfl, rfl⟩ rfl rfl rfl rfl rfl (by kernel_rfl) Try.func4 fnValidOps_closed
    fnValidOps_inst fnValidOps_wrap
    (fun os started H enc _ => fnValidOps_lifted os started H enc)
end Go.Proofs.Ytgenllcfpjgklaa.R
namespace Go.Proofs.Ytgenllcfpjgklaa
/-- The row, under a short name, for the claim. -/
theorem fnValidOps_holds : Rows.FnValidOpsSaid := R.fnValidOps_over
#print axioms fnValidOps_holds
end Go.Proofs.Ytgenllcfpjgklaa
