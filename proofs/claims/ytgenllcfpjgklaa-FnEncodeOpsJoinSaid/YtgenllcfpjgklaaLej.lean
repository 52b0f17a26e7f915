/- FnEncodeOpsJoin: for every input the law returns true, and its argument reads as it did. -/
import Derived.Test.YtgenllcfpjgklaaRows
import Derived.Test.YtgenllcfpjgklaaRa
import Derived.Test.YtgenllcfpjgklaaRb
import Derived.Test.YtgenllcfpjgklaaRd
import Derived.Test.YtgenllcfpjgklaaDo
import Derived.WalkKit
import Derived.ProofKit
import Derived.OpenShut
import Derived.ChangeOld
import Derived.Below
import Derived.SizedLaws
set_option linter.unusedVariables false
set_option linter.unusedSimpArgs false
namespace Go.Proofs.Ytgenllcfpjgklaa.R
open Go.ChangeShapes Go.WideShapes Go.ChangeAt Go.RowKit

set_option maxRecDepth 100000 in
theorem fnEncodeOpsJoin_lifted (os : Os) (started : os.Started) (H : Type) (enc : TypeId × Value → H) :
    ReturnsInHanded {} Try.checked os 10 .any (Rows.fnEncodeOpsJoinSpec.pre6 enc Try.prog Try.f10 Rows.fnEncodeOpsJoinRow.domain false) (Rows.fnEncodeOpsJoinSpec.post enc Try.prog Try.f10 false true false false) := by
  refine returnsInHanded_of_change_sized (C := Try.checked) own started (by kernel_rfl) Try.func10
    (ChangeSpec.witness6 (enc := enc) (C := Try.checked) false ⟨#[], #[.slice none 0 0], []⟩ 8 (by kernel_rfl) (by kernel_rfl) (by kernel_rfl) (by kernel_rfl)) ?_
  intro W base args ds gs before hval0 hW hcnd hsz0 _
  have hval : ∀ (j : Nat) t v, Try.f10.params[j]? = some t → args[j]? = some v → Value.okWide Try.prog W .any base t v := hval0
  have hW' := hW
  obtain ⟨p, q, hA0, hV, rfl, hfz, hnd⟩ := hW
  have hA : DataW.TrodAll enc Try.prog W 0 (fun _ => true) true Try.f10.params.toList args.toList ds p := hA0
  rw [Try.params10] at hA hval
  obtain ⟨v0, vs0, d0, ds0, p0, q0, hargs, rfl, rfl, h0, r0⟩ := trodAll_cons hA
  obtain ⟨rfl, rfl, rfl⟩ := trodAll_nil r0
  obtain rfl : args = #[v0] := by cases args; simp_all
  obtain ⟨rfl, rfl⟩ := trodVars_none hV
  obtain ⟨a0, len0, cap0, rfl⟩ := okWide_slice Try.underlying22 (hval 0 22 v0 rfl rfl)
  have k0 := h0
  have lt0 : ∀ x ∈ p0, x.block < W.heap.size := by obtain ⟨m, hm⟩ := k0; exact DataW.trod_lt m _ _ _ hm
  obtain ⟨A, c, l, hv0, hlc, hl⟩ := open_bytes h0 rfl
  clear hA0 hval0 hsz0
  injection hv0 with e1 e2 e3
  subst e1 e2 e3
  refine (C.FnEncodeOpsJoin_c a0 cap0 l W hl hlc).mono fun e W' ⟨he, bel⟩ => ?_
  subst he
  exact ⟨_, rfl, _, _, _, [], _, [], hW', trodAll_mk1 (shut_bool Try.underlying4 _), (trodAll_cons_mk (Below.trod laidOut (by kernel_rfl) (of_decide_eq_true (by kernel_rfl)) k0 bel lt0) trodAll_mk0), rfl, bel.frame _, fun h => by cases h⟩
theorem fnEncodeOpsJoin_j1 : Rows.fnEncodeOpsJoinRow.wf (OpenSpec.ofChange Rows.fnEncodeOpsJoinSpec) = true := by kernel_rfl
theorem fnEncodeOpsJoin_j4 : Try.f10.params.all (Try.prog.readableRec ·) = true := by kernel_rfl
theorem fnEncodeOpsJoin_j5 : namedTie Try.prog Rows.fnEncodeOpsJoinRow.named Rows.fnEncodeOpsJoinSpec.vars = true := by kernel_rfl
theorem fnEncodeOpsJoin_j6 : (Rows.fnEncodeOpsJoinRow.stops == []) = true := by kernel_rfl
theorem fnEncodeOpsJoin_j8 : (Rows.fnEncodeOpsJoinRow.knobs == []) = true := by kernel_rfl
theorem fnEncodeOpsJoin_j10 : (Rows.fnEncodeOpsJoinRow.inPlace == Try.prog.inPlace 10) = true := by kernel_rfl
theorem fnEncodeOpsJoin_j11 : (Rows.fnEncodeOpsJoinRow.unfollowed == Try.prog.unfollowed 10) = true := by kernel_rfl
theorem fnEncodeOpsJoin_j12 : (Rows.fnEncodeOpsJoinRow.recurses == Try.prog.recurses 10) = true := by kernel_rfl
theorem fnEncodeOpsJoin_j13 : (Rows.fnEncodeOpsJoinRow.named == Try.prog.varsNamed 10) = true := by kernel_rfl
theorem fnEncodeOpsJoin_j14 : (Rows.fnEncodeOpsJoinRow.maps == (Try.f10.params.toList ++ (Rows.fnEncodeOpsJoinSpec).plain.varTypes Try.prog).any (Try.prog.mapsRec ·)) = true := by kernel_rfl
theorem fnEncodeOpsJoin_j15 : (Rows.fnEncodeOpsJoinRow.ifaces == (Try.f10.params.toList ++ (Rows.fnEncodeOpsJoinSpec).plain.varTypes Try.prog).any (Try.prog.ifacesRec ·)) = true := by kernel_rfl
theorem fnEncodeOpsJoin_j16 : (Rows.fnEncodeOpsJoinRow.mapsOut == Try.prog.mapsAmong Try.f10.resultTypes.toList) = true := by kernel_rfl
theorem fnEncodeOpsJoin_j17 : (Rows.fnEncodeOpsJoinRow.loops == (Try.f10.params.toList ++ (Rows.fnEncodeOpsJoinSpec).plain.varTypes Try.prog).any (Try.prog.loopsFrom ·)) = true := by kernel_rfl
theorem fnEncodeOpsJoin_j18 : (Rows.fnEncodeOpsJoinRow.wideKeys == (Try.f10.params.toList ++ (Rows.fnEncodeOpsJoinSpec).plain.varTypes Try.prog ++ Try.f10.resultTypes.toList).any (Try.prog.wideKeysFrom ·)) = true := by kernel_rfl
theorem fnEncodeOpsJoin_j19 : Rows.fnEncodeOpsJoinSpec.vars.all (Try.prog.varReadable ·) = true := by kernel_rfl
theorem fnEncodeOpsJoin_j20 : Try.f10.resultTypes.all (fun t => Try.prog.readableRec t && decide (t < Try.prog.types.size)) = true := by kernel_rfl
theorem fnEncodeOpsJoin_j21 : (Rows.fnEncodeOpsJoinRow.ifacesOut == Try.f10.resultTypes.toList.any (Try.prog.ifacesRec ·)) = true := by kernel_rfl
theorem fnEncodeOpsJoin_j22 : (Rows.fnEncodeOpsJoinRow.loopsOut == Try.f10.resultTypes.toList.any (Try.prog.loopsFrom ·)) = true := by kernel_rfl
theorem fnEncodeOpsJoin_j23 : (Rows.fnEncodeOpsJoinRow.plainKeys == Try.prog.plainKeys) = true := by kernel_rfl
theorem fnEncodeOpsJoin_j24 : Rows.fnEncodeOpsJoinRow.shortTexts.isNone = true := by kernel_rfl
theorem fnEncodeOpsJoin_j30 : (Rows.fnEncodeOpsJoinRow.pinned == Rows.fnEncodeOpsJoinRow.pinnedBy) = true := by kernel_rfl
theorem fnEncodeOpsJoin_j31 : (Rows.fnEncodeOpsJoinRow.veiled == (Try.f10.params.toList ++ (Rows.fnEncodeOpsJoinSpec).plain.varTypes Try.prog ++ Try.f10.resultTypes.toList).any (Try.prog.veiledRec ·)) = true := by kernel_rfl
theorem fnEncodeOpsJoin_j32 : Rows.fnEncodeOpsJoinRow.veiledFits Try.prog Try.f10.params.toList (Try.f10.params.toList ++ (Rows.fnEncodeOpsJoinSpec).plain.varTypes Try.prog ++ Try.f10.resultTypes.toList) = true := by kernel_rfl
theorem fnEncodeOpsJoin_closed : joinedFacts Try.prog 10 Try.f10 Rows.fnEncodeOpsJoinSpec Rows.fnEncodeOpsJoinRow = true :=
  closed_of _ _ _ _ _ fnEncodeOpsJoin_j1 pLaid pMaps fnEncodeOpsJoin_j4 fnEncodeOpsJoin_j5 fnEncodeOpsJoin_j6 pStops fnEncodeOpsJoin_j8 pKnobs fnEncodeOpsJoin_j10 fnEncodeOpsJoin_j11 fnEncodeOpsJoin_j12 fnEncodeOpsJoin_j13 fnEncodeOpsJoin_j14 fnEncodeOpsJoin_j15 fnEncodeOpsJoin_j16 fnEncodeOpsJoin_j17 fnEncodeOpsJoin_j18 fnEncodeOpsJoin_j19 fnEncodeOpsJoin_j20 fnEncodeOpsJoin_j21 fnEncodeOpsJoin_j22 fnEncodeOpsJoin_j23 fnEncodeOpsJoin_j24 pHeard may lifts rfl made rfl (by kernel_rfl) fnEncodeOpsJoin_j30 fnEncodeOpsJoin_j31 fnEncodeOpsJoin_j32
theorem fnEncodeOpsJoin_inst : Try.f10.isInstance Try.prog Rows.fnEncodeOpsJoinRow.origin Rows.fnEncodeOpsJoinRow.targs := of_decide_eq_true (by kernel_rfl)
theorem fnEncodeOpsJoin_wrap : Try.f10.isWrapper Try.prog Rows.fnEncodeOpsJoinRow.wrapper Rows.fnEncodeOpsJoinRow.mainSum := by unfold Func.isWrapper; first | (rw [if_pos (by decide +kernel)]; kernel_rfl) | (rw [if_neg (by decide +kernel)]; exact ⟨rfl, rfl⟩)
theorem fnEncodeOpsJoin_over : Rows.fnEncodeOpsJoinRow.holds Try.pinned (OpenSpec.ofChange Rows.fnEncodeOpsJoinSpec) :=
  OpenClaim.holds_of_wide 10 Try.f10 rfl rfl rfl rfl rfl rfl rfl ⟨rfl, rfl, rfl, rfl, rfl⟩ rfl rfl rfl rfl rfl (by kernel_rfl) Try.func10 fnEncodeOpsJoin_closed
    fnEncodeOpsJoin_inst fnEncodeOpsJoin_wrap
    (fun os started H enc _ => fnEncodeOpsJoin_lifted os started H enc)
end Go.Proofs.Ytgenllcfpjgklaa.R
namespace Go.Proofs.Ytgenllcfpjgklaa
/-- The row, under a short name, for the claim. -/
theorem fnEncodeOpsJoin_holds : Rows.FnEncodeOpsJoinSaid := R.fnEncodeOpsJoin_over
#print axioms fnEncodeOpsJoin_holds
end Go.Proofs.Ytgenllcfpjgklaa
