/- FnExactShapesOf: for every input the law returns true, and its argument reads as it did. -/
import Derived.Test.YtcodbpjaamggeaaRows
import Derived.Test.YtcodbpjaamggeaaRa
import Derived.Test.YtcodbpjaamggeaaRb
import Derived.Test.YtcodbpjaamggeaaDe
import Derived.WalkKit
import Derived.ProofKit
import Derived.OpenShut
import Derived.ChangeOld
import Derived.Below
import Derived.SizedLaws
set_option linter.unusedVariables false
set_option linter.unusedSimpArgs false
namespace Go.Proofs.Ytcodbpjaamggeaa.R
open Go.ChangeShapes Go.WideShapes Go.ChangeAt Go.RowKit

set_option maxRecDepth 100000 in
theorem fnExactShapesOf_lifted (os : Os) (started : os.Started) (H : Type) (enc : TypeId × Value → H) :
    ReturnsInHanded {} Try.checked os 12 .any (Rows.fnExactShapesOfSpec.pre6 enc Try.prog Try.f12 Rows.fnExactShapesOfRow.domain false) (Rows.fnExactShapesOfSpec.post enc Try.prog Try.f12 false true false false) := by
  refine returnsInHanded_of_change_sized (C := Try.checked) own started (by kernel_rfl) Try.func12
    (ChangeSpec.witness6 (enc := enc) (C := Try.checked) false ⟨#[], #[.slice none 0 0], []⟩ 8 (by kernel_rfl) (by kernel_rfl) (by kernel_rfl) (by kernel_rfl)) ?_
  intro W base args ds gs before hval0 hW hcnd hsz0 _
  have hval : ∀ (j : Nat) t v, Try.f12.params[j]? = some t → args[j]? = some v → Value.okWide Try.prog W .any base t v := hval0
  have hW' := hW
  obtain ⟨p, q, hA0, hV, rfl, hfz, hnd⟩ := hW
  have hA : DataW.TrodAll enc Try.prog W 0 (fun _ => true) true Try.f12.params.toList args.toList ds p := hA0
  rw [Try.params12] at hA hval
  obtain ⟨v0, vs0, d0, ds0, p0, q0, hargs, rfl, rfl, h0, r0⟩ := trodAll_cons hA
  obtain ⟨rfl, rfl, rfl⟩ := trodAll_nil r0
  obtain rfl : args = #[v0] := by cases args; simp_all
  obtain ⟨rfl, rfl⟩ := trodVars_none hV
  obtain ⟨a0, len0, cap0, rfl⟩ := okWide_slice Try.underlying22 (hval 0 22 v0 rfl rfl)
  have k0 := h0
  have lt0 : ∀ x ∈ p0, x.block < W.heap.size := by obtain ⟨m, hm⟩ := k0; exact DataW.trod_lt m _ _ _ hm
  obtain ⟨l, rfl, hl⟩ := open_two Try.underlying22 Try.underlying77 (by kernel_rfl) (by kernel_rfl) (by kernel_rfl) (by kernel_rfl) h0
  clear hA0 hval0 hsz0
  refine (C.FnExactShapesOf_c a0 cap0 l W hl).mono fun e W' ⟨he, bel⟩ => ?_
  subst he
  exact ⟨_, rfl, _, _, _, [], _, [], hW', trodAll_mk1 (shut_bool Try.underlying4 _), (trodAll_cons_mk (Below.trod laidOut (by kernel_rfl) (of_decide_eq_true (by kernel_rfl)) k0 bel lt0) trodAll_mk0), rfl, bel.frame _, fun h => by cases h⟩
theorem fnExactShapesOf_j1 : Rows.fnExactShapesOfRow.wf (OpenSpec.ofChange Rows.fnExactShapesOfSpec) = true := by kernel_rfl
theorem fnExactShapesOf_j4 : Try.f12.params.all (Try.prog.readableRec ·) = true := by kernel_rfl
theorem fnExactShapesOf_j5 : namedTie Try.prog Rows.fnExactShapesOfRow.named Rows.fnExactShapesOfSpec.vars = true := by kernel_rfl
theorem fnExactShapesOf_j6 : (Rows.fnExactShapesOfRow.stops == []) = true := by kernel_rfl
theorem fnExactShapesOf_j8 : (Rows.fnExactShapesOfRow.knobs == []) = true := by kernel_rfl
theorem fnExactShapesOf_j10 : (Rows.fnExactShapesOfRow.inPlace == Try.prog.inPlace 12) = true := by kernel_rfl
theorem fnExactShapesOf_j11 : (Rows.fnExactShapesOfRow.unfollowed == Try.prog.unfollowed 12) = true := by kernel_rfl
theorem fnExactShapesOf_j12 : (Rows.fnExactShapesOfRow.recurses == Try.prog.recurses 12) = true := by kernel_rfl
theorem fnExactShapesOf_j13 : (Rows.fnExactShapesOfRow.named == Try.prog.varsNamed 12) = true := by kernel_rfl
theorem fnExactShapesOf_j14 : (Rows.fnExactShapesOfRow.maps == (Try.f12.params.toList ++ (Rows.fnExactShapesOfSpec).plain.varTypes Try.prog).any (Try.prog.mapsRec ·)) = true := by kernel_rfl
theorem fnExactShapesOf_j15 : (Rows.fnExactShapesOfRow.ifaces == (Try.f12.params.toList ++ (Rows.fnExactShapesOfSpec).plain.varTypes Try.prog).any (Try.prog.ifacesRec ·)) = true := by kernel_rfl
theorem fnExactShapesOf_j16 : (Rows.fnExactShapesOfRow.mapsOut == Try.prog.mapsAmong Try.f12.resultTypes.toList) = true := by kernel_rfl
theorem fnExactShapesOf_j17 : (Rows.fnExactShapesOfRow.loops == (Try.f12.params.toList ++ (Rows.fnExactShapesOfSpec).plain.varTypes Try.prog).any (Try.prog.loopsFrom ·)) = true := by kernel_rfl
theorem fnExactShapesOf_j18 : (Rows.fnExactShapesOfRow.wideKeys == (Try.f12.params.toList ++ (Rows.fnExactShapesOfSpec).plain.varTypes Try.prog ++ Try.f12.resultTypes.toList).any (Try.prog.wideKeysFrom ·)) = true := by kernel_rfl
theorem fnExactShapesOf_j19 : Rows.fnExactShapesOfSpec.vars.all (Try.prog.varReadable ·) = true := by kernel_rfl
theorem fnExactShapesOf_j20 : Try.f12.resultTypes.all (fun t => Try.prog.readableRec t && decide (t < Try.prog.types.size)) = true := by kernel_rfl
theorem fnExactShapesOf_j21 : (Rows.fnExactShapesOfRow.ifacesOut == Try.f12.resultTypes.toList.any (Try.prog.ifacesRec ·)) = true := by kernel_rfl
theorem fnExactShapesOf_j22 : (Rows.fnExactShapesOfRow.loopsOut == Try.f12.resultTypes.toList.any (Try.prog.loopsFrom ·)) = true := by kernel_rfl
theorem fnExactShapesOf_j23 : (Rows.fnExactShapesOfRow.plainKeys == Try.prog.plainKeys) = true := by kernel_rfl
theorem fnExactShapesOf_j24 : Rows.fnExactShapesOfRow.shortTexts.isNone = true := by kernel_rfl
theorem fnExactShapesOf_j30 : (Rows.fnExactShapesOfRow.pinned == Rows.fnExactShapesOfRow.pinnedBy) = true := by kernel_rfl
theorem fnExactShapesOf_j31 : (Rows.fnExactShapesOfRow.veiled == (Try.f12.params.toList ++ (Rows.fnExactShapesOfSpec).plain.varTypes Try.prog ++ Try.f12.resultTypes.toList).any (Try.prog.veiledRec ·)) = true := by kernel_rfl
theorem fnExactShapesOf_j32 : Rows.fnExactShapesOfRow.veiledFits Try.prog Try.f12.params.toList (Try.f12.params.toList ++ (Rows.fnExactShapesOfSpec).plain.varTypes Try.prog ++ Try.f12.resultTypes.toList) = true := by kernel_rfl
theorem fnExactShapesOf_closed : joinedFacts Try.prog 12 Try.f12 Rows.fnExactShapesOfSpec Rows.fnExactShapesOfRow = true :=
  closed_of _ _ _ _ _ fnExactShapesOf_j1 pLaid pMaps fnExactShapesOf_j4 fnExactShapesOf_j5 fnExactShapesOf_j6 pStops fnExactShapesOf_j8 pKnobs fnExactShapesOf_j10 fnExactShapesOf_j11 fnExactShapesOf_j12 fnExactShapesOf_j13 fnExactShapesOf_j14 fnExactShapesOf_j15 fnExactShapesOf_j16 fnExactShapesOf_j17 fnExactShapesOf_j18 fnExactShapesOf_j19 fnExactShapesOf_j20 fnExactShapesOf_j21 fnExactShapesOf_j22 fnExactShapesOf_j23 fnExactShapesOf_j24 pHeard may lifts rfl made rfl (by kernel_rfl) fnExactShapesOf_j30 fnExactShapesOf_j31 fnExactShapesOf_j32
theorem fnExactShapesOf_inst : Try.f12.isInstance Try.prog Rows.fnExactShapesOfRow.origin Rows.fnExactShapesOfRow.targs := of_decide_eq_true (by kernel_rfl)
theorem fnExactShapesOf_wrap : Try.f12.isWrapper Try.prog Rows.fnExactShapesOfRow.wrapper Rows.fnExactShapesOfRow.mainSum := by unfold Func.isWrapper; first | (rw [if_pos (by decide +kernel)]; kernel_rfl) | (rw [if_neg (by decide +kernel)]; exact ⟨rfl, rfl⟩)
theorem fnExactShapesOf_over : Rows.fnExactShapesOfRow.holds Try.pinned (OpenSpec.ofChange Rows.fnExactShapesOfSpec) :=
  OpenClaim.holds_of_wide 12 Try.f12 rfl rfl rfl rfl rfl rfl rfl ⟨rfl, rfl, rfl, rfl, rfl⟩ rfl rfl rfl rfl rfl (by kernel_rfl) Try.func12 fnExactShapesOf_closed
    fnExactShapesOf_inst fnExactShapesOf_wrap
    (fun os started H enc _ => fnExactShapesOf_lifted os started H enc)
end Go.Proofs.Ytcodbpjaamggeaa.R
namespace Go.Proofs.Ytcodbpjaamggeaa
/-- The row, under a short name, for the claim. -/
theorem fnExactShapesOf_holds : Rows.FnExactShapesOfSaid := R.fnExactShapesOf_over
#print axioms fnExactShapesOf_holds
end Go.Proofs.Ytcodbpjaamggeaa
