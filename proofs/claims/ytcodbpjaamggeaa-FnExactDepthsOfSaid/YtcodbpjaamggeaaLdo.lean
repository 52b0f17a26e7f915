/- FnExactDepthsOf: for every input the law returns true, and its argument reads as it did. -/
import Derived.Test.YtcodbpjaamggeaaRows
import Derived.Test.YtcodbpjaamggeaaRa
import Derived.Test.YtcodbpjaamggeaaRb
import Derived.Test.YtcodbpjaamggeaaDd
import Derived.WalkKit
import Derived.ProofKit
import Derived.OpenShut
import Derived.ChangeOld
import Derived.Below
import Derived.SizedLaws
set_option linter.unusedVariables false
set_option linter.unusedSimpArgs false
namespace Go.Proofs.Ytcodbpjaamggeaa.R
open Go.ChangeShapes Go.WideShapes Go.ChangeAt Go.RowKit

set_option maxRecDepth 100000 in
theorem fnExactDepthsOf_lifted (os : Os) (started : os.Started) (H : Type) (enc : TypeId × Value → H) :
    ReturnsInHanded {} Try.checked os 6 .any (Rows.fnExactDepthsOfSpec.pre6 enc Try.prog Try.f6 Rows.fnExactDepthsOfRow.domain false) (Rows.fnExactDepthsOfSpec.post enc Try.prog Try.f6 false true false false) := by
  refine returnsInHanded_of_change_sized (C := Try.checked) own started (by kernel_rfl) Try.func6
    (ChangeSpec.witness6 (enc := enc) (C := Try.checked) false ⟨#[], #[.slice none 0 0], []⟩ 8 (by kernel_rfl) (by kernel_rfl) (by kernel_rfl) (by kernel_rfl)) ?_
  intro W base args ds gs before hval0 hW hcnd hsz0 _
  have hval : ∀ (j : Nat) t v, Try.f6.params[j]? = some t → args[j]? = some v → Value.okWide Try.prog W .any base t v := hval0
  have hW' := hW
  obtain ⟨p, q, hA0, hV, rfl, hfz, hnd⟩ := hW
  have hA : DataW.TrodAll enc Try.prog W 0 (fun _ => true) true Try.f6.params.toList args.toList ds p := hA0
  rw [Try.params6] at hA hval
  obtain ⟨v0, vs0, d0, ds0, p0, q0, hargs, rfl, rfl, h0, r0⟩ := trodAll_cons hA
  obtain ⟨rfl, rfl, rfl⟩ := trodAll_nil r0
  obtain rfl : args = #[v0] := by cases args; simp_all
  obtain ⟨rfl, rfl⟩ := trodVars_none hV
  obtain ⟨a0, len0, cap0, rfl⟩ := okWide_slice Try.underlying22 (hval 0 22 v0 rfl rfl)
  have k0 := h0
  have lt0 : ∀ x ∈ p0, x.block < W.heap.size := by obtain ⟨m, hm⟩ := k0; exact DataW.trod_lt m _ _ _ hm
  obtain ⟨l, rfl, hl⟩ := open_two Try.underlying22 Try.underlying77 (by kernel_rfl) (by kernel_rfl) (by kernel_rfl) (by kernel_rfl) h0
  clear hA0 hval0 hsz0
  refine (C.FnExactDepthsOf_c a0 cap0 l W hl).mono fun e W' ⟨he, bel⟩ => ?_
  subst he
  exact ⟨_, rfl, _, _, _, [], _, [], hW', trodAll_mk1 (shut_bool Try.underlying4 _), (trodAll_cons_mk (Below.trod laidOut (by kernel_rfl) (of_decide_eq_true (by kernel_rfl)) k0 bel lt0) trodAll_mk0), rfl, bel.frame _, fun h => by cases h⟩
theorem fnExactDepthsOf_j1 : Rows.fnExactDepthsOfRow.wf (OpenSpec.ofChange Rows.fnExactDepthsOfSpec) = true := by kernel_rfl
theorem fnExactDepthsOf_j4 : Try.f6.params.all (Try.prog.readableRec ·) = true := by kernel_rfl
theorem fnExactDepthsOf_j5 : namedTie Try.prog Rows.fnExactDepthsOfRow.named Rows.fnExactDepthsOfSpec.vars = true := by kernel_rfl
theorem fnExactDepthsOf_j6 : (Rows.fnExactDepthsOfRow.stops == []) = true := by kernel_rfl
theorem fnExactDepthsOf_j8 : (Rows.fnExactDepthsOfRow.knobs == []) = true := by kernel_rfl
theorem fnExactDepthsOf_j10 : (Rows.fnExactDepthsOfRow.inPlace == Try.prog.inPlace 6) = true := by kernel_rfl
theorem fnExactDepthsOf_j11 : (Rows.fnExactDepthsOfRow.unfollowed == Try.prog.unfollowed 6) = true := by kernel_rfl
theorem fnExactDepthsOf_j12 : (Rows.fnExactDepthsOfRow.recurses == Try.prog.recurses 6) = true := by kernel_rfl
theorem fnExactDepthsOf_j13 : (Rows.fnExactDepthsOfRow.named == Try.prog.varsNamed 6) = true := by kernel_rfl
theorem fnExactDepthsOf_j14 : (Rows.fnExactDepthsOfRow.maps == (Try.f6.params.toList ++ (Rows.fnExactDepthsOfSpec).plain.varTypes Try.prog).any (Try.prog.mapsRec ·)) = true := by kernel_rfl
theorem fnExactDepthsOf_j15 : (Rows.fnExactDepthsOfRow.ifaces == (Try.f6.params.toList ++ (Rows.fnExactDepthsOfSpec).plain.varTypes Try.prog).any (Try.prog.ifacesRec ·)) = true := by kernel_rfl
theorem fnExactDepthsOf_j16 : (Rows.fnExactDepthsOfRow.mapsOut == Try.prog.mapsAmong Try.f6.resultTypes.toList) = true := by kernel_rfl
theorem fnExactDepthsOf_j17 : (Rows.fnExactDepthsOfRow.loops == (Try.f6.params.toList ++ (Rows.fnExactDepthsOfSpec).plain.varTypes Try.prog).any (Try.prog.loopsFrom ·)) = true := by kernel_rfl
theorem fnExactDepthsOf_j18 : (Rows.fnExactDepthsOfRow.wideKeys == (Try.f6.params.toList ++ (Rows.fnExactDepthsOfSpec).plain.varTypes Try.prog ++ Try.f6.resultTypes.toList).any (Try.prog.wideKeysFrom ·)) = true := by kernel_rfl
theorem fnExactDepthsOf_j19 : Rows.fnExactDepthsOfSpec.vars.all (Try.prog.varReadable ·) = true := by kernel_rfl
theorem fnExactDepthsOf_j20 : Try.f6.resultTypes.all (fun t => Try.prog.readableRec t && decide (t < Try.prog.types.size)) = true := by kernel_rfl
theorem fnExactDepthsOf_j21 : (Rows.fnExactDepthsOfRow.ifacesOut == Try.f6.resultTypes.toList.any (Try.prog.ifacesRec ·)) = true := by kernel_rfl
theorem fnExactDepthsOf_j22 : (Rows.fnExactDepthsOfRow.loopsOut == Try.f6.resultTypes.toList.any (Try.prog.loopsFrom ·)) = true := by kernel_rfl
theorem fnExactDepthsOf_j23 : (Rows.fnExactDepthsOfRow.plainKeys == Try.prog.plainKeys) = true := by kernel_rfl
theorem fnExactDepthsOf_j24 : Rows.fnExactDepthsOfRow.shortTexts.isNone = true := by kernel_rfl
theorem fnExactDepthsOf_j30 : (Rows.fnExactDepthsOfRow.pinned == Rows.fnExactDepthsOfRow.pinnedBy) = true := by kernel_rfl
theorem fnExactDepthsOf_j31 : (Rows.fnExactDepthsOfRow.veiled == (Try.f6.params.toList ++ (Rows.fnExactDepthsOfSpec).plain.varTypes Try.prog ++ Try.f6.resultTypes.toList).any (Try.prog.veiledRec ·)) = true := by kernel_rfl
theorem fnExactDepthsOf_j32 : Rows.fnExactDepthsOfRow.veiledFits Try.prog Try.f6.params.toList (Try.f6.params.toList ++ (Rows.fnExactDepthsOfSpec).plain.varTypes Try.prog ++ Try.f6.resultTypes.toList) = true := by kernel_rfl
theorem fnExactDepthsOf_closed : joinedFacts Try.prog 6 Try.f6 Rows.fnExactDepthsOfSpec Rows.fnExactDepthsOfRow = true :=
  closed_of _ _ _ _ _ fnExactDepthsOf_j1 pLaid pMaps fnExactDepthsOf_j4 fnExactDepthsOf_j5 fnExactDepthsOf_j6 pStops fnExactDepthsOf_j8 pKnobs fnExactDepthsOf_j10 fnExactDepthsOf_j11 fnExactDepthsOf_j12 fnExactDepthsOf_j13 fnExactDepthsOf_j14 fnExactDepthsOf_j15 fnExactDepthsOf_j16 fnExactDepthsOf_j17 fnExactDepthsOf_j18 fnExactDepthsOf_j19 fnExactDepthsOf_j20 fnExactDepthsOf_j21 fnExactDepthsOf_j22 fnExactDepthsOf_j23 fnExactDepthsOf_j24 pHeard may lifts rfl made rfl (by kernel_rfl) fnExactDepthsOf_j30 fnExactDepthsOf_j31 fnExactDepthsOf_j32
theorem fnExactDepthsOf_inst : Try.f6.isInstance Try.prog Rows.fnExactDepthsOfRow.origin Rows.fnExactDepthsOfRow.targs := of_decide_eq_true (by kernel_rfl)
theorem fnExactDepthsOf_wrap : Try.f6.isWrapper Try.prog Rows.fnExactDepthsOfRow.wrapper Rows.fnExactDepthsOfRow.mainSum := by unfold Func.isWrapper; first | (rw [if_pos (by decide +kernel)]; kernel_rfl) | (rw [if_neg (by decide +kernel)]; exact ⟨rfl, rfl⟩)
theorem fnExactDepthsOf_over : Rows.fnExactDepthsOfRow.holds Try.pinned (OpenSpec.ofChange Rows.fnExactDepthsOfSpec) :=
  OpenClaim.holds_of_wide 6 Try.f6 rfl rfl rfl rfl rfl rfl rfl ⟨rfl, rfl, rfl, rfl, rfl⟩ rfl rfl rfl rfl rfl (by kernel_rfl) Try.func6 fnExactDepthsOf_closed
    fnExactDepthsOf_inst fnExactDepthsOf_wrap
    (fun os started H enc _ => fnExactDepthsOf_lifted os started H enc)
end Go.Proofs.Ytcodbpjaamggeaa.R
namespace Go.Proofs.Ytcodbpjaamggeaa
/-- The row, under a short name, for the claim. -/
theorem fnExactDepthsOf_holds : Rows.FnExactDepthsOfSaid := R.fnExactDepthsOf_over
#print axioms fnExactDepthsOf_holds
end Go.Proofs.Ytcodbpjaamggeaa
