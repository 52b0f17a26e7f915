/- FnExactFirstBad: for every input the law returns true, and its argument reads as it did. -/
import Derived.Test.YtcodbpjaamggeaaRows
import Derived.Test.YtcodbpjaamggeaaRa
import Derived.Test.YtcodbpjaamggeaaRb
import Derived.Test.YtcodbpjaamggeaaDa
import Derived.WalkKit
import Derived.ProofKit
import Derived.OpenShut
import Derived.ChangeOld
import Derived.Below
import Derived.SizedLaws
set_option linter.unusedVariables false
set_option linter.unusedSimpArgs false
namespace Go.Proofs.Ytcodbpjaamggeaa.R
open Go.ChangeShapes Go.WideShapes Go.ChangeAt Go.RowKit

set_option maxRecDepth 100000 in
theorem fnExactFirstBad_lifted (os : Os) (started : os.Started) (H : Type) (enc : TypeId × Value → H) :
    ReturnsInHanded {} Try.checked os 3 .any (Rows.fnExactFirstBadSpec.pre6 enc Try.prog Try.f3 Rows.fnExactFirstBadRow.domain false) (Rows.fnExactFirstBadSpec.post enc Try.prog Try.f3 false true false false) := by
  refine returnsInHanded_of_change_sized (C := Try.checked) own started (by kernel_rfl) Try.func3
    (ChangeSpec.witness6 (enc := enc) (C := Try.checked) false ⟨#[], #[.slice none 0 0], []⟩ 8 (by kernel_rfl) (by kernel_rfl) (by kernel_rfl) (by kernel_rfl)) ?_
  intro W base args ds gs before hval0 hW hcnd hsz0 _
  have hval : ∀ (j : Nat) t v, Try.f3.params[j]? = some t → args[j]? = some v → Value.okWide Try.prog W .any base t v := hval0
  have hW' := hW
  obtain ⟨p, q, hA0, hV, rfl, hfz, hnd⟩ := hW
  have hA : DataW.TrodAll enc Try.prog W 0 (fun _ => true) true Try.f3.params.toList args.toList ds p := hA0
  rw [Try.params3] at hA hval
  obtain ⟨v0, vs0, d0, ds0, p0, q0, hargs, rfl, rfl, h0, r0⟩ := trodAll_cons hA
  obtain ⟨rfl, rfl, rfl⟩ := trodAll_nil r0
  obtain rfl : args = #[v0] := by cases args; simp_all
  obtain ⟨rfl, rfl⟩ := trodVars_none hV
  obtain ⟨a0, len0, cap0, rfl⟩ := okWide_slice Try.underlying22 (hval 0 22 v0 rfl rfl)
  have k0 := h0
  have lt0 : ∀ x ∈ p0, x.block < W.heap.size := by obtain ⟨m, hm⟩ := k0; exact DataW.trod_lt m _ _ _ hm
  obtain ⟨l, rfl, hl⟩ := open_two Try.underlying22 Try.underlying77 (by kernel_rfl) (by kernel_rfl) (by kernel_rfl) (by kernel_rfl) h0
  clear hA0 hval0 hsz0
  refine (C.FnExactFirstBad_c a0 cap0 l W hl).mono fun e W' ⟨he, bel⟩ => ?_
  subst he
  exact ⟨_, rfl, _, _, _, [], _, [], hW', trodAll_mk1 (shut_bool Try.underlying4 _), (trodAll_cons_mk (Below.trod laidOut (by kernel_rfl) (of_decide_eq_true (by kernel_rfl)) k0 bel lt0) trodAll_mk0), rfl, bel.frame _, fun h => by cases h⟩
theorem fnExactFirstBad_j1 : Rows.fnExactFirstBadRow.wf (OpenSpec.ofChange Rows.fnExactFirstBadSpec) = true := by kernel_rfl
theorem fnExactFirstBad_j4 : Try.f3.params.all (Try.prog.readableRec ·) = true := by kernel_rfl
theorem fnExactFirstBad_j5 : namedTie Try.prog Rows.fnExactFirstBadRow.named Rows.fnExactFirstBadSpec.vars = true := by kernel_rfl
theorem fnExactFirstBad_j6 : (Rows.fnExactFirstBadRow.stops == []) = true := by kernel_rfl
theorem fnExactFirstBad_j8 : (Rows.fnExactFirstBadRow.knobs == []) = true := by kernel_rfl
theorem fnExactFirstBad_j10 : (Rows.fnExactFirstBadRow.inPlace == Try.prog.inPlace 3) = true := by kernel_rfl
theorem fnExactFirstBad_j11 : (Rows.fnExactFirstBadRow.unfollowed == Try.prog.unfollowed 3) = true := by kernel_rfl
theorem fnExactFirstBad_j12 : (Rows.fnExactFirstBadRow.recurses == Try.prog.recurses 3) = true := by kernel_rfl
theorem fnExactFirstBad_j13 : (Rows.fnExactFirstBadRow.named == Try.prog.varsNamed 3) = true := by kernel_rfl
theorem fnExactFirstBad_j14 : (Rows.fnExactFirstBadRow.maps == (Try.f3.params.toList ++ (Rows.fnExactFirstBadSpec).plain.varTypes Try.prog).any (Try.prog.mapsRec ·)) = true := by kernel_rfl
theorem fnExactFirstBad_j15 : (Rows.fnExactFirstBadRow.ifaces == (Try.f3.params.toList ++ (Rows.fnExactFirstBadSpec).plain.varTypes Try.prog).any (Try.prog.ifacesRec ·)) = true := by kernel_rfl
theorem fnExactFirstBad_j16 : (Rows.fnExactFirstBadRow.mapsOut == Try.prog.mapsAmong Try.f3.resultTypes.toList) = true := by kernel_rfl
theorem fnExactFirstBad_j17 : (Rows.fnExactFirstBadRow.loops == (Try.f3.params.toList ++ (Rows.fnExactFirstBadSpec).plain.varTypes Try.prog).any (Try.prog.loopsFrom ·)) = true := by kernel_rfl
theorem fnExactFirstBad_j18 : (Rows.fnExactFirstBadRow.wideKeys == (Try.f3.params.toList ++ (Rows.fnExactFirstBadSpec).plain.varTypes Try.prog ++ Try.f3.resultTypes.toList).any (Try.prog.wideKeysFrom ·)) = true := by kernel_rfl
theorem fnExactFirstBad_j19 : Rows.fnExactFirstBadSpec.vars.all (Try.prog.varReadable ·) = true := by kernel_rfl
theorem fnExactFirstBad_j20 : Try.f3.resultTypes.all (fun t => Try.prog.readableRec t && decide (t < Try.prog.types.size)) = true := by kernel_rfl
theorem fnExactFirstBad_j21 : (Rows.fnExactFirstBadRow.ifacesOut == Try.f3.resultTypes.toList.any (Try.prog.ifacesRec ·)) = true := by kernel_rfl
theorem fnExactFirstBad_j22 : (Rows.fnExactFirstBadRow.loopsOut == Try.f3.resultTypes.toList.any (Try.prog.loopsFrom ·)) = true := by kernel_rfl
theorem fnExactFirstBad_j23 : (Rows.fnExactFirstBadRow.plainKeys == Try.prog.plainKeys) = true := by kernel_rfl
theorem fnExactFirstBad_j24 : Rows.fnExactFirstBadRow.shortTexts.isNone = true := by kernel_rfl
theorem fnExactFirstBad_j30 : (Rows.fnExactFirstBadRow.pinned == Rows.fnExactFirstBadRow.pinnedBy) = true := by kernel_rfl
theorem fnExactFirstBad_j31 : (Rows.fnExactFirstBadRow.veiled == (Try.f3.params.toList ++ (Rows.fnExactFirstBadSpec).plain.varTypes Try.prog ++ Try.f3.resultTypes.toList).any (Try.prog.veiledRec ·)) = true := by kernel_rfl
theorem fnExactFirstBad_j32 : Rows.fnExactFirstBadRow.veiledFits Try.prog Try.f3.params.toList (Try.f3.params.toList ++ (Rows.fnExactFirstBadSpec).plain.varTypes Try.prog ++ Try.f3.resultTypes.toList) = true := by kernel_rfl
theorem fnExactFirstBad_closed : joinedFacts Try.prog 3 Try.f3 Rows.fnExactFirstBadSpec Rows.fnExactFirstBadRow = true :=
  closed_of _ _ _ _ _ fnExactFirstBad_j1 pLaid pMaps fnExactFirstBad_j4 fnExactFirstBad_j5 fnExactFirstBad_j6 pStops fnExactFirstBad_j8 pKnobs fnExactFirstBad_j10 fnExactFirstBad_j11 fnExactFirstBad_j12 fnExactFirstBad_j13 fnExactFirstBad_j14 fnExactFirstBad_j15 fnExactFirstBad_j16 fnExactFirstBad_j17 fnExactFirstBad_j18 fnExactFirstBad_j19 fnExactFirstBad_j20 fnExactFirstBad_j21 fnExactFirstBad_j22 fnExactFirstBad_j23 fnExactFirstBad_j24 pHeard may lifts rfl made rfl (by kernel_rfl) fnExactFirstBad_j30 fnExactFirstBad_j31 fnExactFirstBad_j32
theorem fnExactFirstBad_inst : Try.f3.isInstance Try.prog Rows.fnExactFirstBadRow.origin Rows.fnExactFirstBadRow.targs := of_decide_eq_true (by kernel_rfl)
theorem fnExactFirstBad_wrap : Try.f3.isWrapper Try.prog Rows.fnExactFirstBadRow.wrapper Rows.fnExactFirstBadRow.mainSum := by unfold Func.isWrapper; first | (rw [if_pos (by decide +kernel)]; kernel_rfl) | (rw [if_neg (by decide +kernel)]; exact ⟨rfl, rfl⟩)
theorem fnExactFirstBad_over : Rows.fnExactFirstBadRow.holds Try.pinned (OpenSpec.ofChange Rows.fnExactFirstBadSpec) :=
  OpenClaim.holds_of_wide 3 Try.f3 rfl rfl rfl rfl rfl rfl rfl ⟨rfl, rfl, rfl, rfl, rfl⟩ rfl rfl rfl rfl rfl (by kernel_rfl) Try.func3 fnExactFirstBad_closed
    fnExactFirstBad_inst fnExactFirstBad_wrap
    (fun os started H enc _ => fnExactFirstBad_lifted os started H enc)
end Go.Proofs.Ytcodbpjaamggeaa.R
namespace Go.Proofs.Ytcodbpjaamggeaa
/-- The row, under a short name, for the claim. -/
theorem fnExactFirstBad_holds : Rows.FnExactFirstBadSaid := R.fnExactFirstBad_over
#print axioms fnExactFirstBad_holds
end Go.Proofs.Ytcodbpjaamggeaa
