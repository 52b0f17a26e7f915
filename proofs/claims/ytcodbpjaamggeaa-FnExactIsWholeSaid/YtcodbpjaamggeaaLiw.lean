/- FnExactIsWhole: for every input the law returns true, and its argument reads as it did. -/
import Derived.Test.YtcodbpjaamggeaaRows
import Derived.Test.YtcodbpjaamggeaaRa
import Derived.Test.YtcodbpjaamggeaaRb
import Derived.Test.YtcodbpjaamggeaaDb
import Derived.WalkKit
import Derived.ProofKit
import Derived.OpenShut
import Derived.ChangeOld
import Derived.Below
import Derived.SizedLaws
set_option linter.unusedVariables false
set_option linter.unusedSimpArgs false
namespace Go.Proofs.Ytcodbpjaamggeaa.R
open Go.ChangeShapes Go.WideShapes Go.ChangeAt Go.RowKit

set_option maxRecDepth 100000 in
theorem fnExactIsWhole_lifted (os : Os) (started : os.Started) (H : Type) (enc : TypeId × Value → H) :
    ReturnsInHanded {} Try.checked os 4 .any (Rows.fnExactIsWholeSpec.pre6 enc Try.prog Try.f4 Rows.fnExactIsWholeRow.domain false) (Rows.fnExactIsWholeSpec.post enc Try.prog Try.f4 false true false false) := by
  refine returnsInHanded_of_change_sized (C := Try.checked) own started (by kernel_rfl) Try.func4
    (ChangeSpec.witness6 (enc := enc) (C := Try.checked) false ⟨#[], #[.slice none 0 0], []⟩ 8 (by kernel_rfl) (by kernel_rfl) (by kernel_rfl) (by kernel_rfl)) ?_
  intro W base args ds gs before hval0 hW hcnd hsz0 _
  have hval : ∀ (j : Nat) t v, Try.f4.params[j]? = some t → args[j]? = some v → Value.okWide Try.prog W .any base t v := hval0
  have hW' := hW
  obtain ⟨p, q, hA0, hV, rfl, hfz, hnd⟩ := hW
  have hA : DataW.TrodAll enc Try.prog W 0 (fun _ => true) true Try.f4.params.toList args.toList ds p := hA0
  rw [Try.params4] at hA hval
  obtain ⟨v0, vs0, d0, ds0, p0, q0, hargs, rfl, rfl, h0, r0⟩ := trodAll_cons hA
  obtain ⟨rfl, rfl, rfl⟩ := trodAll_nil r0
  obtain rfl : args = #[v0] := by cases args; simp_all
  obtain ⟨rfl, rfl⟩ := trodVars_none hV
  obtain ⟨a0, len0, cap0, rfl⟩ := okWide_slice Try.underlying22 (hval 0 22 v0 rfl rfl)
  have k0 := h0
  have lt0 : ∀ x ∈ p0, x.block < W.heap.size := by obtain ⟨m, hm⟩ := k0; exact DataW.trod_lt m _ _ _ hm
  obtain ⟨l, rfl, hl⟩ := open_two Try.underlying22 Try.underlying77 (by kernel_rfl) (by kernel_rfl) (by kernel_rfl) (by kernel_rfl) h0
  clear hA0 hval0 hsz0
  refine (C.FnExactIsWhole_c a0 cap0 l W hl).mono fun e W' ⟨he, bel⟩ => ?_
  subst he
  exact ⟨_, rfl, _, _, _, [], _, [], hW', trodAll_mk1 (shut_bool Try.underlying4 _), (trodAll_cons_mk (Below.trod laidOut (by kernel_rfl) (of_decide_eq_true (by kernel_rfl)) k0 bel lt0) trodAll_mk0), rfl, bel.frame _, fun h => by cases h⟩
theorem fnExactIsWhole_j1 : Rows.fnExactIsWholeRow.wf (OpenSpec.ofChange Rows.fnExactIsWholeSpec) = true := by kernel_rfl
theorem fnExactIsWhole_j4 : Try.f4.params.all (Try.prog.readableRec ·) = true := by kernel_rfl
theorem fnExactIsWhole_j5 : namedTie Try.prog Rows.fnExactIsWholeRow.named Rows.fnExactIsWholeSpec.vars = true := by kernel_rfl
theorem fnExactIsWhole_j6 : (Rows.fnExactIsWholeRow.stops == []) = true := by kernel_rfl
theorem fnExactIsWhole_j8 : (Rows.fnExactIsWholeRow.knobs == []) = true := by kernel_rfl
theorem fnExactIsWhole_j10 : (Rows.fnExactIsWholeRow.inPlace == Try.prog.inPlace 4) = true := by kernel_rfl
theorem fnExactIsWhole_j11 : (Rows.fnExactIsWholeRow.unfollowed == Try.prog.unfollowed 4) = true := by kernel_rfl
theorem fnExactIsWhole_j12 : (Rows.fnExactIsWholeRow.recurses == Try.prog.recurses 4) = true := by kernel_rfl
theorem fnExactIsWhole_j13 : (Rows.fnExactIsWholeRow.named == Try.prog.varsNamed 4) = true := by kernel_rfl
theorem fnExactIsWhole_j14 : (Rows.fnExactIsWholeRow.maps == (Try.f4.params.toList ++ (Rows.fnExactIsWholeSpec).plain.varTypes Try.prog).any (Try.prog.mapsRec ·)) = true := by kernel_rfl
theorem fnExactIsWhole_j15 : (Rows.fnExactIsWholeRow.ifaces == (Try.f4.params.toList ++ (Rows.fnExactIsWholeSpec).plain.varTypes Try.prog).any (Try.prog.ifacesRec ·)) = true := by kernel_rfl
theorem fnExactIsWhole_j16 : (Rows.fnExactIsWholeRow.mapsOut == Try.prog.mapsAmong Try.f4.resultTypes.toList) = true := by kernel_rfl
theorem fnExactIsWhole_j17 : (Rows.fnExactIsWholeRow.loops == (Try.f4.params.toList ++ (Rows.fnExactIsWholeSpec).plain.varTypes Try.prog).any (Try.prog.loopsFrom ·)) = true := by kernel_rfl
theorem fnExactIsWhole_j18 : (Rows.fnExactIsWholeRow.wideKeys == (Try.f4.params.toList ++ (Rows.fnExactIsWholeSpec).plain.varTypes Try.prog ++ Try.f4.resultTypes.toList).any (Try.prog.wideKeysFrom ·)) = true := by kernel_rfl
theorem fnExactIsWhole_j19 : Rows.fnExactIsWholeSpec.vars.all (Try.prog.varReadable ·) = true := by kernel_rfl
theorem fnExactIsWhole_j20 : Try.f4.resultTypes.all (fun t => Try.prog.readableRec t && decide (t < Try.prog.types.size)) = true := by kernel_rfl
theorem fnExactIsWhole_j21 : (Rows.fnExactIsWholeRow.ifacesOut == Try.f4.resultTypes.toList.any (Try.prog.ifacesRec ·)) = true := by kernel_rfl
theorem fnExactIsWhole_j22 : (Rows.fnExactIsWholeRow.loopsOut == Try.f4.resultTypes.toList.any (Try.prog.loopsFrom ·)) = true := by kernel_rfl
theorem fnExactIsWhole_j23 : (Rows.fnExactIsWholeRow.plainKeys == Try.prog.plainKeys) = true := by kernel_rfl
theorem fnExactIsWhole_j24 : Rows.fnExactIsWholeRow.shortTexts.isNone = true := by kernel_rfl
theorem fnExactIsWhole_j30 : (Rows.fnExactIsWholeRow.pinned == Rows.fnExactIsWholeRow.pinnedBy) = true := by kernel_rfl
theorem fnExactIsWhole_j31 : (Rows.fnExactIsWholeRow.veiled == (Try.f4.params.toList ++ (Rows.fnExactIsWholeSpec).plain.varTypes Try.prog ++ Try.f4.resultTypes.toList).any (Try.prog.veiledRec ·)) = true := by kernel_rfl
theorem fnExactIsWhole_j32 : Rows.fnExactIsWholeRow.veiledFits Try.prog Try.f4.params.toList (Try.f4.params.toList ++ (Rows.fnExactIsWholeSpec).plain.varTypes Try.prog ++ Try.f4.resultTypes.toList) = true := by kernel_rfl
theorem fnExactIsWhole_closed : joinedFacts Try.prog 4 Try.f4 Rows.fnExactIsWholeSpec Rows.fnExactIsWholeRow = true :=
  closed_of _ _ _ _ _ fnExactIsWhole_j1 pLaid pMaps fnExactIsWhole_j4 fnExactIsWhole_j5 fnExactIsWhole_j6 pStops fnExactIsWhole_j8 pKnobs fnExactIsWhole_j10 fnExactIsWhole_j11 fnExactIsWhole_j12 fnExactIsWhole_j13 fnExactIsWhole_j14 fnExactIsWhole_j15 fnExactIsWhole_j16 fnExactIsWhole_j17 fnExactIsWhole_j18 fnExactIsWhole_j19 fnExactIsWhole_j20 fnExactIsWhole_j21 fnExactIsWhole_j22 fnExactIsWhole_j23 fnExactIsWhole_j24 pHeard may lifts rfl made rfl (by kernel_rfl) fnExactIsWhole_j30 fnExactIsWhole_j31 fnExactIsWhole_j32
theorem fnExactIsWhole_inst : Try.f4.isInstance Try.prog Rows.fnExactIsWholeRow.origin Rows.fnExactIsWholeRow.targs := of_decide_eq_true (by kernel_rfl)
theorem fnExactIsWhole_wrap : Try.f4.isWrapper Try.prog Rows.fnExactIsWholeRow.wrapper Rows.fnExactIsWholeRow.mainSum := by unfold Func.isWrapper; first | (rw [if_pos (by decide +kernel)]; kernel_rfl) | (rw [if_neg (by decide +kernel)]; exact ⟨rfl, rfl⟩)
theorem fnExactIsWhole_over : Rows.fnExactIsWholeRow.holds Try.pinned (OpenSpec.ofChange Rows.fnExactIsWholeSpec) :=
  OpenClaim.holds_of_wide 4 Try.f4 rfl rfl rfl rfl rfl rfl rfl ⟨rfl, rfl, rfl, rfl, rfl⟩ rfl rfl rfl rfl rfl (by kernel_rfl) Try.func4 fnExactIsWhole_closed
    fnExactIsWhole_inst fnExactIsWhole_wrap
    (fun os started H enc _ => fnExactIsWhole_lifted os started H enc)
end Go.Proofs.Ytcodbpjaamggeaa.R
namespace Go.Proofs.Ytcodbpjaamggeaa
/-- The row, under a short name, for the claim. -/
theorem fnExactIsWhole_holds : Rows.FnExactIsWholeSaid := R.fnExactIsWhole_over
#print axioms fnExactIsWhole_holds
end Go.Proofs.Ytcodbpjaamggeaa
