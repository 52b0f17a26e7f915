/- FnExactReadMany: for every input the law returns true, and its argument reads as it did. -/
import Derived.Test.YtcodbpjaamggeaaRows
import Derived.Test.YtcodbpjaamggeaaRa
import Derived.Test.YtcodbpjaamggeaaRb
import Derived.Test.YtcodbpjaamggeaaDj
import Derived.WalkKit
import Derived.ProofKit
import Derived.OpenShut
import Derived.ChangeOld
import Derived.Below
import Derived.SizedLaws
set_option linter.unusedVariables false
set_option linter.unusedSimpArgs false
namespace Go.Proofs.Ytcodbpjaamggeaa.R
open Go.ChangeShapes Go.WideShapes Go.ChangeAt Go.RowKit

set_option maxRecDepth 100000 in
theorem fnExactReadMany_lifted (os : Os) (started : os.Started) (H : Type) (enc : TypeId × Value → H) :
    ReturnsInHanded {} Try.checked os 17 .any (Rows.fnExactReadManySpec.pre6 enc Try.prog Try.f17 Rows.fnExactReadManyRow.domain false) (Rows.fnExactReadManySpec.post enc Try.prog Try.f17 false true false false) := by
  refine returnsInHanded_of_change_sized (C := Try.checked) own started (by kernel_rfl) Try.func17
    (ChangeSpec.witness6 (enc := enc) (C := Try.checked) false ⟨#[], #[.slice none 0 0], []⟩ 8 (by kernel_rfl) (by kernel_rfl) (by kernel_rfl) (by kernel_rfl)) ?_
  intro W base args ds gs before hval0 hW hcnd hsz0 _
  have hval : ∀ (j : Nat) t v, Try.f17.params[j]? = some t → args[j]? = some v → Value.okWide Try.prog W .any base t v := hval0
  have hW' := hW
  obtain ⟨p, q, hA0, hV, rfl, hfz, hnd⟩ := hW
  have hA : DataW.TrodAll enc Try.prog W 0 (fun _ => true) true Try.f17.params.toList args.toList ds p := hA0
  rw [Try.params17] at hA hval
  obtain ⟨v0, vs0, d0, ds0, p0, q0, hargs, rfl, rfl, h0, r0⟩ := trodAll_cons hA
  obtain ⟨rfl, rfl, rfl⟩ := trodAll_nil r0
  obtain rfl : args = #[v0] := by cases args; simp_all
  obtain ⟨rfl, rfl⟩ := trodVars_none hV
  obtain ⟨a0, len0, cap0, rfl⟩ := okWide_slice Try.underlying22 (hval 0 22 v0 rfl rfl)
  have k0 := h0
  have lt0 : ∀ x ∈ p0, x.block < W.heap.size := by obtain ⟨m, hm⟩ := k0; exact DataW.trod_lt m _ _ _ hm
  obtain ⟨l, rfl, hl⟩ := open_two Try.underlying22 Try.underlying77 (by kernel_rfl) (by kernel_rfl) (by kernel_rfl) (by kernel_rfl) h0
  clear hA0 hval0 hsz0
  refine (C.FnExactReadMany_c a0 cap0 l W hl).mono fun e W' ⟨he, bel⟩ => ?_
  subst he
  exact ⟨_, rfl, _, _, _, [], _, [], hW', trodAll_mk1 (shut_bool Try.underlying4 _), (trodAll_cons_mk (Below.trod laidOut (by kernel_rfl) (of_decide_eq_true (by kernel_rfl)) k0 bel lt0) trodAll_mk0), rfl, bel.frame _, fun h => by cases h⟩
theorem fnExactReadMany_j1 : Rows.fnExactReadManyRow.wf (OpenSpec.ofChange Rows.fnExactReadManySpec) = true := by kernel_rfl
theorem fnExactReadMany_j4 : Try.f17.params.all (Try.prog.readableRec ·) = true := by kernel_rfl
theorem fnExactReadMany_j5 : namedTie Try.prog Rows.fnExactReadManyRow.named Rows.fnExactReadManySpec.vars = true := by kernel_rfl
theorem fnExactReadMany_j6 : (Rows.fnExactReadManyRow.stops == []) = true := by kernel_rfl
theorem fnExactReadMany_j8 : (Rows.fnExactReadManyRow.knobs == []) = true := by kernel_rfl
theorem fnExactReadMany_j10 : (Rows.fnExactReadManyRow.inPlace == Try.prog.inPlace 17) = true := by kernel_rfl
theorem fnExactReadMany_j11 : (Rows.fnExactReadManyRow.unfollowed == Try.prog.unfollowed 17) = true := by kernel_rfl
theorem fnExactReadMany_j12 : (Rows.fnExactReadManyRow.recurses == Try.prog.recurses 17) = true := by kernel_rfl
theorem fnExactReadMany_j13 : (Rows.fnExactReadManyRow.named == Try.prog.varsNamed 17) = true := by kernel_rfl
theorem fnExactReadMany_j14 : (Rows.fnExactReadManyRow.maps == (Try.f17.params.toList ++ (Rows.fnExactReadManySpec).plain.varTypes Try.prog).any (Try.prog.mapsRec ·)) = true := by kernel_rfl
theorem fnExactReadMany_j15 : (Rows.fnExactReadManyRow.ifaces == (Try.f17.params.toList ++ (Rows.fnExactReadManySpec).plain.varTypes Try.prog).any (Try.prog.ifacesRec ·)) = true := by kernel_rfl
theorem fnExactReadMany_j16 : (Rows.fnExactReadManyRow.mapsOut == Try.prog.mapsAmong Try.f17.resultTypes.toList) = true := by kernel_rfl
theorem fnExactReadMany_j17 : (Rows.fnExactReadManyRow.loops == (Try.f17.params.toList ++ (Rows.fnExactReadManySpec).plain.varTypes Try.prog).any (Try.prog.loopsFrom ·)) = true := by kernel_rfl
theorem fnExactReadMany_j18 : (Rows.fnExactReadManyRow.wideKeys == (Try.f17.params.toList ++ (Rows.fnExactReadManySpec).plain.varTypes Try.prog ++ Try.f17.resultTypes.toList).any (Try.prog.wideKeysFrom ·)) = true := by kernel_rfl
theorem fnExactReadMany_j19 : Rows.fnExactReadManySpec.vars.all (Try.prog.varReadable ·) = true := by kernel_rfl
theorem fnExactReadMany_j20 : Try.f17.resultTypes.all (fun t => Try.prog.readableRec t && decide (t < Try.prog.types.size)) = true := by kernel_rfl
theorem fnExactReadMany_j21 : (Rows.fnExactReadManyRow.ifacesOut == Try.f17.resultTypes.toList.any (Try.prog.ifacesRec ·)) = true := by kernel_rfl
theorem fnExactReadMany_j22 : (Rows.fnExactReadManyRow.loopsOut == Try.f17.resultTypes.toList.any (Try.prog.loopsFrom ·)) = true := by kernel_rfl
theorem fnExactReadMany_j23 : (Rows.fnExactReadManyRow.plainKeys == Try.prog.plainKeys) = true := by kernel_rfl
theorem fnExactReadMany_j24 : Rows.fnExactReadManyRow.shortTexts.isNone = true := by kernel_rfl
theorem fnExactReadMany_j30 : (Rows.fnExactReadManyRow.pinned == Rows.fnExactReadManyRow.pinnedBy) = true := by kernel_rfl
theorem fnExactReadMany_j31 : (Rows.fnExactReadManyRow.veiled == (Try.f17.params.toList ++ (Rows.fnExactReadManySpec).plain.varTypes Try.prog ++ Try.f17.resultTypes.toList).any (Try.prog.veiledRec ·)) = true := by kernel_rfl
theorem fnExactReadMany_j32 : Rows.fnExactReadManyRow.veiledFits Try.prog Try.f17.params.toList (Try.f17.params.toList ++ (Rows.fnExactReadManySpec).plain.varTypes Try.prog ++ Try.f17.resultTypes.toList) = true := by kernel_rfl
theorem fnExactReadMany_closed : joinedFacts Try.prog 17 Try.f17 Rows.fnExactReadManySpec Rows.fnExactReadManyRow = true :=
  closed_of _ _ _ _ _ fnExactReadMany_j1 pLaid pMaps fnExactReadMany_j4 fnExactReadMany_j5 fnExactReadMany_j6 pStops fnExactReadMany_j8 pKnobs fnExactReadMany_j10 fnExactReadMany_j11 fnExactReadMany_j12 fnExactReadMany_j13 fnExactReadMany_j14 fnExactReadMany_j15 fnExactReadMany_j16 fnExactReadMany_j17 fnExactReadMany_j18 fnExactReadMany_j19 fnExactReadMany_j20 fnExactReadMany_j21 fnExactReadMany_j22 fnExactReadMany_j23 fnExactReadMany_j24 pHeard may lifts rfl made rfl (by kernel_rfl) fnExactReadMany_j30 fnExactReadMany_j31 fnExactReadMany_j32
theorem fnExactReadMany_inst : Try.f17.isInstance Try.prog Rows.fnExactReadManyRow.origin Rows.fnExactReadManyRow.targs := of_decide_eq_true (by kernel_rfl)
theorem fnExactReadMany_wrap : Try.f17.isWrapper Try.prog Rows.fnExactReadManyRow.wrapper Rows.fnExactReadManyRow.mainSum := by unfold Func.isWrapper; first | (rw [if_pos (by decide +kernel)]; kernel_rfl) | (rw [if_neg (by decide +kernel)]; exact ⟨rfl, rfl⟩)
theorem fnExactReadMany_over : Rows.fnExactReadManyRow.holds Try.pinned (OpenSpec.ofChange Rows.fnExactReadManySpec) :=
  OpenClaim.holds_of_wide 17 Try.f17 rfl rfl rfl rfl rfl rfl rfl ⟨rfl, rfl, rfl, rfl, rfl⟩ rfl rfl rfl rfl rfl (by kernel_rfl) Try.func17 fnExactReadMany_closed
    fnExactReadMany_inst fnExactReadMany_wrap
    (fun os started H enc _ => fnExactReadMany_lifted os started H enc)
end Go.Proofs.Ytcodbpjaamggeaa.R
namespace Go.Proofs.Ytcodbpjaamggeaa
/-- The row, under a short name, for the claim. -/
theorem fnExactReadMany_holds : Rows.FnExactReadManySaid := R.fnExactReadMany_over
#print axioms fnExactReadMany_holds
end Go.Proofs.Ytcodbpjaamggeaa
