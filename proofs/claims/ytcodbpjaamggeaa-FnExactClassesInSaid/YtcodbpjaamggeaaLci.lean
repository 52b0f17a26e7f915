/- FnExactClassesIn: for every input the law returns true, and its argument reads as it did. -/
import Derived.Test.YtcodbpjaamggeaaRows
import Derived.Test.YtcodbpjaamggeaaRa
import Derived.Test.YtcodbpjaamggeaaRb
import Derived.Test.YtcodbpjaamggeaaKf
import Derived.WalkKit
import Derived.ProofKit
import Derived.OpenShut
import Derived.ChangeOld
import Derived.Below
import Derived.SizedLaws
set_option linter.unusedVariables false
set_option linter.unusedSimpArgs false
namespace Go.Proofs.Ytcodbpjaamggeaa.R
open Go.ChangeShapes Go.WideShapes Go.ChangeAt Go.RowKit

set_option maxRecDepth 100000 in
theorem fnExactClassesIn_lifted (os : Os) (started : os.Started) (H : Type) (enc : TypeId × Value → H) :
    ReturnsInHanded {} Try.checked os 9 .any (Rows.fnExactClassesInSpec.pre6 enc Try.prog Try.f9 Rows.fnExactClassesInRow.domain false) (Rows.fnExactClassesInSpec.post enc Try.prog Try.f9 false true false false) := by
  refine returnsInHanded_of_change_sized (C := Try.checked) own started (by kernel_rfl) Try.func9
    (ChangeSpec.witness6 (enc := enc) (C := Try.checked) false ⟨#[], #[.slice none 0 0], []⟩ 8 (by kernel_rfl) (by kernel_rfl) (by kernel_rfl) (by kernel_rfl)) ?_
  intro W base args ds gs before hval0 hW hcnd hsz0 _
  have hval : ∀ (j : Nat) t v, Try.f9.params[j]? = some t → args[j]? = some v → Value.okWide Try.prog W .any base t v := hval0
  have hW' := hW
  obtain ⟨p, q, hA0, hV, rfl, hfz, hnd⟩ := hW
  have hA : DataW.TrodAll enc Try.prog W 0 (fun _ => true) true Try.f9.params.toList args.toList ds p := hA0
  rw [Try.params9] at hA hval
  obtain ⟨v0, vs0, d0, ds0, p0, q0, hargs, rfl, rfl, h0, r0⟩ := trodAll_cons hA
  obtain ⟨rfl, rfl, rfl⟩ := trodAll_nil r0
  obtain rfl : args = #[v0] := by cases args; simp_all
  obtain ⟨rfl, rfl⟩ := trodVars_none hV
  obtain ⟨a0, len0, cap0, rfl⟩ := okWide_slice Try.underlying22 (hval 0 22 v0 rfl rfl)
  have k0 := h0
  have lt0 : ∀ x ∈ p0, x.block < W.heap.size := by obtain ⟨m, hm⟩ := k0; exact DataW.trod_lt m _ _ _ hm
  obtain ⟨l, rfl, hl⟩ := open_two Try.underlying22 Try.underlying77 (by kernel_rfl) (by kernel_rfl) (by kernel_rfl) (by kernel_rfl) h0
  clear hA0 hval0 hsz0
  refine (C.FnExactClassesIn_c a0 cap0 l W hl).mono fun e W' ⟨he, bel⟩ => ?_
  subst he
  exact ⟨_, rfl, _, _, _, [], _, [], hW', trodAll_mk1 (shut_bool Try.underlying4 _), (trodAll_cons_mk (Below.trod laidOut (by kernel_rfl) (of_decide_eq_true (by kernel_rfl)) k0 bel lt0) trodAll_mk0), rfl, bel.frame _, fun h => by cases h⟩
theorem fnExactClassesIn_j1 : Rows.fnExactClassesInRow.wf (OpenSpec.ofChange Rows.fnExactClassesInSpec) = true := by kernel_rfl
theorem fnExactClassesIn_j4 : Try.f9.params.all (Try.prog.readableRec ·) = true := by kernel_rfl
theorem fnExactClassesIn_j5 : namedTie Try.prog Rows.fnExactClassesInRow.named Rows.fnExactClassesInSpec.vars = true := by kernel_rfl
theorem fnExactClassesIn_j6 : (Rows.fnExactClassesInRow.stops == []) = true := by kernel_rfl
theorem fnExactClassesIn_j8 : (Rows.fnExactClassesInRow.knobs == []) = true := by kernel_rfl
theorem fnExactClassesIn_j10 : (Rows.fnExactClassesInRow.inPlace == Try.prog.inPlace 9) = true := by kernel_rfl
theorem fnExactClassesIn_j11 : (Rows.fnExactClassesInRow.unfollowed == Try.prog.unfollowed 9) = true := by kernel_rfl
theorem fnExactClassesIn_j12 : (Rows.fnExactClassesInRow.recurses == Try.prog.recurses 9) = true := by kernel_rfl
theorem fnExactClassesIn_j13 : (Rows.fnExactClassesInRow.named == Try.prog.varsNamed 9) = true := by kernel_rfl
theorem fnExactClassesIn_j14 : (Rows.fnExactClassesInRow.maps == (Try.f9.params.toList ++ (Rows.fnExactClassesInSpec).plain.varTypes Try.prog).any (Try.prog.mapsRec ·)) = true := by kernel_rfl
theorem fnExactClassesIn_j15 : (Rows.fnExactClassesInRow.ifaces == (Try.f9.params.toList ++ (Rows.fnExactClassesInSpec).plain.varTypes Try.prog).any (Try.prog.ifacesRec ·)) = true := by kernel_rfl
theorem fnExactClassesIn_j16 : (Rows.fnExactClassesInRow.mapsOut == Try.prog.mapsAmong Try.f9.resultTypes.toList) = true := by kernel_rfl
theorem fnExactClassesIn_j17 : (Rows.fnExactClassesInRow.loops == (Try.f9.params.toList ++ (Rows.fnExactClassesInSpec).plain.varTypes Try.prog).any (Try.prog.loopsFrom ·)) = true := by kernel_rfl
theorem fnExactClassesIn_j18 : (Rows.fnExactClassesInRow.wideKeys == (Try.f9.params.toList ++ (Rows.fnExactClassesInSpec).plain.varTypes Try.prog ++ Try.f9.resultTypes.toList).any (Try.prog.wideKeysFrom ·)) = true := by kernel_rfl
theorem fnExactClassesIn_j19 : Rows.fnExactClassesInSpec.vars.all (Try.prog.varReadable ·) = true := by kernel_rfl
theorem fnExactClassesIn_j20 : Try.f9.resultTypes.all (fun t => Try.prog.readableRec t && decide (t < Try.prog.types.size)) = true := by kernel_rfl
theorem fnExactClassesIn_j21 : (Rows.fnExactClassesInRow.ifacesOut == Try.f9.resultTypes.toList.any (Try.prog.ifacesRec ·)) = true := by kernel_rfl
theorem fnExactClassesIn_j22 : (Rows.fnExactClassesInRow.loopsOut == Try.f9.resultTypes.toList.any (Try.prog.loopsFrom ·)) = true := by kernel_rfl
theorem fnExactClassesIn_j23 : (Rows.fnExactClassesInRow.plainKeys == Try.prog.plainKeys) = true := by kernel_rfl
theorem fnExactClassesIn_j24 : Rows.fnExactClassesInRow.shortTexts.isNone = true := by kernel_rfl
theorem fnExactClassesIn_j30 : (Rows.fnExactClassesInRow.pinned == Rows.fnExactClassesInRow.pinnedBy) = true := by kernel_rfl
theorem fnExactClassesIn_j31 : (Rows.fnExactClassesInRow.veiled == (Try.f9.params.toList ++ (Rows.fnExactClassesInSpec).plain.varTypes Try.prog ++ Try.f9.resultTypes.toList).any (Try.prog.veiledRec ·)) = true := by kernel_rfl
theorem fnExactClassesIn_j32 : Rows.fnExactClassesInRow.veiledFits Try.prog Try.f9.params.toList (Try.f9.params.toList ++ (Rows.fnExactClassesInSpec).plain.varTypes Try.prog ++ Try.f9.resultTypes.toList) = true := by kernel_rfl
theorem fnExactClassesIn_closed : joinedFacts Try.prog 9 Try.f9 Rows.fnExactClassesInSpec Rows.fnExactClassesInRow = true :=
  closed_of _ _ _ _ _ fnExactClassesIn_j1 pLaid pMaps fnExactClassesIn_j4 fnExactClassesIn_j5 fnExactClassesIn_j6 pStops fnExactClassesIn_j8 pKnobs fnExactClassesIn_j10 fnExactClassesIn_j11 fnExactClassesIn_j12 fnExactClassesIn_j13 fnExactClassesIn_j14 fnExactClassesIn_j15 fnExactClassesIn_j16 fnExactClassesIn_j17 fnExactClassesIn_j18 fnExactClassesIn_j19 fnExactClassesIn_j20 fnExactClassesIn_j21 fnExactClassesIn_j22 fnExactClassesIn_j23 fnExactClassesIn_j24 pHeard may lifts rfl made rfl (by kernel_rfl) fnExactClassesIn_j30 fnExactClassesIn_j31 fnExactClassesIn_j32
theorem fnExactClassesIn_inst : Try.f9.isInstance Try.prog Rows.fnExactClassesInRow.origin Rows.fnExactClassesInRow.targs := of_decide_eq_true (by kernel_rfl)
theorem fnExactClassesIn_wrap : Try.f9.isWrapper Try.prog Rows.fnExactClassesInRow.wrapper Rows.fnExactClassesInRow.mainSum := by unfold Func.isWrapper; first | (rw [if_pos (by decide +kernel)]; kernel_rfl) | (rw [if_neg (by decide +kernel)]; exact ⟨rfl, rfl⟩)
theorem fnExactClassesIn_over : Rows.fnExactClassesInRow.holds Try.pinned (OpenSpec.ofChange Rows.fnExactClassesInSpec) :=
  OpenClaim.holds_of_wide 9 Try.f9 rfl rfl rfl rfl rfl rfl rfl ⟨rfl, rfl, rfl, rfl, rfl⟩ rfl rfl rfl rfl rfl (by kernel_rfl) Try.func9 fnExactClassesIn_closed
    fnExactClassesIn_inst fnExactClassesIn_wrap
    (fun os started H enc _ => fnExactClassesIn_lifted os started H enc)
end Go.Proofs.Ytcodbpjaamggeaa.R
namespace Go.Proofs.Ytcodbpjaamggeaa
/-- The row, under a short name, for the claim. -/
theorem fnExactClassesIn_holds : Rows.FnExactClassesInSaid := R.fnExactClassesIn_over
#print axioms fnExactClassesIn_holds
end Go.Proofs.Ytcodbpjaamggeaa
