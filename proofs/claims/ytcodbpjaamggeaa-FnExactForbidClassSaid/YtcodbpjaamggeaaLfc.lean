/- FnExactForbidClass: for every input the law returns true, and its argument reads as it did. -/
import Derived.Test.YtcodbpjaamggeaaRows
import Derived.Test.YtcodbpjaamggeaaRa
import Derived.Test.YtcodbpjaamggeaaRb
import Derived.Test.YtcodbpjaamggeaaKc
import Derived.Test.YtcodbpjaamggeaaRc
import Derived.WalkKit
import Derived.ProofKit
import Derived.OpenShut
import Derived.ChangeOld
import Derived.Below
import Derived.SizedLaws
set_option linter.unusedVariables false
set_option linter.unusedSimpArgs false
namespace Go.Proofs.Ytcodbpjaamggeaa.R
open Go.ChangeShapes Go.WideShapes Go.ChangeAt Go.RowKit

set_option maxRecDepth 100000 in
theorem fnExactForbidClass_lifted (os : Os) (started : os.Started) (H : Type) (enc : TypeId × Value → H) :
    ReturnsInHanded {} Try.checked os 8 .any (Rows.fnExactForbidClassSpec.pre6 enc Try.prog Try.f8 Rows.fnExactForbidClassRow.domain false) (Rows.fnExactForbidClassSpec.post enc Try.prog Try.f8 false true false false) := by
  refine returnsInHanded_of_change_sized (C := Try.checked) own started (by kernel_rfl) Try.func8
    (ChangeSpec.witness6 (enc := enc) (C := Try.checked) false ⟨#[], #[.slice none 0 0, .int .i64 0], []⟩ 8 (by kernel_rfl) (by kernel_rfl) (by kernel_rfl) (by kernel_rfl)) ?_
  intro W base args ds gs before hval0 hW hcnd hsz0 _
  have hval : ∀ (j : Nat) t v, Try.f8.params[j]? = some t → args[j]? = some v → Value.okWide Try.prog W .any base t v := hval0
  have hW' := hW
  obtain ⟨p, q, hA0, hV, rfl, hfz, hnd⟩ := hW
  have hA : DataW.TrodAll enc Try.prog W 0 (fun _ => true) true Try.f8.params.toList args.toList ds p := hA0
  rw [Try.params8] at hA hval
  obtain ⟨v0, vs0, d0, ds0, p0, q0, hargs0, rfl, rfl, h0, r0⟩ := trodAll_cons hA
  obtain ⟨v1, vs1, d1, ds1, p1, q1, hargs1, rfl, rfl, h1, r1⟩ := trodAll_cons r0
  obtain ⟨rfl, rfl, rfl⟩ := trodAll_nil r1
  obtain rfl : args = #[v0, v1] := by cases args; simp_all
  obtain ⟨rfl, rfl⟩ := trodVars_none hV
  obtain ⟨a0, len0, cap0, rfl⟩ := okWide_slice Try.underlying22 (hval 0 22 v0 rfl rfl)
  have k0 := h0
  have lt0 : ∀ x ∈ p0, x.block < W.heap.size := by obtain ⟨m, hm⟩ := k0; exact DataW.trod_lt m _ _ _ hm
  obtain ⟨l0, rfl, hl0⟩ := open_two Try.underlying22 Try.underlying77 (by kernel_rfl) (by kernel_rfl) (by kernel_rfl) (by kernel_rfl) h0
  obtain ⟨z1, rfl⟩ := okWide_int Try.underlying3 (hval 1 3 v1 rfl rfl)
  have k1 := h1
  have lt1 : ∀ x ∈ p1, x.block < W.heap.size := by obtain ⟨m, hm⟩ := k1; exact DataW.trod_lt m _ _ _ hm
  clear hA0 hval0 hsz0
  refine (C.FnExactForbidClass_c a0 cap0 l0 z1 W hl0).mono fun e W' ⟨he, bel⟩ => ?_
  subst he
  exact ⟨_, rfl, _, _, _, [], _, [], hW', trodAll_mk1 (shut_bool Try.underlying4 _), (trodAll_cons_mk (Below.trod laidOut (by kernel_rfl) (of_decide_eq_true (by kernel_rfl)) k0 bel lt0) (trodAll_cons_mk (Below.trod laidOut (by kernel_rfl) (of_decide_eq_true (by kernel_rfl)) k1 bel lt1) trodAll_mk0)), rfl, bel.frame _, fun h => by cases h⟩
theorem fnExactForbidClass_j1 : Rows.fnExactForbidClassRow.wf (OpenSpec.ofChange Rows.fnExactForbidClassSpec) = true := by kernel_rfl
theorem fnExactForbidClass_j4 : Try.f8.params.all (Try.prog.readableRec ·) = true := by kernel_rfl
theorem fnExactForbidClass_j5 : namedTie Try.prog Rows.fnExactForbidClassRow.named Rows.fnExactForbidClassSpec.vars = true := by kernel_rfl
theorem fnExactForbidClass_j6 : (Rows.fnExactForbidClassRow.stops == []) = true := by kernel_rfl
theorem fnExactForbidClass_j8 : (Rows.fnExactForbidClassRow.knobs == []) = true := by kernel_rfl
theorem fnExactForbidClass_j10 : (Rows.fnExactForbidClassRow.inPlace == Try.prog.inPlace 8) = true := by kernel_rfl
theorem fnExactForbidClass_j11 : (Rows.fnExactForbidClassRow.unfollowed == Try.prog.unfollowed 8) = true := by kernel_rfl
theorem fnExactForbidClass_j12 : (Rows.fnExactForbidClassRow.recurses == Try.prog.recurses 8) = true := by kernel_rfl
theorem fnExactForbidClass_j13 : (Rows.fnExactForbidClassRow.named == Try.prog.varsNamed 8) = true := by kernel_rfl
theorem fnExactForbidClass_j14 : (Rows.fnExactForbidClassRow.maps == (Try.f8.params.toList ++ (Rows.fnExactForbidClassSpec).plain.varTypes Try.prog).any (Try.prog.mapsRec ·)) = true := by kernel_rfl
theorem fnExactForbidClass_j15 : (Rows.fnExactForbidClassRow.ifaces == (Try.f8.params.toList ++ (Rows.fnExactForbidClassSpec).plain.varTypes Try.prog).any (Try.prog.ifacesRec ·)) = true := by kernel_rfl
theorem fnExactForbidClass_j16 : (Rows.fnExactForbidClassRow.mapsOut == Try.prog.mapsAmong Try.f8.resultTypes.toList) = true := by kernel_rfl
theorem fnExactForbidClass_j17 : (Rows.fnExactForbidClassRow.loops == (Try.f8.params.toList ++ (Rows.fnExactForbidClassSpec).plain.varTypes Try.prog).any (Try.prog.loopsFrom ·)) = true := by kernel_rfl
theorem fnExactForbidClass_j18 : (Rows.fnExactForbidClassRow.wideKeys == (Try.f8.params.toList ++ (Rows.fnExactForbidClassSpec).plain.varTypes Try.prog ++ Try.f8.resultTypes.toList).any (Try.prog.wideKeysFrom ·)) = true := by kernel_rfl
theorem fnExactForbidClass_j19 : Rows.fnExactForbidClassSpec.vars.all (Try.prog.varReadable ·) = true := by kernel_rfl
theorem fnExactForbidClass_j20 : Try.f8.resultTypes.all (fun t => Try.prog.readableRec t && decide (t < Try.prog.types.size)) = true := by kernel_rfl
theorem fnExactForbidClass_j21 : (Rows.fnExactForbidClassRow.ifacesOut == Try.f8.resultTypes.toList.any (Try.prog.ifacesRec ·)) = true := by kernel_rfl
theorem fnExactForbidClass_j22 : (Rows.fnExactForbidClassRow.loopsOut == Try.f8.resultTypes.toList.any (Try.prog.loopsFrom ·)) = true := by kernel_rfl
theorem fnExactForbidClass_j23 : (Rows.fnExactForbidClassRow.plainKeys == Try.prog.plainKeys) = true := by kernel_rfl
theorem fnExactForbidClass_j24 : Rows.fnExactForbidClassRow.shortTexts.isNone = true := by kernel_rfl
theorem fnExactForbidClass_j30 : (Rows.fnExactForbidClassRow.pinned == Rows.fnExactForbidClassRow.pinnedBy) = true := by kernel_rfl
theorem fnExactForbidClass_j31 : (Rows.fnExactForbidClassRow.veiled == (Try.f8.params.toList ++ (Rows.fnExactForbidClassSpec).plain.varTypes Try.prog ++ Try.f8.resultTypes.toList).any (Try.prog.veiledRec ·)) = true := by kernel_rfl
theorem fnExactForbidClass_j32 : Rows.fnExactForbidClassRow.veiledFits Try.prog Try.f8.params.toList (Try.f8.params.toList ++ (Rows.fnExactForbidClassSpec).plain.varTypes Try.prog ++ Try.f8.resultTypes.toList) = true := by kernel_rfl
theorem fnExactForbidClass_closed : joinedFacts Try.prog 8 Try.f8 Rows.fnExactForbidClassSpec Rows.fnExactForbidClassRow = true :=
  closed_of _ _ _ _ _ fnExactForbidClass_j1 pLaid pMaps fnExactForbidClass_j4 fnExactForbidClass_j5 fnExactForbidClass_j6 pStops fnExactForbidClass_j8 pKnobs fnExactForbidClass_j10 fnExactForbidClass_j11 fnExactForbidClass_j12 fnExactForbidClass_j13 fnExactForbidClass_j14 fnExactForbidClass_j15 fnExactForbidClass_j16 fnExactForbidClass_j17 fnExactForbidClass_j18 fnExactForbidClass_j19 fnExactForbidClass_j20 fnExactForbidClass_j21 fnExactForbidClass_j22 fnExactForbidClass_j23 fnExactForbidClass_j24 pHeard may lifts rfl made rfl (by kernel_rfl) fnExactForbidClass_j30 fnExactForbidClass_j31 fnExactForbidClass_j32
theorem fnExactForbidClass_inst : Try.f8.isInstance Try.prog Rows.fnExactForbidClassRow.origin Rows.fnExactForbidClassRow.targs := of_decide_eq_true (by kernel_rfl)
theorem fnExactForbidClass_wrap : Try.f8.isWrapper Try.prog Rows.fnExactForbidClassRow.wrapper Rows.fnExactForbidClassRow.mainSum := by unfold Func.isWrapper; first | (rw [if_pos (by decide +kernel)]; kernel_rfl) | (rw [if_neg (by decide +kernel)]; exact ⟨rfl, rfl⟩)
theorem fnExactForbidClass_over : Rows.fnExactForbidClassRow.holds Try.pinned (OpenSpec.ofChange Rows.fnExactForbidClassSpec) :=
  OpenClaim.holds_of_wide 8 Try.f8 rfl rfl rfl rfl rfl rfl rfl ⟨rfl, rfl, rfl, rfl, rfl⟩ rfl rfl rfl rfl rfl (by kernel_rfl) Try.func8 fnExactForbidClass_closed
    fnExactForbidClass_inst fnExactForbidClass_wrap
    (fun os started H enc _ => fnExactForbidClass_lifted os started H enc)
end Go.Proofs.Ytcodbpjaamggeaa.R
namespace Go.Proofs.Ytcodbpjaamggeaa
/-- The row, under a short name, for the claim. -/
theorem fnExactForbidClass_holds : Rows.FnExactForbidClassSaid := R.fnExactForbidClass_over
#print axioms fnExactForbidClass_holds
end Go.Proofs.Ytcodbpjaamggeaa
