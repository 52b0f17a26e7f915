/- FnSizeOf: for every input the law returns true, and its argument reads as it did. -/
import Derived.Test.YtgenllcfpjgklaaRows
import Derived.Test.YtgenllcfpjgklaaRa
import Derived.Test.YtgenllcfpjgklaaRb
import Derived.Test.YtgenllcfpjgklaaRd
import Derived.Test.YtgenllcfpjgklaaDn
import Derived.WalkKit
import Derived.ProofKit
import Derived.OpenShut
import Derived.ChangeOld
import Derived.Below
import Derived.SizedLaws
set_option linter.unusedVariables false
set_option linter.unusedSimpArgs false
namespace Go.Proofs.Ytgenllcfpjgklaa.R
open Go.ChangeShapes Go.WideShapes Go.ChangeAt Go.RowKit

set_option maxRecDepth 100000 in
theorem fnSizeOf_lifted (os : Os) (started : os.Started) (H : Type) (enc : TypeId × Value → H) :
    ReturnsInHanded {} Try.checked os 8 .any (Rows.fnSizeOfSpec.pre6 enc Try.prog Try.f8 Rows.fnSizeOfRow.domain false) (Rows.fnSizeOfSpec.post enc Try.prog Try.f8 false true false false) := by
  refine returnsInHanded_of_change_sized (C := Try.checked) own started (by kernel_rfl) Try.func8
    (ChangeSpec.witness6 (enc := enc) (C := Try.checked) false ⟨#[], #[.slice none 0 0], []⟩ 8 (by kernel_rfl) (by kernel_rfl) (by kernel_rfl) (by kernel_rfl)) ?_
  intro W base args ds gs before hval0 hW hcnd hsz0 _
  have hval : ∀ (j : Nat) t v, Try.f8.params[j]? = some t → args[j]? = some v → Value.okWide Try.prog W .any base t v := hval0
  have hW' := hW
  obtain ⟨p, q, hA0, hV, rfl, hfz, hnd⟩ := hW
  have hA : DataW.TrodAll enc Try.prog W 0 (fun _ => true) true Try.f8.params.toList args.toList ds p := hA0
  rw [Try.params8] at hA hval
  obtain ⟨v0, vs0, d0, ds0, p0, q0, hargs, rfl, rfl, h0, r0⟩ := trodAll_cons hA
  obtain ⟨rfl, rfl, rfl⟩ := trodAll_nil r0
  obtain rfl : args = #[v0] := by cases args; simp_all
  obtain ⟨rfl, rfl⟩ := trodVars_none hV
  obtain ⟨a0, len0, cap0, rfl⟩ := okWide_slice Try.underlying22 (hval 0 22 v0 rfl rfl)
  have k0 := h0
  have lt0 : ∀ x ∈ p0, x.block < W.heap.size := by obtain ⟨m, hm⟩ := k0; exact DataW.trod_lt m _ _ _ hm
  obtain ⟨A, c, l, hv0, hlc, hl⟩ := open_bytes h0 rfl
  clear hA0 hval0 hsz0
  injection hv0 with e1 e2 e3
  subst e1 e2 e3
  refine (C.FnSizeOf_c a0 cap0 l W hl hlc).mono fun e W' ⟨he, bel⟩ => ?_
  subst he
  exact ⟨_, rfl, _, _, _, [], _, [], hW', trodAll_mk1 (shut_bool Try.underlying4 _), (trodAll_cons_mk (Below.trod laidOut (by kernel_rfl) (of_decide_eq_true (by kernel_rfl)) k0 bel lt0) trodAll_mk0), rfl, bel.frame _, fun h => by cases h⟩
theorem fnSizeOf_j1 : Rows.fnSizeOfRow.wf (OpenSpec.ofChange Rows.fnSizeOfSpec) = true := by kernel_rfl
theorem fnSizeOf_j4 : Try.f8.params.all (Try.prog.readableRec ·) = true := by kernel_rfl
theorem fnSizeOf_j5 : namedTie Try.prog Rows.fnSizeOfRow.named Rows.fnSizeOfSpec.vars = true := by kernel_rfl
theorem fnSizeOf_j6 : (Rows.fnSizeOfRow.stops == []) = true := by kernel_rfl
theorem fnSizeOf_j8 : (Rows.fnSizeOfRow.knobs == []) = true := by kernel_rfl
theorem fnSizeOf_j10 : (Rows.fnSizeOfRow.inPlace == Try.prog.inPlace 8) = true := by kernel_rfl
theorem fnSizeOf_j11 : (Rows.fnSizeOfRow.unfollowed == Try.prog.unfollowed 8) = true := by kernel_rfl
theorem fnSizeOf_j12 : (Rows.fnSizeOfRow.recurses == Try.prog.recurses 8) = true := by kernel_rfl
theorem fnSizeOf_j13 : (Rows.fnSizeOfRow.named == Try.prog.varsNamed 8) = true := by kernel_rfl
theorem fnSizeOf_j14 : (Rows.fnSizeOfRow.maps == (Try.f8.params.toList ++ (Rows.fnSizeOfSpec).plain.varTypes Try.prog).any (Try.prog.mapsRec ·)) = true := by kernel_rfl
theorem fnSizeOf_j15 : (Rows.fnSizeOfRow.ifaces == (Try.f8.params.toList ++ (Rows.fnSizeOfSpec).plain.varTypes Try.prog).any (Try.prog.ifacesRec ·)) = true := by kernel_rfl
theorem fnSizeOf_j16 : (Rows.fnSizeOfRow.mapsOut == Try.prog.mapsAmong Try.f8.resultTypes.toList) = true := by kernel_rfl
theorem fnSizeOf_j17 : (Rows.fnSizeOfRow.loops == (Try.f8.params.toList ++ (Rows.fnSizeOfSpec).plain.varTypes Try.prog).any (Try.prog.loopsFrom ·)) = true := by kernel_rfl
theorem fnSizeOf_j18 : (Rows.fnSizeOfRow.wideKeys == (Try.f8.params.toList ++ (Rows.fnSizeOfSpec).plain.varTypes Try.prog ++ Try.f8.resultTypes.toList).any (Try.prog.wideKeysFrom ·)) = true := by kernel_rfl
theorem fnSizeOf_j19 : Rows.fnSizeOfSpec.vars.all (Try.prog.varReadable ·) = true := by kernel_rfl
theorem fnSizeOf_j20 : Try.f8.resultTypes.all (fun t => Try.prog.readableRec t && decide (t < Try.prog.types.size)) = true := by kernel_rfl
theorem fnSizeOf_j21 : (Rows.fnSizeOfRow.ifacesOut == Try.f8.resultTypes.toList.any (Try.prog.ifacesRec ·)) = true := by kernel_rfl
theorem fnSizeOf_j22 : (Rows.fnSizeOfRow.loopsOut == Try.f8.resultTypes.toList.any (Try.prog.loopsFrom ·)) = true := by kernel_rfl
theorem fnSizeOf_j23 : (Rows.fnSizeOfRow.plainKeys == Try.prog.plainKeys) = true := by kernel_rfl
theorem fnSizeOf_j24 : Rows.fnSizeOfRow.shortTexts.isNone = true := by kernel_rfl
theorem fnSizeOf_j30 : (Rows.fnSizeOfRow.pinned == Rows.fnSizeOfRow.pinnedBy) = true := by kernel_rfl
theorem fnSizeOf_j31 : (Rows.fnSizeOfRow.veiled == (Try.f8.params.toList ++ (Rows.fnSizeOfSpec).plain.varTypes Try.prog ++ Try.f8.resultTypes.toList).any (Try.prog.veiledRec ·)) = true := by kernel_rfl
theorem fnSizeOf_j32 : Rows.fnSizeOfRow.veiledFits Try.prog Try.f8.params.toList (Try.f8.params.toList ++ (Rows.fnSizeOfSpec).plain.varTypes Try.prog ++ Try.f8.resultTypes.toList) = true := by kernel_rfl
theorem fnSizeOf_closed : joinedFacts Try.prog 8 Try.f8 Rows.fnSizeOfSpec Rows.fnSizeOfRow = true :=
  closed_of _ _ _ _ _ fnSizeOf_j1 pLaid pMaps fnSizeOf_j4 fnSizeOf_j5 fnSizeOf_j6 pStops fnSizeOf_j8 pKnobs fnSizeOf_j10 fnSizeOf_j11 fnSizeOf_j12 fnSizeOf_j13 fnSizeOf_j14 fnSizeOf_j15 fnSizeOf_j16 fnSizeOf_j17 fnSizeOf_j18 fnSizeOf_j19 fnSizeOf_j20 fnSizeOf_j21 fnSizeOf_j22 fnSizeOf_j23 fnSizeOf_j24 pHeard may lifts rfl made rfl (by kernel_rfl) fnSizeOf_j30 fnSizeOf_j31 fnSizeOf_j32
theorem fnSizeOf_inst : Try.f8.isInstance Try.prog Rows.fnSizeOfRow.origin Rows.fnSizeOfRow.targs := of_decide_eq_true (by kernel_rfl)
theorem fnSizeOf_wrap : Try.f8.isWrapper Try.prog Rows.fnSizeOfRow.wrapper Rows.fnSizeOfRow.mainSum := by unfold Func.isWrapper; first | (rw [if_pos (by decide +kernel)]; kernel_rfl) | (rw [if_neg (by decide +kernel)]; exact ⟨rfl, rfl⟩)
theorem fnSizeOf_over : Rows.fnSizeOfRow.holds Try.pinned (OpenSpec.ofChange Rows.fnSizeOfSpec) :=
  OpenClaim.holds_of_wide 8 Try.f8 rfl rfl rfl rfl rfl rfl rfl ⟨rfl, rfl, rfl, rfl, rfl⟩ rfl rfl rfl rfl rfl (by kernel_rfl) Try.func8 fnSizeOf_closed
    fnSizeOf_inst fnSizeOf_wrap
    (fun os started H enc _ => fnSizeOf_lifted os started H enc)
end Go.Proofs.Ytgenllcfpjgklaa.R
namespace Go.Proofs.Ytgenllcfpjgklaa
/-- The row, under a short name, for the claim. -/
theorem fnSizeOf_holds : Rows.FnSizeOfSaid := R.fnSizeOf_over
#print axioms fnSizeOf_holds
end Go.Proofs.Ytgenllcfpjgklaa
