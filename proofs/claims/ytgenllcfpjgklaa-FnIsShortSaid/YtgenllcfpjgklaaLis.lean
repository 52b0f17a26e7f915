/- FnIsShort: for every input the law returns true, and its argument reads as it did. -/
import Derived.Test.YtgenllcfpjgklaaRows
import Derived.Test.YtgenllcfpjgklaaRa
import Derived.Test.YtgenllcfpjgklaaRb
import Derived.Test.YtgenllcfpjgklaaRd
import Derived.Test.YtgenllcfpjgklaaDl
import Derived.WalkKit
import Derived.ProofKit
import Derived.OpenShut
import Derived.ChangeOld
import Derived.Below
import Derived.SizedLaws
set_option linter.unusedVariables false
set_option linter.unusedSimpArgs false
namespace Go.Proofs.Ytgenllcfpjgklaa.R
open Go.ChangeShapes Go.WideShapes Go.ChangeAt Go.RowKit

set_option maxRecDepth 100000 in
theorem fnIsShort_lifted (os : Os) (started : os.Started) (H : Type) (enc : TypeId × Value → H) :
    ReturnsInHanded {} Try.checked os 6 .any (Rows.fnIsShortSpec.pre6 enc Try.prog Try.f6 Rows.fnIsShortRow.domain false) (Rows.fnIsShortSpec.post enc Try.prog Try.f6 false true false false) := by
  refine returnsInHanded_of_change_sized (C := Try.checked) own started (by kernel_rfl) Try.func6
    (ChangeSpec.witness6 (enc := enc) (C := Try.checked) false ⟨#[], #[.slice none 0 0], []⟩ 8 (by kernel_rfl) (by kernel_rfl) (by kernel_rfl) (by kernel_rfl)) ?_
  intro W base args ds gs before hval0 hW hcnd hsz0 _
  have hval : ∀ (j : Nat) t v, Try.f6.params[j]? = some t → args[j]? = some v → Value.okWide Try.prog W .any base t v := hval0
  have hW' := hW
  obtain ⟨p, q, hA0, hV, rfl, hfz, hnd⟩ := hW
  have hA : DataW.TrodAll enc Try.prog W 0 (fun _ => true) true Try.f6.params.toList args.toList ds p := hA0
  rw [Try.params6] at hA hval
  obtain ⟨v0, vs0, d0, ds0, p0, q0, hargs, rfl, rfl, h0, r0⟩ := trodAll_cons hA
  obtain ⟨rfl, rfl, rfl⟩ := trodAll_nil r0
  obtain rfl : args = #[v0] := by cases args; simp_all
  obtain ⟨rfl, rfl⟩ := trodVars_none hV
  obtain ⟨a0, len0, cap0, rfl⟩ := okWide_slice Try.underlying22 (hval 0 22 v0 rfl rfl)
  have k0 := h0
  have lt0 : ∀ x ∈ p0, x.block < W.heap.size := by obtain ⟨m, hm⟩ := k0; exact DataW.trod_lt m _ _ _ hm
  obtain ⟨A, c, l, hv0, hlc, hl⟩ := open_bytes h0 rfl
  clear hA0 hval0 hsz0
  injection hv0 with e1 e2 e3
  subst e1 e2 e3
  refine (C.FnIsShort_c a0 cap0 l W hl hlc).mono fun e W' ⟨he, bel⟩ => ?_
  subst he
  exact ⟨_, rfl, _, _, _, [], _, [], hW', trodAll_mk1 (shut_bool Try.underlying4 _), (trodAll_cons_mk (Below.trod laidOut (by kernel_rfl) (of_decide_eq_true (by kernel_rfl)) k0 bel lt0) trodAll_mk0), rfl, bel.frame _, fun h => by cases h⟩
theorem fnIsShort_j1 : Rows.fnIsShortRow.wf (OpenSpec.ofChange Rows.fnIsShortSpec) = true := by kernel_rfl
theorem fnIsShort_j4 : Try.f6.params.all (Try.prog.readableRec ·) = true := by kernel_rfl
theorem fnIsShort_j5 : namedTie Try.prog Rows.fnIsShortRow.named Rows.fnIsShortSpec.vars = true := by kernel_rfl
theorem fnIsShort_j6 : (Rows.fnIsShortRow.stops == []) = true := by kernel_rfl
theorem fnIsShort_j8 : (Rows.fnIsShortRow.knobs == []) = true := by kernel_rfl
theorem fnIsShort_j10 : (Rows.fnIsShortRow.inPlace == Try.prog.inPlace 6) = true := by kernel_rfl
theorem fnIsShort_j11 : (Rows.fnIsShortRow.unfollowed == Try.prog.unfollowed 6) = true := by kernel_rfl
theorem fnIsShort_j12 : (Rows.fnIsShortRow.recurses == Try.prog.recurses 6) = true := by kernel_rfl
theorem fnIsShort_j13 : (Rows.fnIsShortRow.named == Try.prog.varsNamed 6) = true := by kernel_rfl
theorem fnIsShort_j14 : (Rows.fnIsShortRow.maps == (Try.f6.params.toList ++ (Rows.fnIsShortSpec).plain.varTypes Try.prog).any (Try.prog.mapsRec ·)) = true := by kernel_rfl
theorem fnIsShort_j15 : (Rows.fnIsShortRow.ifaces == (Try.f6.params.toList ++ (Rows.fnIsShortSpec).plain.varTypes Try.prog).any (Try.prog.ifacesRec ·)) = true := by kernel_rfl
theorem fnIsShort_j16 : (Rows.fnIsShortRow.mapsOut == Try.prog.mapsAmong Try.f6.resultTypes.toList) = true := by kernel_rfl
theorem fnIsShort_j17 : (Rows.fnIsShortRow.loops == (Try.f6.params.toList ++ (Rows.fnIsShortSpec).plain.varTypes Try.prog).any (Try.prog.loopsFrom ·)) = true := by kernel_rfl
theorem fnIsShort_j18 : (Rows.fnIsShortRow.wideKeys == (Try.f6.params.toList ++ (Rows.fnIsShortSpec).plain.varTypes Try.prog ++ Try.f6.resultTypes.toList).any (Try.prog.wideKeysFrom ·)) = true := by kernel_rfl
theorem fnIsShort_j19 : Rows.fnIsShortSpec.vars.all (Try.prog.varReadable ·) = true := by kernel_rfl
theorem fnIsShort_j20 : Try.f6.resultTypes.all (fun t => Try.prog.readableRec t && decide (t < Try.prog.types.size)) = true := by kernel_rfl
theorem fnIsShort_j21 : (Rows.fnIsShortRow.ifacesOut == Try.f6.resultTypes.toList.any (Try.prog.ifacesRec ·)) = true := by kernel_rfl
theorem fnIsShort_j22 : (Rows.fnIsShortRow.loopsOut == Try.f6.resultTypes.toList.any (Try.prog.loopsFrom ·)) = true := by kernel_rfl
theorem fnIsShort_j23 : (Rows.fnIsShortRow.plainKeys == Try.prog.plainKeys) = true := by kernel_rfl
theorem fnIsShort_j24 : Rows.fnIsShortRow.shortTexts.isNone = true := by kernel_rfl
theorem fnIsShort_j30 : (Rows.fnIsShortRow.pinned == Rows.fnIsShortRow.pinnedBy) = true := by kernel_rfl
theorem fnIsShort_j31 : (Rows.fnIsShortRow.veiled == (Try.f6.params.toList ++ (Rows.fnIsShortSpec).plain.varTypes Try.prog ++ Try.f6.resultTypes.toList).any (Try.prog.veiledRec ·)) = true := by kernel_rfl
theorem fnIsShort_j32 : Rows.fnIsShortRow.veiledFits Try.prog Try.f6.params.toList (Try.f6.params.toList ++ (Rows.fnIsShortSpec).plain.varTypes Try.prog ++ Try.f6.resultTypes.toList) = true := by kernel_rfl
theorem fnIsShort_closed : joinedFacts Try.prog 6 Try.f6 Rows.fnIsShortSpec Rows.fnIsShortRow = true :=
  closed_of _ _ _ _ _ fnIsShort_j1 pLaid pMaps fnIsShort_j4 fnIsShort_j5 fnIsShort_j6 pStops fnIsShort_j8 pKnobs fnIsShort_j10 fnIsShort_j11 fnIsShort_j12 fnIsShort_j13 fnIsShort_j14 fnIsShort_j15 fnIsShort_j16 fnIsShort_j17 fnIsShort_j18 fnIsShort_j19 fnIsShort_j20 fnIsShort_j21 fnIsShort_j22 fnIsShort_j23 fnIsShort_j24 pHeard may lifts rfl made rfl (by kernel_rfl) fnIsShort_j30 fnIsShort_j31 fnIsShort_j32
theorem fnIsShort_inst : Try.f6.isInstance Try.prog Rows.fnIsShortRow.origin Rows.fnIsShortRow.targs := of_decide_eq_true (by kernel_rfl)
theorem fnIsShort_wrap : Try.f6.isWrapper Try.prog Rows.fnIsShortRow.wrapper Rows.fnIsShortRow.mainSum := by unfold Func.isWrapper; first | (rw [if_pos (by decide +kernel)]; kernel_rfl) | (rw [if_neg (by decide +kernel)]; exact ⟨rfl, rfl⟩)
theorem fnIsShort_over : Rows.fnIsShortRow.holds Try.pinned (OpenSpec.ofChange Rows.fnIsShortSpec) :=
  OpenClaim.holds_of_wide 6 Try.f6 rfl rfl rfl rfl rfl rfl rfl ⟨rfl, rfl, rfl, rfl, rfl⟩ rfl rfl rfl rfl rfl (by kernel_rfl) Try.func6 fnIsShort_closed
    fnIsShort_inst fnIsShort_wrap
    (fun os started H enc _ => fnIsShort_lifted os started H enc)
end Go.Proofs.Ytgenllcfpjgklaa.R
namespace Go.Proofs.Ytgenllcfpjgklaa
/-- The row, under a short name, for the claim. -/
theorem fnIsShort_holds : Rows.FnIsShortSaid := R.fnIsShort_over
#print axioms fnIsShort_holds
end Go.Proofs.Ytgenllcfpjgklaa
