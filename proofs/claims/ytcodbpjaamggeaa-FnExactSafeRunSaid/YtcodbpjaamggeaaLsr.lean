/- FnExactSafeRun: for every input the law returns true, and its argument reads as it did. -/
import Derived.Test.YtcodbpjaamggeaaRows
import Derived.Test.YtcodbpjaamggeaaRa
import Derived.Test.YtcodbpjaamggeaaRb
import Derived.Test.YtcodbpjaamggeaaJf
import Derived.Test.YtcodbpjaamggeaaRc
import Derived.WalkKit
import Derived.ProofKit
import Derived.OpenShut
import Derived.ChangeOld
import Derived.Below
import Derived.SizedLaws
set_option linter.unusedVariables false
set_option linter.unusedSimpArgs false
namespace Go.Proofs.Ytcodbpjaamggeaa.R
open Go.ChangeShapes Go.WideShapes Go.ChangeAt Go.RowKit

set_option maxRecDepth 100000 in
theorem fnExactSafeRun_lifted (os : Os) (started : os.Started) (H : Type) (enc : TypeId × Value → H) :
    ReturnsInHanded {} Try.checked os 11 .any (Rows.fnExactSafeRunSpec.pre6 enc Try.prog Try.f11 Rows.fnExactSafeRunRow.domain false) (Rows.fnExactSafeRunSpec.post enc Try.prog Try.f11 false true false false) := by
  refine returnsInHanded_of_change_sized (C := Try.checked) own started (by kernel_rfl) Try.func11
    (ChangeSpec.witness6 (enc := enc) (C := Try.checked) false ⟨#[], #[.slice none 0 0, .agg #[.int .i64 0, .int .i64 0, .int .i64 0, .slice none 0 0]], []⟩ 8 (by kernel_rfl) (by kernel_rfl) (by kernel_rfl) (by kernel_rfl)) ?_
  intro W base args ds gs before hval0 hW hcnd hsz0 _
  have hval : ∀ (j : Nat) t v, Try.f11.params[j]? = some t → args[j]? = some v → Value.okWide Try.prog W .any base t v := hval0
  have hW' := hW
  obtain ⟨p, q, hA0, hV, rfl, hfz, hnd⟩ := hW
  have hA : DataW.TrodAll enc Try.prog W 0 (fun _ => true) true Try.f11.params.toList args.toList ds p := hA0
  rw [Try.params11] at hA hval
  obtain ⟨v0, vs0, d0, ds0, p0, q0, hargs0, rfl, rfl, h0, r0⟩ := trodAll_cons hA
  obtain ⟨v1, vs1, d1, ds1, p1, q1, hargs1, rfl, rfl, h1, r1⟩ := trodAll_cons r0
  obtain ⟨rfl, rfl, rfl⟩ := trodAll_nil r1
  obtain rfl : args = #[v0, v1] := by cases args; simp_all
  obtain ⟨rfl, rfl⟩ := trodVars_none hV
  obtain ⟨a0, len0, cap0, rfl⟩ := okWide_slice Try.underlying22 (hval 0 22 v0 rfl rfl)
  have k0 := h0
  have lt0 : ∀ x ∈ p0, x.block < W.heap.size := by obtain ⟨m, hm⟩ := k0; exact DataW.trod_lt m _ _ _ hm
  obtain ⟨l0, rfl, hl0⟩ := open_two Try.underlying22 Try.underlying77 (by kernel_rfl) (by kernel_rfl) (by kernel_rfl) (by kernel_rfl) h0
  obtain ⟨cs1, rfl, hcs1⟩ := okWide_struct Try.underlying41 (hval 1 41 v1 rfl rfl)
  have k1 := h1
  have lt1 : ∀ x ∈ p1, x.block < W.heap.size := by obtain ⟨m, hm⟩ := k1; exact DataW.trod_lt m _ _ _ hm
  obtain ⟨r1r, A1, c1, rfl, hc1, hl1⟩ := open_rules (hcs1.trans (by kernel_rfl)) h1
  clear hA0 hval0 hsz0
  refine (C.FnExactSafeRun_c a0 cap0 l0 A1 c1 r1r W hl0 hl1 hc1).mono fun e W' ⟨he, bel⟩ => ?_
  subst he
  exact ⟨_, rfl, _, _, _, [], _, [], hW', trodAll_mk1 (shut_bool Try.underlying4 _), (trodAll_cons_mk (Below.trod laidOut (by kernel_rfl) (of_decide_eq_true (by kernel_rfl)) k0 bel lt0) (trodAll_cons_mk (Below.trod laidOut (by kernel_rfl) (of_decide_eq_true (by kernel_rfl)) k1 bel lt1) trodAll_mk0)), rfl, bel.frame _, fun h => by cases h⟩
theorem fnExactSafeRun_j1 : Rows.fnExactSafeRunRow.wf (OpenSpec.ofChange Rows.fnExactSafeRunSpec) = true := by kernel_rfl
theorem fnExactSafeRun_j4 : Try.f11.params.all (Try.prog.readableRec ·) = true := by kernel_rfl
theorem fnExactSafeRun_j5 : namedTie Try.prog Rows.fnExactSafeRunRow.named Rows.fnExactSafeRunSpec.vars = true := by kernel_rfl
theorem fnExactSafeRun_j6 : (Rows.fnExactSafeRunRow.stops == []) = true := by kernel_rfl
theorem fnExactSafeRun_j8 : (Rows.fnExactSafeRunRow.knobs == []) = true := by kernel_rfl
theorem fnExactSafeRun_j10 : (Rows.fnExactSafeRunRow.inPlace == Try.prog.inPlace 11) = true := by kernel_rfl
theorem fnExactSafeRun_j11 : (Rows.fnExactSafeRunRow.unfollowed == Try.prog.unfollowed 11) = true := by kernel_rfl
theorem fnExactSafeRun_j12 : (Rows.fnExactSafeRunRow.recurses == Try.prog.recurses 11) = true := by kernel_rfl
theorem fnExactSafeRun_j13 : (Rows.fnExactSafeRunRow.named == Try.prog.varsNamed 11) = true := by kernel_rfl
theorem fnExactSafeRun_j14 : (Rows.fnExactSafeRunRow.maps == (Try.f11.params.toList ++ (Rows.fnExactSafeRunSpec).plain.varTypes Try.prog).any (Try.prog.mapsRec ·)) = true := by kernel_rfl
theorem fnExactSafeRun_j15 : (Rows.fnExactSafeRunRow.ifaces == (Try.f11.params.toList ++ (Rows.fnExactSafeRunSpec).plain.varTypes Try.prog).any (Try.prog.ifacesRec ·)) = true := by kernel_rfl
theorem fnExactSafeRun_j16 : (Rows.fnExactSafeRunRow.mapsOut == Try.prog.mapsAmong Try.f11.resultTypes.toList) = true := by kernel_rfl
theorem fnExactSafeRun_j17 : (Rows.fnExactSafeRunRow.loops == (Try.f11.params.toList ++ (Rows.fnExactSafeRunSpec).plain.varTypes Try.prog).any (Try.prog.loopsFrom ·)) = true := by kernel_rfl
theorem fnExactSafeRun_j18 : (Rows.fnExactSafeRunRow.wideKeys == (Try.f11.params.toList ++ (Rows.fnExactSafeRunSpec).plain.varTypes Try.prog ++ Try.f11.resultTypes.toList).any (Try.prog.wideKeysFrom ·)) = true := by kernel_rfl
theorem fnExactSafeRun_j19 : Rows.fnExactSafeRunSpec.vars.all (Try.prog.varReadable ·) = true := by kernel_rfl
theorem fnExactSafeRun_j20 : Try.f11.resultTypes.all (fun t => Try.prog.readableRec t && decide (t < Try.prog.types.size)) = true := by kernel_rfl
theorem fnExactSafeRun_j21 : (Rows.fnExactSafeRunRow.ifacesOut == Try.f11.resultTypes.toList.any (Try.prog.ifacesRec ·)) = true := by kernel_rfl
theorem fnExactSafeRun_j22 : (Rows.fnExactSafeRunRow.loopsOut == Try.f11.resultTypes.toList.any (Try.prog.loopsFrom ·)) = true := by kernel_rfl
theorem fnExactSafeRun_j23 : (Rows.fnExactSafeRunRow.plainKeys == Try.prog.plainKeys) = true := by kernel_rfl
theorem fnExactSafeRun_j24 : Rows.fnExactSafeRunRow.shortTexts.isNone = true := by kernel_rfl
theorem fnExactSafeRun_j30 : (Rows.fnExactSafeRunRow.pinned == Rows.fnExactSafeRunRow.pinnedBy) = true := by kernel_rfl
theorem fnExactSafeRun_j31 : (Rows.fnExactSafeRunRow.veiled == (Try.f11.params.toList ++ (Rows.fnExactSafeRunSpec).plain.varTypes Try.prog ++ Try.f11.resultTypes.toList).any (Try.prog.veiledRec ·)) = true := by kernel_rfl
theorem fnExactSafeRun_j32 : Rows.fnExactSafeRunRow.veiledFits Try.prog Try.f11.params.toList (Try.f11.params.toList ++ (Rows.fnExactSafeRunSpec).plain.varTypes Try.prog ++ Try.f11.resultTypes.toList) = true := by kernel_rfl
theorem fnExactSafeRun_closed : joinedFacts Try.prog 11 Try.f11 Rows.fnExactSafeRunSpec Rows.fnExactSafeRunRow = true :=
  closed_of _ _ _ _ _ fnExactSafeRun_j1 pLaid pMaps fnExactSafeRun_j4 fnExactSafeRun_j5 fnExactSafeRun_j6 pStops fnExactSafeRun_j8 pKnobs fnExactSafeRun_j10 fnExactSafeRun_j11 fnExactSafeRun_j12 fnExactSafeRun_j13 fnExactSafeRun_j14 fnExactSafeRun_j15 fnExactSafeRun_j16 fnExactSafeRun_j17 fnExactSafeRun_j18 fnExactSafeRun_j19 fnExactSafeRun_j20 fnExactSafeRun_j21 fnExactSafeRun_j22 fnExactSafeRun_j23 fnExactSafeRun_j24 pHeard may lifts rfl made rfl (by kernel_rfl) fnExactSafeRun_j30 fnExactSafeRun_j31 fnExactSafeRun_j32
theorem fnExactSafeRun_inst : Try.f11.isInstance Try.prog Rows.fnExactSafeRunRow.origin Rows.fnExactSafeRunRow.targs := of_decide_eq_true (by kernel_rfl)
theorem fnExactSafeRun_wrap : Try.f11.isWrapper Try.prog Rows.fnExactSafeRunRow.wrapper Rows.fnExactSafeRunRow.mainSum := by unfold Func.isWrapper; first | (rw [if_pos (by decide +kernel)]; kernel_rfl) | (rw [if_neg (by decide +kernel)]; exact ⟨rfl, rfl⟩)
theorem fnExactSafeRun_over : Rows.fnExactSafeRunRow.holds Try.pinned (OpenSpec.ofChange Rows.fnExactSafeRunSpec) :=
  OpenClaim.holds_of_wide 11 Try.f11 rfl rfl rfl rfl rfl rfl rfl ⟨rfl, rfl, rfl, rfl, rfl⟩ rfl rfl rfl rfl rfl (by kernel_rfl) Try.func11 fnExactSafeRun_closed
    fnExactSafeRun_inst fnExactSafeRun_wrap
    (fun os started H enc _ => fnExactSafeRun_lifted os started H enc)
end Go.Proofs.Ytcodbpjaamggeaa.R
namespace Go.Proofs.Ytcodbpjaamggeaa
/-- The row, under a short name, for the claim. -/
theorem fnExactSafeRun_holds : Rows.FnExactSafeRunSaid := R.fnExactSafeRun_over
#print axioms fnExactSafeRun_holds
end Go.Proofs.Ytcodbpjaamggeaa
