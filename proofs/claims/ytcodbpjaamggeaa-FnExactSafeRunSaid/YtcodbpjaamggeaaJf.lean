/- The law FnExactSafeRun. -/
import Derived.Test.YtcodbpjaamggeaaJe
set_option linter.unusedVariables false
set_option linter.unusedSimpArgs false
namespace Go.Proofs.Ytcodbpjaamggeaa.C
open Go.RowKit Go.Proofs.Ytcodbpjaamggeaa.W Go.Proofs.Ytcodbpjaamggeaa.P

/-- Numbers that the law is given. -/
def GivenI (w : World) (A : Option Addr) (l : List Int) : Prop := l.length ≤ 9223372036854775807 ∧ ∀ k (h : k < l.length), ∃ ad, A = some ad ∧ w.cell? (ad.add k) = some (.int .i64 l[k])
theorem GivenI.rd {w A l} (h : GivenI w A l) (hl : l.length ≤ 1048576) : RdI w A l := ⟨by omega, h.2⟩
set_option maxRecDepth 100000 in
set_option maxHeartbeats 2000000 in
theorem FnExactSafeRun_c (A : Option Addr) (c : Nat) (l : List Opr) (A2 : Option Addr) (c2 : Nat) (r : Rl) (w : World) (hg : GivenO w A l) (hg2 : GivenI w A2 r.cls) (hc2 : r.cls.length ≤ c2) :
    Calls Try.prog 11 #[.slice A l.length c, .agg #[.int .i64 r.steps, .int .i64 r.nodes, .int .i64 r.deep, .slice A2 r.cls.length c2]] w fun e w' => e = .returned (.bool true) ∧ Ext w w' := by
  have hln := hg.1
  have hlr := hg2.1
  have HG := As.mk hg
  have HG2 := As.mk hg2
  have HC2 := As.mk hc2
  clear hg hg2 hc2
  by_cases hl : (l.length : Int) ≤ 1048576
  · obtain ⟨lf, hlf⟩ : ∃ lf, lf = (1048576 : Int) - l.length := ⟨_, rfl⟩
    have e1 : (if (l.length : Int) ≤ 1048576 then (1048576 : Int) - l.length else -1) = lf := by rw [hlf]; exact if_pos hl
    have h2 : 0 ≤ lf := by omega
    have h3 : lf ≤ 1048576 := by omega
    have E1 := As.mk e1
    have HR := As.mk (HG.out.rd (by omega))
    have HL := As.mk (show l.length ≤ 1048576 by omega)
    have HLR := As.mk hlr
    clear e1 hlf hl hln
    by_cases hr : (r.cls.length : Int) ≤ lf
    · obtain ⟨lg, hlg⟩ : ∃ lg, lg = lf - r.cls.length := ⟨_, rfl⟩
      have e2 : (if (r.cls.length : Int) ≤ lf then lf - r.cls.length else -1) = lg := by rw [hlg]; exact if_pos hr
      have h4 : 0 ≤ lg := by omega
      have E2 := As.mk e2
      have HRI := As.mk (HG2.out.rd (by omega))
      have HRL := As.mk (show r.cls.length ≤ 1048576 by omega)
      clear e2 hlg hr hlr
      obtain ⟨s1, s2, hs⟩ : ∃ s1 s2, safeR l r = (s1, s2) := ⟨_, _, rfl⟩
      have HS := As.mk hs
      clear hs
      go_enter Try.func11, Try.ntmps11
      go_upto_region 1 with fail
      have hb := al_new w (.cells #[.int .i64 r.steps, .int .i64 r.nodes, .int .i64 r.deep, .slice A2 r.cls.length c2] 41)
      have HE0 := As.mk ((Ext.rf w).al (.cells #[.int .i64 r.steps, .int .i64 r.nodes, .int .i64 r.deep, .slice A2 r.cls.length c2] 41))
      generalize w.alloc (.cells #[.int .i64 r.steps, .int .i64 r.nodes, .int .i64 r.deep, .slice A2 r.cls.length c2] 41) = w0 at hb HE0 ⊢
      generalize w.heap.size = g at hb ⊢
      have l0 := C4.c0 hb; have l1 := C4.c1 hb; have l2 := C4.c2 hb; have l3 := C4.c3 hb
      clear hb
      go_upto_region 8 with (first | (go_at_call 19; refine (szOpS_c _ _ _ _ _ (by omega) (by omega) (by have := HL.out; omega)).mono ?_; rw [E1.out]; rintro e w1 ⟨rfl, rfl⟩) | (go_at_call 43; refine (szRules_c r A2 c2 lf _ (by omega) (by omega) HLR.out).mono ?_; rw [E2.out]; rintro e w1 ⟨rfl, he⟩; have HE1 := As.mk (HE0.out.trans he); have l0 := he.cellOf l0; have l1 := he.cellOf l1; have l2 := he.cellOf l2; have l3 := he.cellOf l3; clear he))
      refine region_perm (fun w' => w'.cell? ⟨g, 0, none⟩ = some (.int .i64 r.steps) ∧ w'.cell? ⟨g, 1, none⟩ = some (.int .i64 r.nodes) ∧ w'.cell? ⟨g, 2, none⟩ = some (.int .i64 r.deep) ∧ w'.cell? ⟨g, 3, none⟩ = some (.slice A2 r.cls.length c2)) [] [(0, 0), (2, 1), (1, 2), (3, 2), (4, 2), (5, 0), (6, 0), (7, 0), (8, 0), (9, 0)] (by kernel_rfl) (by kernel_rfl) rfl (by kernel_rfl) (fun _ _ _ _ h => h) ?_
      have hS := And.intro l0 (And.intro l1 (And.intro l2 l3))
      repeat (first | refine wpP.c0 (h := ?_) | refine wpP.c1 (w := w1.drew) hS (h := ?_))
      refine wpP.ev (h := fun Kv hKv => ?_)
      have HED : As (Ext w1 w1.drew) := ⟨(Ext.rf _).dr⟩
      generalize w1.drew = w2 at HED ⊢
      go_wp2_with (go_at_call 21; refine (toOpS_c _ _ _ _ (HR.out.ext (HE1.out.trans HED.out)) HL.out).mono ?_; rintro e w3 ⟨ad1, rfl, ho, he, _⟩; have HO1 := As.mk (rdA_O ho (by have := HL.out; omega)); have HE3 := As.mk (HED.out.trans he); clear ho he)
      refine hKv.out _ _ ⟨HE3.out.cellOf l0, HE3.out.cellOf l1, HE3.out.cellOf l2, HE3.out.cellOf l3⟩ ?_
      clear hKv Kv
      refine wpP.ev (h := fun Kv hKv => ?_)
      go_wp2_with (go_at_call 45; refine (toRules_c r A2 c2 _ (HRI.out.ext (HE1.out.trans HE3.out)) HRL.out).mono ?_; rintro e w4 ⟨ad2, rfl, hri, he⟩; have HI4 := As.mk hri; have HO4 := As.mk (HO1.out.ext he); have HE4 := As.mk (HE3.out.trans he); clear hri he)
      refine hKv.out _ _ ⟨HE4.out.cellOf l0, HE4.out.cellOf l1, HE4.out.cellOf l2, HE4.out.cellOf l3⟩ ?_
      clear hKv Kv
      refine wpP.ev (h := fun Kv hKv => ?_)
      go_wp2_with (go_at_call 44; refine (sSafeRun_c _ _ _ _ _ r _ HO4.out HI4.out (Nat.le_refl _)).mono ?_; rw [HS.out]; rintro e w5 ⟨rfl, he⟩; have HE5 := As.mk (HE4.out.trans he); clear he)
      refine hKv.out _ _ ⟨HE5.out.cellOf l0, HE5.out.cellOf l1, HE5.out.cellOf l2, HE5.out.cellOf l3⟩ ?_
      clear hKv Kv
      repeat (first | refine wpP.c0 (h := ?_))
      refine wpP.done ?_
      have HW5 := As.mk (HE1.out.trans HE5.out)
      have m0 := HE5.out.cellOf l0; have m1 := HE5.out.cellOf l1; have m2 := HE5.out.cellOf l2; have m3 := HE5.out.cellOf l3
      clear hS l0 l1 l2 l3 HO1 HE3 HI4 HO4 HE4 HE5 HED HE1
      go_upto_region 10 with (go_at_call 21; refine (toOpS_c _ _ _ _ (HR.out.ext HW5.out) HL.out).mono ?_; rintro e w6 ⟨ad4, rfl, ho, he, _⟩; have HO6 := As.mk (rdA_O ho (by have := HL.out; omega)); have HE6 := As.mk he; have m0 := he.cellOf m0; have m1 := he.cellOf m1; have m2 := he.cellOf m2; have m3 := he.cellOf m3; clear ho he)
      go_upto_region 11 with (go_at_call 45; refine (toRules_c r A2 c2 _ (HRI.out.ext (HW5.out.trans HE6.out)) HRL.out).mono ?_; rintro e w7 ⟨ad3, rfl, hri, he⟩; have HI7 := As.mk hri; have HO7 := As.mk (HO6.out.ext he); have HE7 := As.mk (HW5.out.trans (HE6.out.trans he)); have m0 := he.cellOf m0; have m1 := he.cellOf m1; have m2 := he.cellOf m2; have m3 := he.cellOf m3; clear hri he)
      have hb := al_new w7 (.cells #[.int .i64 r.steps, .int .i64 r.nodes, .int .i64 r.deep, .slice (some ad3) r.cls.length r.cls.length] 45)
      have HX := As.mk ((Ext.rf w7).al (.cells #[.int .i64 r.steps, .int .i64 r.nodes, .int .i64 r.deep, .slice (some ad3) r.cls.length r.cls.length] 45))
      generalize w7.alloc (.cells #[.int .i64 r.steps, .int .i64 r.nodes, .int .i64 r.deep, .slice (some ad3) r.cls.length r.cls.length] 45) = w8 at hb HX ⊢
      generalize w7.heap.size = g9 at hb ⊢
      have n0 := C4.c0 hb; have n1 := C4.c1 hb; have n2 := C4.c2 hb; have n3 := C4.c3 hb
      have m0 := HX.out.cellOf m0; have m1 := HX.out.cellOf m1; have m2 := HX.out.cellOf m2; have m3 := HX.out.cellOf m3
      have HO8 := As.mk (HO7.out.ext HX.out)
      have HI8 := As.mk (HI7.out.ext HX.out)
      have HE8 := As.mk (HE7.out.trans HX.out)
      clear hb HX HO6 HE6 HO7 HI7 HE7 HW5
      go_upto_region 16 with (first | (go_at_call 46; refine (SafeRun_c _ _ _ _ _ r _ HO8.out HI8.out (Nat.le_refl _)).mono ?_; rw [HS.out]; rintro e w9 ⟨rfl, he⟩; have HX9 := As.mk he; have HE9 := As.mk (HE8.out.trans he); have n0 := he.cellOf n0; have n1 := he.cellOf n1; have n2 := he.cellOf n2; have n3 := he.cellOf n3; have m0 := he.cellOf m0; have m1 := he.cellOf m1; have m2 := he.cellOf m2; have m3 := he.cellOf m3; clear he) | (go_at_call 21; refine (toOpS_c _ _ _ _ (HR.out.ext HE9.out) HL.out).mono ?_; rintro e w10 ⟨ad5, rfl, ho, he, _⟩; have HO10 := As.mk (rdA_O ho (by have := HL.out; omega)); have HX10 := As.mk (HX9.out.trans he); have HE10 := As.mk (HE9.out.trans he); have n0 := he.cellOf n0; have n1 := he.cellOf n1; have n2 := he.cellOf n2; have n3 := he.cellOf n3; have m0 := he.cellOf m0; have m1 := he.cellOf m1; have m2 := he.cellOf m2; have m3 := he.cellOf m3; clear ho he) | (go_at_call 23; refine (eqOpS_t _ _ _ _ _ _ (HO8.out.ext HX10.out) HO10.out).mono ?_; rintro e w11 ⟨rfl, he⟩; have HX11 := As.mk (HX10.out.trans he); have HE11 := As.mk (HE10.out.trans he); have n0 := he.cellOf n0; have n1 := he.cellOf n1; have n2 := he.cellOf n2; have n3 := he.cellOf n3; have m0 := he.cellOf m0; have m1 := he.cellOf m1; have m2 := he.cellOf m2; have m3 := he.cellOf m3; clear he))
      refine region_perm (fun w' => w'.cell? ⟨g, 0, none⟩ = some (.int .i64 r.steps) ∧ w'.cell? ⟨g, 1, none⟩ = some (.int .i64 r.nodes) ∧ w'.cell? ⟨g, 2, none⟩ = some (.int .i64 r.deep) ∧ w'.cell? ⟨g, 3, none⟩ = some (.slice A2 r.cls.length c2) ∧ w'.cell? ⟨g9, 0, none⟩ = some (.int .i64 r.steps) ∧ w'.cell? ⟨g9, 1, none⟩ = some (.int .i64 r.nodes) ∧ w'.cell? ⟨g9, 2, none⟩ = some (.int .i64 r.deep) ∧ w'.cell? ⟨g9, 3, none⟩ = some (.slice (some ad3) r.cls.length r.cls.length)) [] [(0, 1), (1, 1), (2, 2), (3, 2), (4, 0)] (by kernel_rfl) (by kernel_rfl) rfl (by kernel_rfl) (fun _ _ _ _ h => h) ?_
      have hS := And.intro m0 (And.intro m1 (And.intro m2 (And.intro m3 (And.intro n0 (And.intro n1 (And.intro n2 n3))))))
      repeat (first | refine wpP.c0 (h := ?_) | refine wpP.c1 (w := w11.drew) hS (h := ?_))
      refine wpP.ev (h := fun Kv hKv => ?_)
      have HED : As (Ext w11 w11.drew) := ⟨(Ext.rf _).dr⟩
      generalize w11.drew = w12 at HED ⊢
      go_wp2_with (go_at_call 45; refine (toRules_c r A2 c2 _ (HRI.out.ext (HE11.out.trans HED.out)) HRL.out).mono ?_; rintro e w13 ⟨ad6, rfl, hri, he⟩; have HI13 := As.mk hri; have HX13 := As.mk (HED.out.trans he); clear hri he)
      refine hKv.out _ _ ⟨HX13.out.cellOf m0, HX13.out.cellOf m1, HX13.out.cellOf m2, HX13.out.cellOf m3, HX13.out.cellOf n0, HX13.out.cellOf n1, HX13.out.cellOf n2, HX13.out.cellOf n3⟩ ?_
      clear hKv Kv
      refine wpP.ev (h := fun Kv hKv => ?_)
      go_wp2_with (go_at_call 47; refine (eqRules_t r _ _ _ _ _ (HI8.out.ext (HX11.out.trans HX13.out)) HI13.out).mono ?_; rintro e w14 ⟨rfl, he⟩; have HX14 := As.mk (HX13.out.trans he); clear he)
      refine hKv.out _ _ ⟨HX14.out.cellOf m0, HX14.out.cellOf m1, HX14.out.cellOf m2, HX14.out.cellOf m3, HX14.out.cellOf n0, HX14.out.cellOf n1, HX14.out.cellOf n2, HX14.out.cellOf n3⟩ ?_
      clear hKv Kv
      repeat (first | refine wpP.c0 (h := ?_))
      refine wpP.done ?_
      clear hS m0 m1 m2 m3 n0 n1 n2 n3
      go_wp2_with fail
      go_ret
      exact ⟨rfl, HE11.out.trans HX14.out⟩
    · have e2 : (if (r.cls.length : Int) ≤ lf then lf - r.cls.length else -1) = -1 := if_neg hr
      have E2 := As.mk e2
      clear e2 hr hlr
      go_enter Try.func11, Try.ntmps11
      go_wp2_with (first | (go_at_call 19; refine (szOpS_c _ _ _ _ _ (by omega) (by omega) (by have := HL.out; omega)).mono ?_; rw [E1.out]; rintro e w1 ⟨rfl, rfl⟩) | (go_at_call 43; refine (szRules_c r A2 c2 lf _ (by omega) (by omega) HLR.out).mono ?_; rw [E2.out]; rintro e w1 ⟨rfl, he⟩; have HE1 := As.mk he; clear he))
      go_ret
      exact ⟨rfl, ((Ext.rf _).al _).trans HE1.out⟩
  · have e1 : (if (l.length : Int) ≤ 1048576 then (1048576 : Int) - l.length else -1) = -1 := if_neg hl
    have E1 := As.mk e1
    have HL := As.mk hln
    clear e1 hl hln hlr
    go_enter Try.func11, Try.ntmps11
    go_wp2_with (go_at_call 19; refine (szOpS_c _ _ _ _ _ (by omega) (by omega) (by have := HL.out; omega)).mono ?_; rw [E1.out]; rintro e w1 ⟨rfl, rfl⟩)
    go_ret
    exact ⟨rfl, (Ext.rf _).al _⟩
end Go.Proofs.Ytcodbpjaamggeaa.C
