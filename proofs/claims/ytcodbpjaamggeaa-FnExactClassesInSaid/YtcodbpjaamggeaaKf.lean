/- The law FnExactClassesIn. -/
import Derived.Test.YtcodbpjaamggeaaKe
set_option linter.unusedVariables false
set_option linter.unusedSimpArgs false
namespace Go.Proofs.Ytcodbpjaamggeaa.C
open Go.RowKit Go.Proofs.Ytcodbpjaamggeaa.W Go.Proofs.Ytcodbpjaamggeaa.P

set_option maxRecDepth 100000 in
set_option maxHeartbeats 1000000 in
theorem FnExactClassesIn_c (A : Option Addr) (c : Nat) (l : List Opr) (w : World) (hg : GivenO w A l) :
    Calls Try.prog 9 #[.slice A l.length c] w fun e w' => e = .returned (.bool true) ∧ Ext w w' := by
  have hln := hg.1
  have HG := As.mk hg
  clear hg
  by_cases hl : (l.length : Int) ≤ 1048576
  · obtain ⟨lf, hlf⟩ : ∃ lf, lf = (1048576 : Int) - l.length := ⟨_, rfl⟩
    have e1 : (if (l.length : Int) ≤ 1048576 then (1048576 : Int) - l.length else -1) = lf := by rw [hlf]; exact if_pos hl
    have h2 : 0 ≤ lf := by omega
    have E1 := As.mk e1
    have HR := As.mk (HG.out.rd (by omega))
    have HL := As.mk (show l.length ≤ 1048576 by omega)
    clear e1 hlf hl hln
    go_enter Try.func9, Try.ntmps9
    go_upto_region 3 with (go_at_call 19; refine (szOpS_c _ _ _ _ _ (by omega) (by omega) (by have := HL.out; omega)).mono ?_; rw [E1.out]; rintro e w1 ⟨rfl, rfl⟩)
    obtain ⟨r, hr⟩ : ∃ r, classesP l = r := ⟨_, rfl⟩
    have hrl : r.length ≤ 1048576 := by
      rw [← hr]
      unfold classesP
      split
      · have := cls_le l 10; omega
      · simp
    have HCR := As.mk hr
    have HRL := As.mk hrl
    have hq : (0 : Int) ≤ r.length := by omega
    have hq2 : (r.length : Int) ≤ 1048576 := by omega
    clear hr hrl
    go_upto_region 6 with (first | (go_at_call 21; refine (toOpS_c _ _ _ _ HR.out HL.out).mono ?_; rintro e w1 ⟨ad1, rfl, ho, he, _⟩; have HO1 := As.mk (rdA_O ho (by have := HL.out; omega)); have HE1 := As.mk he; clear ho he) | (go_at_call 39; refine (sClassesIn_c _ _ _ _ HO1.out).mono ?_; rw [HCR.out]; rintro e w2 ⟨A0, c0, C0, L0, rfl, ho, ht0, hl0, he, _⟩; have HT0 := As.mk (And.intro ht0 hl0); clear ht0 hl0; have HE2 := As.mk (HE1.out.trans he); have HO0 := As.mk ho; clear he ho))
    clear HO1 HE1
    go_upto_region 7 with (go_at_call 21; refine (toOpS_c _ _ _ _ (HR.out.ext HE2.out) HL.out).mono ?_; rintro e w3 ⟨ad2, rfl, ho, he, hb⟩; have HO2 := As.mk ho; have HAP0 : As (Apart (.slice A0 L0.length C0) (.slice (some ad2) l.length l.length)) := ⟨Apart.fresh (ir_lt HO0.out) (or_fresh ho hb)⟩; have HO03 := As.mk (HO0.out.ext he); have HFX := As.mk (fresh_le (or_fresh ho hb) HE2.out); have HE3 := As.mk (HE2.out.trans he); clear ho he hb)
    clear HO0 HE2
    go_upto_region 8 with (go_at_call 40; refine (ClassesIn_c _ _ _ _ (rdA_O HO2.out (by have := HL.out; omega))).mono ?_; rw [HCR.out]; rintro e w4 ⟨A1, c1, C1, L1, rfl, ho, ht1, hl1, he, hf⟩; have HT1 := As.mk (And.intro ht1 hl1); clear ht1 hl1; have HZ : As (Res3V w4 (.slice A0 L0.length C0) (.slice A1 L1.length C1) (.slice (some ad2) l.length l.length) L0 L1 l) := ⟨⟨HO03.out.ext he, ho, HO2.out.ext he, HAP0.out, (Apart.fresh (or_lt HO2.out) hf).symm, Apart.fresh (ir_lt HO03.out) hf⟩⟩; have HFG := As.mk (fresh_le hf HE3.out); have HE4 := As.mk (HE3.out.trans he); clear ho he hf)
    clear HO03 HO2 HE3 HAP0
    go_upto_region 10 with (go_at_call 32; refine (eqIntS_t _ _ _ _ _ _ (rdV HZ.out.o1 (by have := HT1.out.2; omega) HT1.out.1) (rdV HZ.out.o0 (by have := HT0.out.2; omega) HT0.out.1)).mono ?_; rintro e w5 ⟨rfl, he⟩; have HZ5 := As.mk (HZ.out.ext he); have HE5 := As.mk (HE4.out.trans he); clear he)
    clear HZ HE4
    go_upto_region 12 with (first | (go_at_call 21; refine (toOpS_c _ _ _ _ (HR.out.ext HE5.out) HL.out).mono ?_; rintro e w6 ⟨ad3, rfl, ho, he, _⟩; have HO3 := As.mk (rdA_O ho (by have := HL.out; omega)); have HZ6 := As.mk (HZ5.out.ext he); have HE6 := As.mk (HE5.out.trans he); clear ho he) | (go_at_call 23; refine (eqOpS_t _ _ _ _ _ _ (rdA_O HZ6.out.ox (by have := HL.out; omega)) HO3.out).mono ?_; rintro e w7 ⟨rfl, he⟩; have HZ7 := As.mk (HZ6.out.ext he); have HE7 := As.mk (HE6.out.trans he); clear he))
    clear HO3 HZ5 HE5 HZ6 HE6
    go_upto_region 14 with (go_at_call 28; refine (markOpS_o _ _ _ l _ _ HZ7.out.ox rfl (by have := HL.out; omega) (by omega) (by omega)).mono ?_; rintro e w8 ⟨rfl, ho, hf⟩; have HZ8 := As.mk (HZ7.out.mx ho hf); have HE8 := As.mk (fr_ext HE7.out hf HFX.out); clear ho hf)
    clear HZ7 HE7 HFX
    have HLL := HL.out
    have hz1 : (0 : Int) ≤ 1 + 2 * (l.length : Int) := by omega
    clear HLL
    go_upto_region 16 with (go_at_call 32; refine (eqIntS_t _ _ _ _ _ _ (rdV HZ8.out.o1 (by have := HT1.out.2; omega) HT1.out.1) (rdV HZ8.out.o0 (by have := HT0.out.2; omega) HT0.out.1)).mono ?_; rintro e w9 ⟨rfl, he⟩; have HZ9 := As.mk (HZ8.out.ext he); have HE9 := As.mk (HE8.out.trans he); clear he)
    clear HZ8 HE8
    go_upto_region 18 with (go_at_call 33; refine (markIntS_v _ r.length _ _ _ L1 _ _ HZ9.out.o1 HT1.out.2.1 (by have := HRL.out; omega) (by have := HT1.out.2; omega) (by omega) (by omega)).mono ?_; rintro e w10 ⟨rfl, ho, hf⟩; have HY := As.mk (HZ9.out.m1 ho hf); have HE10 := As.mk (fr_ext HE9.out hf HFG.out); clear ho hf)
    clear HZ9 HE9 HFG
    have hz2 : (0 : Int) ≤ 1 + (r.length : Int) := by omega
    go_upto_region 24 with (go_at_call 34; refine (heldIntS_c _ _ _ _ _ (rdV HY.out.o1 (by have := HT1.out.2; rw [List.length_append, marksI_len, List.length_drop]; omega) (marksI_take _ _ _)) (by have := HRL.out; omega) (by omega) (by omega)).mono ?_; rintro e w11 ⟨rfl, rfl⟩)
    go_upto_region 27 with (first | (go_at_call 21; refine (toOpS_c _ _ _ _ (HR.out.ext HE10.out) HL.out).mono ?_; rintro e w12 ⟨ad4, rfl, ho, he, _⟩; have HO4 := As.mk (rdA_O ho (by have := HL.out; omega)); have HY12 := As.mk (HY.out.ext he); have HE12 := As.mk (HE10.out.trans he); clear ho he) | (go_at_call 40; refine (ClassesIn_c _ _ _ _ HO4.out).mono ?_; rw [HCR.out]; rintro e w13 ⟨A5, c5, C5, L5, rfl, ho, ht5, hl5, he, _⟩; have HO5 := As.mk (rdV ho (by omega) ht5); clear ht5 hl5; have HY13 := As.mk (HY12.out.ext he); have HE13 := As.mk (HE12.out.trans he); clear ho he) | (go_at_call 32; refine (eqIntS_t _ _ _ _ _ _ HO5.out (rdV HY13.out.o0 (by have := HT0.out.2; omega) HT0.out.1)).mono ?_; rintro e w14 ⟨rfl, he⟩; have HY14 := As.mk (HY13.out.ext he); have HE14 := As.mk (HE13.out.trans he); clear he))
    clear HY HE10 HY12 HE12 HO4 HO5 HY13 HE13
    go_wp2_with (go_at_call 34; refine (heldIntS_c _ _ _ _ _ (rdV HY14.out.o1 (by have := HT1.out.2; rw [List.length_append, marksI_len, List.length_drop]; omega) (marksI_take _ _ _)) (by have := HRL.out; omega) (by omega) (by omega)).mono ?_; rintro e w15 ⟨rfl, rfl⟩)
    go_ret
    exact ⟨rfl, HE14.out⟩
  · have e1 : (if (l.length : Int) ≤ 1048576 then (1048576 : Int) - l.length else -1) = -1 := if_neg hl
    have E1 := As.mk e1
    have HL := As.mk hln
    clear e1 hl hln
    go_enter Try.func9, Try.ntmps9
    go_wp2_with (go_at_call 19; refine (szOpS_c _ _ _ _ _ (by omega) (by omega) (by have := HL.out; omega)).mono ?_; rw [E1.out]; rintro e w1 ⟨rfl, rfl⟩)
    go_ret
    exact ⟨rfl, Ext.rf _⟩
end Go.Proofs.Ytcodbpjaamggeaa.C
