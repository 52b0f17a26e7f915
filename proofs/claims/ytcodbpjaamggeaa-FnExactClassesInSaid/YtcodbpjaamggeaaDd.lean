/- The laws FnExactDepthsOf and FnExactMarksOf. -/
import Derived.Test.YtcodbpjaamggeaaHe
import Derived.Test.YtcodbpjaamggeaaIe
set_option linter.unusedVariables false
set_option linter.unusedSimpArgs false
namespace Go.Proofs.Ytcodbpjaamggeaa.C
open Go.RowKit Go.Proofs.Ytcodbpjaamggeaa.W Go.Proofs.Ytcodbpjaamggeaa.P

theorem ir_lt {w : World} {v : Value} {l : List Int} (h : IR w v l) : ∀ k, v.ownBlock = some k → k < w.heap.size := fun _ hk => own_lt h hk
theorem or_blk_lt {w : World} {ad : Addr} {n c : Nat} {l : List Opr} (h : OR w (.slice (some ad) n c) l) : ∀ a, some ad = some a → a.block < w.heap.size := by
  intro a ha
  cases ha
  have := OR.blk h 0
  rw [add_block] at this
  exact own_lt h this
theorem tellOf_len (f : Mc → Int) (ops : List Opr) : (tellOf f ops).length ≤ ops.length := by
  unfold tellOf
  split
  · have := trace_le ops newM; simpa using this
  · simp
/-- After two results and a copy that lie apart: what the checks of a law need. -/
structure Res3I (W : World) (v0 v1 x : Value) (r : List Int) (l : List Opr) : Prop where
  o0 : IR W v0 r
  o1 : IR W v1 r
  ox : OR W x l
  a0 : Apart v0 x
  a1 : Apart v1 x
  a2 : Apart v0 v1
theorem Res3I.ext {W W' v0 v1 x r l} (h : Res3I W v0 v1 x r l) (e : Ext W W') : Res3I W' v0 v1 x r l := ⟨h.o0.ext e, h.o1.ext e, h.ox.ext e, h.a0, h.a1, h.a2⟩
theorem Res3I.mx {W W' v0 v1 x r l l'} (h : Res3I W v0 v1 x r l) (ho : OR W' x l') (hf : Fr (fun k => x.ownBlock = some k) W W') : Res3I W' v0 v1 x r l' := ⟨h.o0.fr hf h.a0, h.o1.fr hf h.a1, ho, h.a0, h.a1, h.a2⟩
/-- After the result's own marks. -/
structure Res2I (W : World) (v0 v1 : Value) (r m : List Int) : Prop where
  o0 : IR W v0 r
  o1 : IR W v1 m
theorem Res2I.ext {W W' v0 v1 r m} (h : Res2I W v0 v1 r m) (e : Ext W W') : Res2I W' v0 v1 r m := ⟨h.o0.ext e, h.o1.ext e⟩
theorem Res3I.m1 {W W' v0 v1 x r l m} (h : Res3I W v0 v1 x r l) (ho : IR W' v1 m) (hf : Fr (fun k => v1.ownBlock = some k) W W') : Res2I W' v0 v1 r m := ⟨h.o0.fr hf h.a2, ho⟩
set_option maxRecDepth 100000 in
set_option maxHeartbeats 1000000 in
theorem FnExactDepthsOf_c (A : Option Addr) (c : Nat) (l : List Opr) (w : World) (hg : GivenO w A l) :
    Calls Try.prog 6 #[.slice A l.length c] w fun e w' => e = .returned (.bool true) ∧ Ext w w' := by
  have hln := hg.1
  have HG := As.mk hg
  clear hg
  by_cases hl : (l.length : Int) ≤ 1048576
  · obtain ⟨lf, hlf⟩ : ∃ lf, lf = (1048576 : Int) - l.length := ⟨_, rfl⟩
    have e1 : (if (l.length : Int) ≤ 1048576 then (1048576 : Int) - l.length else -1) = lf := by rw [hlf]; exact if_pos hl
    have h2 : 0 ≤ lf := by omega
    have E1 := As.mk e1
    have HR := As.mk (HG.out.rd (by omega))
    have HL := As.mk (show l.length ≤ 1048576 by omega)
    clear e1 hlf hl hln
    go_enter Try.func6, Try.ntmps6
    go_upto_region 3 with (go_at_call 19; refine (szOpS_c _ _ _ _ _ (by omega) (by omega) (by have := HL.out; omega)).mono ?_; rw [E1.out]; rintro e w1 ⟨rfl, rfl⟩)
    obtain ⟨r, hr⟩ : ∃ r, tellOf depthF l = r := ⟨_, rfl⟩
    have hrl : r.length ≤ 1048576 := by
      have := HL.out
      rw [← hr]
      have := tellOf_len depthF l
      omega
    have HCR := As.mk hr
    have HRL := As.mk hrl
    have hq : (0 : Int) ≤ r.length := by omega
    have hq2 : (r.length : Int) ≤ 1048576 := by omega
    clear hr hrl
    go_upto_region 6 with (first | (go_at_call 21; refine (toOpS_c _ _ _ _ HR.out HL.out).mono ?_; rintro e w1 ⟨ad1, rfl, ho, he, _⟩; have HO1 := As.mk (rdA_O ho (by have := HL.out; omega)); have HE1 := As.mk he; clear ho he) | (go_at_call 30; refine (sDepthsOf_c _ _ _ _ HO1.out (Nat.le_refl _)).mono ?_; rw [HCR.out]; rintro e w2 ⟨A0, c0, rfl, ho, he, _⟩; have HE2 := As.mk (HE1.out.trans he); have HO0 := As.mk ho; clear he ho))
    clear HO1 HE1
    go_upto_region 7 with (go_at_call 21; refine (toOpS_c _ _ _ _ (HR.out.ext HE2.out) HL.out).mono ?_; rintro e w3 ⟨ad2, rfl, ho, he, hb⟩; have HO2 := As.mk ho; have HAP0 : As (Apart (.slice A0 r.length c0) (.slice (some ad2) l.length l.length)) := ⟨Apart.fresh (ir_lt HO0.out) (or_fresh ho hb)⟩; have HO03 := As.mk (HO0.out.ext he); have HFX := As.mk (fresh_le (or_fresh ho hb) HE2.out); have HE3 := As.mk (HE2.out.trans he); clear ho he hb)
    clear HO0 HE2
    go_upto_region 8 with (go_at_call 31; refine (DepthsOf_c _ _ _ _ (rdA_O HO2.out (by have := HL.out; omega)) (or_blk_lt HO2.out)).mono ?_; rw [HCR.out]; rintro e w4 ⟨A1, c1, rfl, ho, he, hf⟩; have HZ : As (Res3I w4 (.slice A0 r.length c0) (.slice A1 r.length c1) (.slice (some ad2) l.length l.length) r l) := ⟨⟨HO03.out.ext he, ho, HO2.out.ext he, HAP0.out, (Apart.fresh (or_lt HO2.out) hf).symm, Apart.fresh (ir_lt HO03.out) hf⟩⟩; have HFG := As.mk (fresh_le hf HE3.out); have HE4 := As.mk (HE3.out.trans he); clear ho he hf)
    clear HO03 HO2 HE3 HAP0
    go_upto_region 10 with (go_at_call 32; refine (eqIntS_t _ _ _ _ _ _ (rdA_J HZ.out.o1 (by have := HRL.out; omega)) (rdA_J HZ.out.o0 (by have := HRL.out; omega))).mono ?_; rintro e w5 ⟨rfl, he⟩; have HZ5 := As.mk (HZ.out.ext he); have HE5 := As.mk (HE4.out.trans he); clear he)
    clear HZ HE4
    go_upto_region 12 with (first | (go_at_call 21; refine (toOpS_c _ _ _ _ (HR.out.ext HE5.out) HL.out).mono ?_; rintro e w6 ⟨ad3, rfl, ho, he, _⟩; have HO3 := As.mk (rdA_O ho (by have := HL.out; omega)); have HZ6 := As.mk (HZ5.out.ext he); have HE6 := As.mk (HE5.out.trans he); clear ho he) | (go_at_call 23; refine (eqOpS_t _ _ _ _ _ _ (rdA_O HZ6.out.ox (by have := HL.out; omega)) HO3.out).mono ?_; rintro e w7 ⟨rfl, he⟩; have HZ7 := As.mk (HZ6.out.ext he); have HE7 := As.mk (HE6.out.trans he); clear he))
    clear HO3 HZ5 HE5 HZ6 HE6
    go_upto_region 14 with (go_at_call 28; refine (markOpS_o _ _ _ l _ _ HZ7.out.ox rfl (by have := HL.out; omega) (by omega) (by omega)).mono ?_; rintro e w8 ⟨rfl, ho, hf⟩; have HZ8 := As.mk (HZ7.out.mx ho hf); have HE8 := As.mk (fr_ext HE7.out hf HFX.out); clear ho hf)
    clear HZ7 HE7 HFX
    have HLL := HL.out
    have hz1 : (0 : Int) ≤ 1 + 2 * (l.length : Int) := by omega
    clear HLL
    go_upto_region 16 with (go_at_call 32; refine (eqIntS_t _ _ _ _ _ _ (rdA_J HZ8.out.o1 (by have := HRL.out; omega)) (rdA_J HZ8.out.o0 (by have := HRL.out; omega))).mono ?_; rintro e w9 ⟨rfl, he⟩; have HZ9 := As.mk (HZ8.out.ext he); have HE9 := As.mk (HE8.out.trans he); clear he)
    clear HZ8 HE8
    go_upto_region 18 with (go_at_call 33; refine (markIntS_c _ _ _ r _ _ HZ9.out.o1 rfl (by have := HRL.out; omega) (by omega) (by omega)).mono ?_; rintro e w10 ⟨rfl, ho, hf⟩; have HY := As.mk (HZ9.out.m1 ho hf); have HE10 := As.mk (fr_ext HE9.out hf HFG.out); clear ho hf)
    clear HZ9 HE9 HFG
    have hz2 : (0 : Int) ≤ 1 + (r.length : Int) := by omega
    go_upto_region 24 with (go_at_call 34; refine (heldIntS_c _ _ _ _ _ (rdA_J HY.out.o1 (by rw [marksI_len]; have := HRL.out; omega)) (by have := HRL.out; omega) (by omega) (by omega)).mono ?_; rintro e w11 ⟨rfl, rfl⟩)
    go_upto_region 27 with (first | (go_at_call 21; refine (toOpS_c _ _ _ _ (HR.out.ext HE10.out) HL.out).mono ?_; rintro e w12 ⟨ad4, rfl, ho, he, _⟩; have HO4 := As.mk (rdA_O ho (by have := HL.out; omega)); have HB4 := As.mk (or_blk_lt ho); have HY12 := As.mk (HY.out.ext he); have HE12 := As.mk (HE10.out.trans he); clear ho he) | (go_at_call 31; refine (DepthsOf_c _ _ _ _ HO4.out HB4.out).mono ?_; rw [HCR.out]; rintro e w13 ⟨A5, c5, rfl, ho, he, _⟩; have HO5 := As.mk (rdA_J ho (by have := HRL.out; omega)); have HY13 := As.mk (HY12.out.ext he); have HE13 := As.mk (HE12.out.trans he); clear ho he) | (go_at_call 32; refine (eqIntS_t _ _ _ _ _ _ HO5.out (rdA_J HY13.out.o0 (by have := HRL.out; omega))).mono ?_; rintro e w14 ⟨rfl, he⟩; have HY14 := As.mk (HY13.out.ext he); have HE14 := As.mk (HE13.out.trans he); clear he))
    clear HY HE10 HY12 HE12 HO4 HO5 HY13 HE13
    go_wp2_with (go_at_call 34; refine (heldIntS_c _ _ _ _ _ (rdA_J HY14.out.o1 (by rw [marksI_len]; have := HRL.out; omega)) (by have := HRL.out; omega) (by omega) (by omega)).mono ?_; rintro e w15 ⟨rfl, rfl⟩)
    go_ret
    exact ⟨rfl, HE14.out⟩
  · have e1 : (if (l.length : Int) ≤ 1048576 then (1048576 : Int) - l.length else -1) = -1 := if_neg hl
    have E1 := As.mk e1
    have HL := As.mk hln
    clear e1 hl hln
    go_enter Try.func6, Try.ntmps6
    go_wp2_with (go_at_call 19; refine (szOpS_c _ _ _ _ _ (by omega) (by omega) (by have := HL.out; omega)).mono ?_; rw [E1.out]; rintro e w1 ⟨rfl, rfl⟩)
    go_ret
    exact ⟨rfl, Ext.rf _⟩
set_option maxRecDepth 100000 in
set_option maxHeartbeats 1000000 in
theorem FnExactMarksOf_c (A : Option Addr) (c : Nat) (l : List Opr) (w : World) (hg : GivenO w A l) :
    Calls Try.prog 7 #[.slice A l.length c] w fun e w' => e = .returned (.bool true) ∧ Ext w w' := by
  have hln := hg.1
  have HG := As.mk hg
  clear hg
  by_cases hl : (l.length : Int) ≤ 1048576
  · obtain ⟨lf, hlf⟩ : ∃ lf, lf = (1048576 : Int) - l.length := ⟨_, rfl⟩
    have e1 : (if (l.length : Int) ≤ 1048576 then (1048576 : Int) - l.length else -1) = lf := by rw [hlf]; exact if_pos hl
    have h2 : 0 ≤ lf := by omega
    have E1 := As.mk e1
    have HR := As.mk (HG.out.rd (by omega))
    have HL := As.mk (show l.length ≤ 1048576 by omega)
    clear e1 hlf hl hln
    go_enter Try.func7, Try.ntmps7
    go_upto_region 3 with (go_at_call 19; refine (szOpS_c _ _ _ _ _ (by omega) (by omega) (by have := HL.out; omega)).mono ?_; rw [E1.out]; rintro e w1 ⟨rfl, rfl⟩)
    obtain ⟨r, hr⟩ : ∃ r, tellOf markF l = r := ⟨_, rfl⟩
    have hrl : r.length ≤ 1048576 := by
      have := HL.out
      rw [← hr]
      have := tellOf_len markF l
      omega
    have HCR := As.mk hr
    have HRL := As.mk hrl
    have hq : (0 : Int) ≤ r.length := by omega
    have hq2 : (r.length : Int) ≤ 1048576 := by omega
    clear hr hrl
    go_upto_region 6 with (first | (go_at_call 21; refine (toOpS_c _ _ _ _ HR.out HL.out).mono ?_; rintro e w1 ⟨ad1, rfl, ho, he, _⟩; have HO1 := As.mk (rdA_O ho (by have := HL.out; omega)); have HE1 := As.mk he; clear ho he) | (go_at_call 35; refine (sMarksOf_c _ _ _ _ HO1.out (Nat.le_refl _)).mono ?_; rw [HCR.out]; rintro e w2 ⟨A0, c0, rfl, ho, he, _⟩; have HE2 := As.mk (HE1.out.trans he); have HO0 := As.mk ho; clear he ho))
    clear HO1 HE1
    go_upto_region 7 with (go_at_call 21; refine (toOpS_c _ _ _ _ (HR.out.ext HE2.out) HL.out).mono ?_; rintro e w3 ⟨ad2, rfl, ho, he, hb⟩; have HO2 := As.mk ho; have HAP0 : As (Apart (.slice A0 r.length c0) (.slice (some ad2) l.length l.length)) := ⟨Apart.fresh (ir_lt HO0.out) (or_fresh ho hb)⟩; have HO03 := As.mk (HO0.out.ext he); have HFX := As.mk (fresh_le (or_fresh ho hb) HE2.out); have HE3 := As.mk (HE2.out.trans he); clear ho he hb)
    clear HO0 HE2
    go_upto_region 8 with (go_at_call 36; refine (MarksOf_c _ _ _ _ (rdA_O HO2.out (by have := HL.out; omega)) (or_blk_lt HO2.out)).mono ?_; rw [HCR.out]; rintro e w4 ⟨A1, c1, rfl, ho, he, hf⟩; have HZ : As (Res3I w4 (.slice A0 r.length c0) (.slice A1 r.length c1) (.slice (some ad2) l.length l.length) r l) := ⟨⟨HO03.out.ext he, ho, HO2.out.ext he, HAP0.out, (Apart.fresh (or_lt HO2.out) hf).symm, Apart.fresh (ir_lt HO03.out) hf⟩⟩; have HFG := As.mk (fresh_le hf HE3.out); have HE4 := As.mk (HE3.out.trans he); clear ho he hf)
    clear HO03 HO2 HE3 HAP0
    go_upto_region 10 with (go_at_call 32; refine (eqIntS_t _ _ _ _ _ _ (rdA_J HZ.out.o1 (by have := HRL.out; omega)) (rdA_J HZ.out.o0 (by have := HRL.out; omega))).mono ?_; rintro e w5 ⟨rfl, he⟩; have HZ5 := As.mk (HZ.out.ext he); have HE5 := As.mk (HE4.out.trans he); clear he)
    clear HZ HE4
    go_upto_region 12 with (first | (go_at_call 21; refine (toOpS_c _ _ _ _ (HR.out.ext HE5.out) HL.out).mono ?_; rintro e w6 ⟨ad3, rfl, ho, he, _⟩; have HO3 := As.mk (rdA_O ho (by have := HL.out; omega)); have HZ6 := As.mk (HZ5.out.ext he); have HE6 := As.mk (HE5.out.trans he); clear ho he) | (go_at_call 23; refine (eqOpS_t _ _ _ _ _ _ (rdA_O HZ6.out.ox (by have := HL.out; omega)) HO3.out).mono ?_; rintro e w7 ⟨rfl, he⟩; have HZ7 := As.mk (HZ6.out.ext he); have HE7 := As.mk (HE6.out.trans he); clear he))
    clear HO3 HZ5 HE5 HZ6 HE6
    go_upto_region 14 with (go_at_call 28; refine (markOpS_o _ _ _ l _ _ HZ7.out.ox rfl (by have := HL.out; omega) (by omega) (by omega)).mono ?_; rintro e w8 ⟨rfl, ho, hf⟩; have HZ8 := As.mk (HZ7.out.mx ho hf); have HE8 := As.mk (fr_ext HE7.out hf HFX.out); clear ho hf)
    clear HZ7 HE7 HFX
    have HLL := HL.out
    have hz1 : (0 : Int) ≤ 1 + 2 * (l.length : Int) := by omega
    clear HLL
    go_upto_region 16 with (go_at_call 32; refine (eqIntS_t _ _ _ _ _ _ (rdA_J HZ8.out.o1 (by have := HRL.out; omega)) (rdA_J HZ8.out.o0 (by have := HRL.out; omega))).mono ?_; rintro e w9 ⟨rfl, he⟩; have HZ9 := As.mk (HZ8.out.ext he); have HE9 := As.mk (HE8.out.trans he); clear he)
    clear HZ8 HE8
    go_upto_region 18 with (go_at_call 33; refine (markIntS_c _ _ _ r _ _ HZ9.out.o1 rfl (by have := HRL.out; omega) (by omega) (by omega)).mono ?_; rintro e w10 ⟨rfl, ho, hf⟩; have HY := As.mk (HZ9.out.m1 ho hf); have HE10 := As.mk (fr_ext HE9.out hf HFG.out); clear ho hf)
    clear HZ9 HE9 HFG
    have hz2 : (0 : Int) ≤ 1 + (r.length : Int) := by omega
    go_upto_region 24 with (go_at_call 34; refine (heldIntS_c _ _ _ _ _ (rdA_J HY.out.o1 (by rw [marksI_len]; have := HRL.out; omega)) (by have := HRL.out; omega) (by omega) (by omega)).mono ?_; rintro e w11 ⟨rfl, rfl⟩)
    go_upto_region 27 with (first | (go_at_call 21; refine (toOpS_c _ _ _ _ (HR.out.ext HE10.out) HL.out).mono ?_; rintro e w12 ⟨ad4, rfl, ho, he, _⟩; have HO4 := As.mk (rdA_O ho (by have := HL.out; omega)); have HB4 := As.mk (or_blk_lt ho); have HY12 := As.mk (HY.out.ext he); have HE12 := As.mk (HE10.out.trans he); clear ho he) | (go_at_call 36; refine (MarksOf_c _ _ _ _ HO4.out HB4.out).mono ?_; rw [HCR.out]; rintro e w13 ⟨A5, c5, rfl, ho, he, _⟩; have HO5 := As.mk (rdA_J ho (by have := HRL.out; omega)); have HY13 := As.mk (HY12.out.ext he); have HE13 := As.mk (HE12.out.trans he); clear ho he) | (go_at_call 32; refine (eqIntS_t _ _ _ _ _ _ HO5.out (rdA_J HY13.out.o0 (by have := HRL.out; omega))).mono ?_; rintro e w14 ⟨rfl, he⟩; have HY14 := As.mk (HY13.out.ext he); have HE14 := As.mk (HE13.out.trans he); clear he))
    clear HY HE10 HY12 HE12 HO4 HO5 HY13 HE13
    go_wp2_with (go_at_call 34; refine (heldIntS_c _ _ _ _ _ (rdA_J HY14.out.o1 (by rw [marksI_len]; have := HRL.out; omega)) (by have := HRL.out; omega) (by omega) (by omega)).mono ?_; rintro e w15 ⟨rfl, rfl⟩)
    go_ret
    exact ⟨rfl, HE14.out⟩
  · have e1 : (if (l.length : Int) ≤ 1048576 then (1048576 : Int) - l.length else -1) = -1 := if_neg hl
    have E1 := As.mk e1
    have HL := As.mk hln
    clear e1 hl hln
    go_enter Try.func7, Try.ntmps7
    go_wp2_with (go_at_call 19; refine (szOpS_c _ _ _ _ _ (by omega) (by omega) (by have := HL.out; omega)).mono ?_; rw [E1.out]; rintro e w1 ⟨rfl, rfl⟩)
    go_ret
    exact ⟨rfl, Ext.rf _⟩
end Go.Proofs.Ytcodbpjaamggeaa.C
