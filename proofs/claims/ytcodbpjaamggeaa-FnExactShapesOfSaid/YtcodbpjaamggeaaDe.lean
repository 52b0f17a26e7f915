/- The law FnExactShapesOf. -/
import Derived.Test.YtcodbpjaamggeaaIf
import Derived.Test.YtcodbpjaamggeaaHg
import Derived.Test.YtcodbpjaamggeaaHe
import Derived.Test.YtcodbpjaamggeaaDa
set_option linter.unusedVariables false
set_option linter.unusedSimpArgs false
namespace Go.Proofs.Ytcodbpjaamggeaa.P
theorem runS_ok : ∀ (l : List Opr) (s : Sh), okS s → l.all okO = true → okS (runS s l).1
  | [], _, h, _ => h
  | o :: r, s, h, ho => by
    simp only [List.all_cons, Bool.and_eq_true] at ho
    simp only [runS]
    cases hs : stepS s o with
    | none => exact h
    | some s' => exact runS_ok r s' (okS.step h o ho.1 hs) ho.2
end Go.Proofs.Ytcodbpjaamggeaa.P
namespace Go.Proofs.Ytcodbpjaamggeaa.C
open Go.RowKit Go.Proofs.Ytcodbpjaamggeaa.W Go.Proofs.Ytcodbpjaamggeaa.P

def sml (s : Sh) : Prop := s.kinds.length ≤ 300 ∧ s.full.length ≤ 300 ∧ s.stack.length ≤ 300 ∧ s.memo.length ≤ 300
theorem sml_of (ops : List Opr) : sml (shapesOf ops) := by
  unfold shapesOf
  split
  · rename_i h
    have ha := (vOps_all h).1
    have ho := runS_ok ops newS okS_new ha
    rw [runS_new ha] at ho
    exact ⟨ho.kl, by rw [ho.fl]; exact ho.kl, ho.sl, by rw [ho.ml]; omega⟩
  · exact ⟨by simp [noS], by simp [noS], by simp [noS], by simp [noS]⟩
theorem sml.siz {s : Sh} (h : sml s) : sizS s := ⟨by have := h.1; omega, by have := h.2.1; omega, by have := h.2.2.1; omega, by have := h.2.2.2; omega⟩
theorem sml.big {s : Sh} (h : sml s) : s.kinds.length ≤ 4000 ∧ s.full.length ≤ 4000 ∧ s.stack.length ≤ 4000 ∧ s.memo.length ≤ 4000 := ⟨by have := h.1; omega, by have := h.2.1; omega, by have := h.2.2.1; omega, by have := h.2.2.2; omega⟩
theorem marksN_le {s : Sh} (h : sml s) : 0 ≤ marksN s 1 ∧ marksN s 1 ≤ 2000 := by
  obtain ⟨h1, h2, h3, h4⟩ := h
  unfold marksN
  omega
/-- Both results in their variables, and the copy that was handed in. -/
structure Sh3 (w W : World) (g0 g1 : Nat) (aK aF aS aM bK bF bS bM x : Value) (s : Sh) (l : List Opr) : Prop where
  e : Ext w W
  b0 : SB W g0 aK aF aS aM s.done
  b1 : SB W g1 bK bF bS bM s.done
  v0 : SV W aK aF aS aM s
  v1 : SV W bK bF bS bM s
  ox : OR W x l
  a0 : ∀ k, SF aK aF aS aM k → ¬ x.ownBlock = some k
  a1 : ∀ k, SF bK bF bS bM k → ¬ x.ownBlock = some k
  a2 : ∀ k, SF aK aF aS aM k → ¬ SF bK bF bS bM k
  fx : Fresh x w
  f1 : ∀ k, SF bK bF bS bM k → w.heap.size ≤ k
theorem Sh3.ext {w W W' g0 g1 aK aF aS aM bK bF bS bM x s l} (h : Sh3 w W g0 g1 aK aF aS aM bK bF bS bM x s l) (e : Ext W W') : Sh3 w W' g0 g1 aK aF aS aM bK bF bS bM x s l :=
  ⟨h.e.trans e, e.blk h.b0, e.blk h.b1, h.v0.ext e, h.v1.ext e, h.ox.ext e, h.a0, h.a1, h.a2, h.fx, h.f1⟩
theorem Sh3.mx {w W W' g0 g1 aK aF aS aM bK bF bS bM x s l l'} (h : Sh3 w W g0 g1 aK aF aS aM bK bF bS bM x s l) (ho : OR W' x l') (hf : Fr (fun k => x.ownBlock = some k) W W') : Sh3 w W' g0 g1 aK aF aS aM bK bF bS bM x s l' :=
  ⟨fr_ext h.e hf h.fx, hf.blk h.b0 (fun e => own_ne_blk h.ox h.b0 (by decide) e), hf.blk h.b1 (fun e => own_ne_blk h.ox h.b1 (by decide) e), h.v0.fr hf h.a0, h.v1.fr hf h.a1, ho, h.a0, h.a1, h.a2, h.fx, h.f1⟩
/-- The result holds its marks. -/
structure Sh2 (w W : World) (g0 g1 : Nat) (aK aF aS aM bK bF bS bM : Value) (s : Sh) : Prop where
  e : Ext w W
  b0 : SB W g0 aK aF aS aM s.done
  b1 : SB W g1 bK bF bS bM s.done
  v0 : SV W aK aF aS aM s
  m1 : MK W bK bF bS bM s 1
theorem Sh2.ext {w W W' g0 g1 aK aF aS aM bK bF bS bM s} (h : Sh2 w W g0 g1 aK aF aS aM bK bF bS bM s) (e : Ext W W') : Sh2 w W' g0 g1 aK aF aS aM bK bF bS bM s :=
  ⟨h.e.trans e, e.blk h.b0, e.blk h.b1, h.v0.ext e, h.m1.ext e⟩
theorem Sh3.m1 {w W W' g0 g1 aK aF aS aM bK bF bS bM x s l} (h : Sh3 w W g0 g1 aK aF aS aM bK bF bS bM x s l) (hm : MK W' bK bF bS bM s 1) (hf : Fr (SF bK bF bS bM) W W') : Sh2 w W' g0 g1 aK aF aS aM bK bF bS bM s :=
  ⟨(Fr.then (S := fun _ => False) (Fr.ofExt h.e) hf (fun k hk => .inr (h.f1 k hk))).ext (fun _ h => h.elim), hf.blk h.b0 (fun e => h.v1.nb h.b0 e), hf.blk h.b1 (fun e => h.v1.nb h.b1 e), h.v0.fr hf h.a2, hm⟩
set_option maxRecDepth 100000 in
set_option maxHeartbeats 2000000 in
theorem FnExactShapesOf_c (A : Option Addr) (c : Nat) (l : List Opr) (w : World) (hg : GivenO w A l) :
    Calls Try.prog 12 #[.slice A l.length c] w fun e w' => e = .returned (.bool true) ∧ Ext w w' := by
  have hln := hg.1
  have HG := As.mk hg
  clear hg
  by_cases hl : (l.length : Int) ≤ 1048576
  · obtain ⟨lf, hlf⟩ : ∃ lf, lf = (1048576 : Int) - l.length := ⟨_, rfl⟩
    have e1 : (if (l.length : Int) ≤ 1048576 then (1048576 : Int) - l.length else -1) = lf := by rw [hlf]; exact if_pos hl
    have h2 : 0 ≤ lf := by omega
    have E1 := As.mk e1
    have HR := As.mk (HG.out.rd (by omega))
    have HL := As.mk (show l.length ≤ 1048576 by omega)
    clear e1 hlf hl hln
    go_enter Try.func12, Try.ntmps12
    go_upto_region 3 with (go_at_call 19; refine (szOpS_c _ _ _ _ _ (by omega) (by omega) (by have := HL.out; omega)).mono ?_; rw [E1.out]; rintro e w1 ⟨rfl, rfl⟩)
    obtain ⟨s, hs⟩ : ∃ s, shapesOf l = s := ⟨_, rfl⟩
    obtain ⟨n, hn⟩ : ∃ n, shapesN l = n := ⟨_, rfl⟩
    have HSM : As (sml s) := ⟨by rw [← hs]; exact sml_of l⟩
    have HS := As.mk hs
    have HN := As.mk hn
    clear hs hn
    go_upto_region 6 with (first | (go_at_call 21; refine (toOpS_c _ _ _ _ HR.out HL.out).mono ?_; rintro e w1 ⟨ad1, rfl, ho, he, _⟩; have HO1 := As.mk (rdA_O ho (by have := HL.out; omega)); have HE1 := As.mk he; clear ho he) | (go_at_call 48; refine (sShapesOf_c _ _ _ _ HO1.out).mono ?_; rw [HS.out, HN.out]; rintro e w2 ⟨aK, aF, aS, aM, rfl, hv, he, hf⟩; obtain ⟨A1, c1, A2, c2, A3, c3, A4, c4, rfl, rfl, rfl, rfl⟩ := hv.forms; have HE2 := As.mk (HE1.out.trans he); have HV0 := As.mk hv; clear he hv hf))
    clear HO1 HE1
    have hb := al_new w2 (.cells #[.slice A1 s.kinds.length c1, .slice A2 s.full.length c2, .slice A3 s.stack.length c3, .slice A4 s.memo.length c4, .bool s.done] 51)
    have HX3 := As.mk (HE2.out.al (.cells #[.slice A1 s.kinds.length c1, .slice A2 s.full.length c2, .slice A3 s.stack.length c3, .slice A4 s.memo.length c4, .bool s.done] 51))
    have HV3 := As.mk (HV0.out.ext ((Ext.rf _).al (.cells #[.slice A1 s.kinds.length c1, .slice A2 s.full.length c2, .slice A3 s.stack.length c3, .slice A4 s.memo.length c4, .bool s.done] 51)))
    generalize w2.alloc (.cells #[.slice A1 s.kinds.length c1, .slice A2 s.full.length c2, .slice A3 s.stack.length c3, .slice A4 s.memo.length c4, .bool s.done] 51) = w3 at hb HX3 HV3 ⊢
    generalize w2.heap.size = g0 at hb ⊢
    have HB0 := As.mk hb
    clear hb HV0 HE2
    go_upto_region 7 with (go_at_call 21; refine (toOpS_c _ _ _ _ (HR.out.ext HX3.out) HL.out).mono ?_; rintro e w4 ⟨ad2, rfl, ho, he, hb⟩; have HO2 := As.mk ho; have HFX := As.mk (fresh_le (or_fresh ho hb) HX3.out); have HA0 : As (∀ k, SF (.slice A1 s.kinds.length c1) (.slice A2 s.full.length c2) (.slice A3 s.stack.length c3) (.slice A4 s.memo.length c4) k → ¬ (Value.slice (some ad2) l.length l.length).ownBlock = some k) := ⟨fun k hk e => by have h1 := HV3.out.lt k hk; have h2 := or_fresh ho hb k e; omega⟩; have HV4 := As.mk (HV3.out.ext he); have HB4 := As.mk (he.blk HB0.out); have HE4 := As.mk (HX3.out.trans he); clear ho he hb)
    clear HV3 HX3 HB0
    go_upto_region 8 with (go_at_call 49; refine (ShapesOf_c _ _ _ _ (rdA_O HO2.out (by have := HL.out; omega))).mono ?_; rw [HS.out, HN.out]; rintro e w5 ⟨bK, bF, bS, bM, rfl, hv, he, hf⟩; obtain ⟨B1, d1, B2, d2, B3, d3, B4, d4, rfl, rfl, rfl, rfl⟩ := hv.forms; have HV5 := As.mk hv; have HE5 := As.mk he; have HF5 := As.mk hf; clear hv he hf)
    have hz : Sh3 w (w5.alloc (.cells #[.slice B1 s.kinds.length d1, .slice B2 s.full.length d2, .slice B3 s.stack.length d3, .slice B4 s.memo.length d4, .bool s.done] 51)) g0 w5.heap.size (.slice A1 s.kinds.length c1) (.slice A2 s.full.length c2) (.slice A3 s.stack.length c3) (.slice A4 s.memo.length c4) (.slice B1 s.kinds.length d1) (.slice B2 s.full.length d2) (.slice B3 s.stack.length d3) (.slice B4 s.memo.length d4) (.slice (some ad2) l.length l.length) s l :=
      ⟨(HE4.out.trans HE5.out).al _, ((Ext.rf _).al _).blk (HE5.out.blk HB4.out), al_new _ _, (HV4.out.ext HE5.out).ext ((Ext.rf _).al _), HV5.out.ext ((Ext.rf _).al _), (HO2.out.ext HE5.out).ext ((Ext.rf _).al _), HA0.out,
        fun k hk e => by have h1 := HF5.out k hk; have h2 := or_lt HO2.out k e; omega, fun k hk hk2 => by have h1 := HV4.out.lt k hk; have h2 := HF5.out k hk2; omega, HFX.out, fun k hk => Nat.le_trans HE4.out.size (HF5.out k hk)⟩
    have HZ := As.mk hz
    clear hz HO2 HFX HA0 HV4 HB4 HE4 HV5 HE5 HF5
    generalize w5.alloc (.cells #[.slice B1 s.kinds.length d1, .slice B2 s.full.length d2, .slice B3 s.stack.length d3, .slice B4 s.memo.length d4, .bool s.done] 51) = w6 at HZ ⊢
    generalize w5.heap.size = g1 at HZ ⊢
    have a0 := SB.c0 HZ.out.b0
    have a1 := SB.c1 HZ.out.b0
    have a2 := SB.c2 HZ.out.b0
    have a3 := SB.c3 HZ.out.b0
    have a4 := SB.c4 HZ.out.b0
    have b0 := SB.c0 HZ.out.b1
    have b1 := SB.c1 HZ.out.b1
    have b2 := SB.c2 HZ.out.b1
    have b3 := SB.c3 HZ.out.b1
    have b4 := SB.c4 HZ.out.b1
    go_upto_region 10 with (go_at_call 50; refine (eqShapes_t _ _ _ _ _ _ _ _ s _ HZ.out.v1 HZ.out.v0 HSM.out.siz).mono ?_; rintro e w7 ⟨rfl, he⟩; have HZ7 := As.mk (HZ.out.ext he); clear he)
    clear a0 a1 a2 a3 a4 b0 b1 b2 b3 b4 HZ
    go_upto_region 12 with (first | (go_at_call 21; refine (toOpS_c _ _ _ _ (HR.out.ext HZ7.out.e) HL.out).mono ?_; rintro e w8 ⟨ad3, rfl, ho, he, _⟩; have HO3 := As.mk (rdA_O ho (by have := HL.out; omega)); have HZ8 := As.mk (HZ7.out.ext he); clear ho he) | (go_at_call 23; refine (eqOpS_t _ _ _ _ _ _ (rdA_O HZ8.out.ox (by have := HL.out; omega)) HO3.out).mono ?_; rintro e w9 ⟨rfl, he⟩; have HZ9 := As.mk (HZ8.out.ext he); clear he))
    clear HO3 HZ7 HZ8
    go_upto_region 14 with (go_at_call 28; refine (markOpS_o _ _ _ l _ _ HZ9.out.ox rfl (by have := HL.out; omega) (by omega) (by omega)).mono ?_; rintro e w10 ⟨rfl, ho, hf⟩; have HY := As.mk (HZ9.out.mx ho hf); clear ho hf)
    clear HZ9
    have HLL := HL.out
    have hz1 : (0 : Int) ≤ 1 + 2 * (l.length : Int) := by omega
    clear HLL
    have a0 := SB.c0 HY.out.b0
    have a1 := SB.c1 HY.out.b0
    have a2 := SB.c2 HY.out.b0
    have a3 := SB.c3 HY.out.b0
    have a4 := SB.c4 HY.out.b0
    have b0 := SB.c0 HY.out.b1
    have b1 := SB.c1 HY.out.b1
    have b2 := SB.c2 HY.out.b1
    have b3 := SB.c3 HY.out.b1
    have b4 := SB.c4 HY.out.b1
    go_upto_region 16 with (go_at_call 50; refine (eqShapes_t _ _ _ _ _ _ _ _ s _ HY.out.v1 HY.out.v0 HSM.out.siz).mono ?_; rintro e w11 ⟨rfl, he⟩; have HY11 := As.mk (HY.out.ext he); clear he)
    clear a0 a1 a2 a3 a4 b0 b1 b2 b3 b4 HY
    have b0 := SB.c0 HY11.out.b1
    have b1 := SB.c1 HY11.out.b1
    have b2 := SB.c2 HY11.out.b1
    have b3 := SB.c3 HY11.out.b1
    have b4 := SB.c4 HY11.out.b1
    have HMN := As.mk (marksN_le HSM.out)
    go_upto_region 18 with (go_at_call 51; refine (markShapes_m _ _ _ _ s _ _ HY11.out.v1 HSM.out.siz (by omega) (by omega) HSM.out.big).mono ?_; rintro e w12 ⟨rfl, hm, hf⟩; have HU := As.mk (HY11.out.m1 hm hf); clear hm hf)
    clear b0 b1 b2 b3 b4
    obtain ⟨q, hq⟩ : ∃ q, q = marksN s 1 := ⟨_, rfl⟩
    have hq0 : 0 ≤ q := by rw [hq]; exact HMN.out.1
    have hq1 : q ≤ 2000 := by rw [hq]; exact HMN.out.2
    rw [← hq]
    have HQ := As.mk hq
    clear hq
    have b0 := SB.c0 HU.out.b1
    have b1 := SB.c1 HU.out.b1
    have b2 := SB.c2 HU.out.b1
    have b3 := SB.c3 HU.out.b1
    have b4 := SB.c4 HU.out.b1
    go_upto_region 24 with (go_at_call 52; refine (heldShapes_c _ _ _ _ s s true _ _ _ HU.out.m1 HY11.out.v1 (by omega) (by omega) HSM.out.big).mono ?_; rw [← HQ.out]; rintro e w13 ⟨rfl, he⟩; have HU13 := As.mk (HU.out.ext he); clear he)
    clear b0 b1 b2 b3 b4 HU
    go_upto_region 25 with (first | (go_at_call 21; refine (toOpS_c _ _ _ _ (HR.out.ext HU13.out.e) HL.out).mono ?_; rintro e w14 ⟨ad4, rfl, ho, he, _⟩; have HO4 := As.mk (rdA_O ho (by have := HL.out; omega)); have HU14 := As.mk (HU13.out.ext he); clear ho he) | (go_at_call 49; refine (ShapesOf_c _ _ _ _ HO4.out).mono ?_; rw [HS.out, HN.out]; rintro e w15 ⟨bK, bF, bS, bM, rfl, hv, he, _⟩; obtain ⟨C1, e1, C2, e2, C3, e3, C4, e4, rfl, rfl, rfl, rfl⟩ := hv.forms; have HV15 := As.mk hv; have HU15 := As.mk (HU14.out.ext he); clear hv he))
    clear HU13 HU14 HO4
    have hc := al_new w15 (.cells #[.slice C1 s.kinds.length e1, .slice C2 s.full.length e2, .slice C3 s.stack.length e3, .slice C4 s.memo.length e4, .bool s.done] 51)
    have HU16 := As.mk (HU15.out.ext ((Ext.rf _).al (.cells #[.slice C1 s.kinds.length e1, .slice C2 s.full.length e2, .slice C3 s.stack.length e3, .slice C4 s.memo.length e4, .bool s.done] 51)))
    have HV16 := As.mk (HV15.out.ext ((Ext.rf _).al (.cells #[.slice C1 s.kinds.length e1, .slice C2 s.full.length e2, .slice C3 s.stack.length e3, .slice C4 s.memo.length e4, .bool s.done] 51)))
    generalize w15.alloc (.cells #[.slice C1 s.kinds.length e1, .slice C2 s.full.length e2, .slice C3 s.stack.length e3, .slice C4 s.memo.length e4, .bool s.done] 51) = w16 at hc HU16 HV16 ⊢
    generalize w15.heap.size = g2 at hc ⊢
    have HC : As (SB w16 g2 (.slice C1 s.kinds.length e1) (.slice C2 s.full.length e2) (.slice C3 s.stack.length e3) (.slice C4 s.memo.length e4) s.done) := ⟨hc⟩
    clear hc HU15 HV15
    have a0 := SB.c0 HU16.out.b0
    have a1 := SB.c1 HU16.out.b0
    have a2 := SB.c2 HU16.out.b0
    have a3 := SB.c3 HU16.out.b0
    have a4 := SB.c4 HU16.out.b0
    have b0 := SB.c0 HC.out
    have b1 := SB.c1 HC.out
    have b2 := SB.c2 HC.out
    have b3 := SB.c3 HC.out
    have b4 := SB.c4 HC.out
    go_upto_region 27 with (go_at_call 50; refine (eqShapes_t _ _ _ _ _ _ _ _ s _ HV16.out HU16.out.v0 HSM.out.siz).mono ?_; rintro e w17 ⟨rfl, he⟩; have HU17 := As.mk (HU16.out.ext he); clear he)
    clear a0 a1 a2 a3 a4 b0 b1 b2 b3 b4 HU16 HV16 HC
    have b0 := SB.c0 HU17.out.b1
    have b1 := SB.c1 HU17.out.b1
    have b2 := SB.c2 HU17.out.b1
    have b3 := SB.c3 HU17.out.b1
    have b4 := SB.c4 HU17.out.b1
    go_wp2_with (go_at_call 52; refine (heldShapes_c _ _ _ _ s s true _ _ _ HU17.out.m1 HY11.out.v1 (by omega) (by omega) HSM.out.big).mono ?_; rw [← HQ.out]; rintro e w18 ⟨rfl, he⟩; have HU18 := As.mk (HU17.out.ext he); clear he)
    go_ret
    exact ⟨rfl, HU18.out.e⟩
  · have e1 : (if (l.length : Int) ≤ 1048576 then (1048576 : Int) - l.length else -1) = -1 := if_neg hl
    have E1 := As.mk e1
    have HL := As.mk hln
    clear e1 hl hln
    go_enter Try.func12, Try.ntmps12
    go_wp2_with (go_at_call 19; refine (szOpS_c _ _ _ _ _ (by omega) (by omega) (by have := HL.out; omega)).mono ?_; rw [E1.out]; rintro e w1 ⟨rfl, rfl⟩)
    go_ret
    exact ⟨rfl, Ext.rf _⟩
end Go.Proofs.Ytcodbpjaamggeaa.C
