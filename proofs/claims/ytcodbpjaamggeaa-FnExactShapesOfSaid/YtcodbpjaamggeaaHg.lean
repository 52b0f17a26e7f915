/- Shapes that are equal; marks in shapes. -/
import Derived.Test.YtcodbpjaamggeaaHf
import Derived.Test.YtcodbpjaamggeaaCz
set_option linter.unusedVariables false
set_option linter.unusedSimpArgs false
namespace Go.Proofs.Ytcodbpjaamggeaa.C
open Go.RowKit Go.Proofs.Ytcodbpjaamggeaa.W Go.Proofs.Ytcodbpjaamggeaa.P

/-- Two shapes and their copies, as eqShapes sees them. -/
structure Eq2 (w W : World) (gA gB : Nat) (vK vF vS vM uK uF uS uM : Value) (s : Sh) : Prop where
  e : Ext w W
  a : SB W gA vK vF vS vM s.done
  b : SB W gB uK uF uS uM s.done
  va : SV W vK vF vS vM s
  vb : SV W uK uF uS uM s
theorem Eq2.ext {w W W' gA gB vK vF vS vM uK uF uS uM s} (h : Eq2 w W gA gB vK vF vS vM uK uF uS uM s) (e : Ext W W') : Eq2 w W' gA gB vK vF vS vM uK uF uS uM s :=
  ⟨h.e.trans e, e.blk h.a, e.blk h.b, h.va.ext e, h.vb.ext e⟩
set_option maxRecDepth 100000 in
set_option maxHeartbeats 1000000 in
theorem eqShapes_t (vK vF vS vM uK uF uS uM : Value) (s : Sh) (w : World) (hA : SV w vK vF vS vM s) (hB : SV w uK uF uS uM s) (hs : sizS s) :
    Calls Try.prog 50 #[.agg #[vK, vF, vS, vM, .bool s.done], .agg #[uK, uF, uS, uM, .bool s.done]] w fun e w' => e = .returned (.bool true) ∧ Ext w w' := by
  obtain ⟨A1, c1, A2, c2, A3, c3, A4, c4, rfl, rfl, rfl, rfl⟩ := hA.forms
  obtain ⟨B1, d1, B2, d2, B3, d3, B4, d4, rfl, rfl, rfl, rfl⟩ := hB.forms
  obtain ⟨s1, s2, s3, s4⟩ := hs
  have hX : Ext w ((w.alloc (.cells #[.slice A1 s.kinds.length c1, .slice A2 s.full.length c2, .slice A3 s.stack.length c3, .slice A4 s.memo.length c4, .bool s.done] 51)).alloc (.cells #[.slice B1 s.kinds.length d1, .slice B2 s.full.length d2, .slice B3 s.stack.length d3, .slice B4 s.memo.length d4, .bool s.done] 51)) := ((Ext.rf w).al _).al _
  have h0 : Eq2 w ((w.alloc (.cells #[.slice A1 s.kinds.length c1, .slice A2 s.full.length c2, .slice A3 s.stack.length c3, .slice A4 s.memo.length c4, .bool s.done] 51)).alloc (.cells #[.slice B1 s.kinds.length d1, .slice B2 s.full.length d2, .slice B3 s.stack.length d3, .slice B4 s.memo.length d4, .bool s.done] 51)) w.heap.size (w.heap.size + 1) (.slice A1 s.kinds.length c1) (.slice A2 s.full.length c2) (.slice A3 s.stack.length c3) (.slice A4 s.memo.length c4) (.slice B1 s.kinds.length d1) (.slice B2 s.full.length d2) (.slice B3 s.stack.length d3) (.slice B4 s.memo.length d4) s := by
    refine ⟨hX, ((Ext.rf _).al _).blk (al_new _ _), ?_, hA.ext hX, hB.ext hX⟩
    have h := al_new (w.alloc (.cells #[.slice A1 s.kinds.length c1, .slice A2 s.full.length c2, .slice A3 s.stack.length c3, .slice A4 s.memo.length c4, .bool s.done] 51)) (.cells #[.slice B1 s.kinds.length d1, .slice B2 s.full.length d2, .slice B3 s.stack.length d3, .slice B4 s.memo.length d4, .bool s.done] 51)
    rw [al_size] at h
    exact h
  have H0 := As.mk h0
  clear hA hB hX h0
  go_enter Try.func50, Try.ntmps50
  go_upto_region 1 with fail
  generalize ((w.alloc (.cells #[.slice A1 s.kinds.length c1, .slice A2 s.full.length c2, .slice A3 s.stack.length c3, .slice A4 s.memo.length c4, .bool s.done] 51)).alloc (.cells #[.slice B1 s.kinds.length d1, .slice B2 s.full.length d2, .slice B3 s.stack.length d3, .slice B4 s.memo.length d4, .bool s.done] 51)) = w0 at H0 ⊢
  generalize w.heap.size + 1 = gB at H0 ⊢
  generalize w.heap.size = gA at H0 ⊢
  have a0 := SB.c0 H0.out.a
  have b0 := SB.c0 H0.out.b
  go_upto_region 3 with (go_at_call 32; refine (eqIntS_t _ _ _ _ _ _ (rdA_J H0.out.va.k (by omega)) (rdA_J H0.out.vb.k (by omega))).mono ?_; rintro e w1 ⟨rfl, he⟩; have H1 := As.mk (H0.out.ext he); clear he)
  clear a0 b0 H0
  have a1 := SB.c1 H1.out.a
  have b1 := SB.c1 H1.out.b
  go_upto_region 5 with (go_at_call 103; refine (eqBoolS_t _ _ _ _ _ _ (rdA_Bn H1.out.va.f (by omega)) (rdA_Bn H1.out.vb.f (by omega))).mono ?_; rintro e w2 ⟨rfl, he⟩; have H2 := As.mk (H1.out.ext he); clear he)
  clear a1 b1 H1
  have a2 := SB.c2 H2.out.a
  have b2 := SB.c2 H2.out.b
  go_upto_region 7 with (go_at_call 32; refine (eqIntS_t _ _ _ _ _ _ (rdA_J H2.out.va.t (by omega)) (rdA_J H2.out.vb.t (by omega))).mono ?_; rintro e w3 ⟨rfl, he⟩; have H3 := As.mk (H2.out.ext he); clear he)
  clear a2 b2 H2
  have a3 := SB.c3 H3.out.a
  have b3 := SB.c3 H3.out.b
  go_upto_region 9 with (go_at_call 32; refine (eqIntS_t _ _ _ _ _ _ (rdA_J H3.out.va.m (by omega)) (rdA_J H3.out.vb.m (by omega))).mono ?_; rintro e w4 ⟨rfl, he⟩; have H4 := As.mk (H3.out.ext he); clear he)
  clear a3 b3 H3
  have a4 := SB.c4 H4.out.a
  have b4 := SB.c4 H4.out.b
  go_wp2_with fail
  go_ret
  exact ⟨rfl, H4.out.e⟩
/-- The marks of shapes: the number after them. -/
def marksN (s : Sh) (q : Int) : Int := q + s.kinds.length + s.full.length + s.stack.length + s.memo.length
/-- Shapes that hold the marks from q on. -/
structure MK (w : World) (vK vF vS vM : Value) (s : Sh) (q : Int) : Prop where
  k : IR w vK (marksI q s.kinds.length)
  f : BR w vF (marksB (q + s.kinds.length) s.full.length)
  t : IR w vS (marksI (q + s.kinds.length + s.full.length) s.stack.length)
  m : IR w vM (marksI (q + s.kinds.length + s.full.length + s.stack.length) s.memo.length)
theorem MK.ext {w w' vK vF vS vM s q} (h : MK w vK vF vS vM s q) (e : Ext w w') : MK w' vK vF vS vM s q := ⟨h.k.ext e, h.f.ext e, h.t.ext e, h.m.ext e⟩
theorem apart_IB {w : World} {v v' : Value} {l : List Int} {l' : List Bool} (h : IR w v l) (h' : BR w v' l') : Apart v v' := fun _ hk => own_ne_type h h' (by decide) hk
set_option maxRecDepth 100000 in
set_option maxHeartbeats 1000000 in
theorem markShapes_m (vK vF vS vM : Value) (s : Sh) (q : Int) (w : World) (hA : SV w vK vF vS vM s) (hs : sizS s) (h0 : 0 ≤ q) (h1 : q ≤ 1000000) (hz : s.kinds.length ≤ 4000 ∧ s.full.length ≤ 4000 ∧ s.stack.length ≤ 4000 ∧ s.memo.length ≤ 4000) :
    Calls Try.prog 51 #[.agg #[vK, vF, vS, vM, .bool s.done], .int .i64 q] w fun e w' => e = .returned (.int .i64 (marksN s q)) ∧ MK w' vK vF vS vM s q ∧ Fr (SF vK vF vS vM) w w' := by
  obtain ⟨A1, c1, A2, c2, A3, c3, A4, c4, rfl, rfl, rfl, rfl⟩ := hA.forms
  obtain ⟨z1, z2, z3, z4⟩ := hz
  have HKS := As.mk hA.ks
  have HKM := As.mk hA.km
  have HSM := As.mk hA.sm
  have HKF := As.mk (apart_IB hA.k hA.f)
  have HTF := As.mk (apart_IB hA.t hA.f)
  have HMF := As.mk (apart_IB hA.m hA.f)
  have hX : Ext w (w.alloc (.cells #[.slice A1 s.kinds.length c1, .slice A2 s.full.length c2, .slice A3 s.stack.length c3, .slice A4 s.memo.length c4, .bool s.done] 51)) := (Ext.rf w).al _
  have hb : SB (w.alloc (.cells #[.slice A1 s.kinds.length c1, .slice A2 s.full.length c2, .slice A3 s.stack.length c3, .slice A4 s.memo.length c4, .bool s.done] 51)) w.heap.size (.slice A1 s.kinds.length c1) (.slice A2 s.full.length c2) (.slice A3 s.stack.length c3) (.slice A4 s.memo.length c4) s.done := al_new _ _
  have HX := As.mk hX
  have HB := As.mk hb
  have HV := As.mk (hA.ext hX)
  have HLT := As.mk (fun k hk => hA.lt k hk)
  clear hX hb hA
  go_enter Try.func51, Try.ntmps51
  go_upto_region 1 with fail
  generalize w.alloc (.cells #[.slice A1 s.kinds.length c1, .slice A2 s.full.length c2, .slice A3 s.stack.length c3, .slice A4 s.memo.length c4, .bool s.done] 51) = w0 at HX HB HV ⊢
  have HNB : As (∀ k, SF (.slice A1 s.kinds.length c1) (.slice A2 s.full.length c2) (.slice A3 s.stack.length c3) (.slice A4 s.memo.length c4) k → k = w.heap.size → False) := ⟨fun k hk e => by have := HLT.out k hk; omega⟩
  generalize hgA : w.heap.size = gA at HB HNB ⊢
  clear hgA HLT
  obtain ⟨q1, hq1⟩ : ∃ q1, q1 = q + (s.kinds.length : Int) := ⟨_, rfl⟩
  obtain ⟨q2, hq2⟩ : ∃ q2, q2 = q1 + (s.full.length : Int) := ⟨_, rfl⟩
  obtain ⟨q3, hq3⟩ : ∃ q3, q3 = q2 + (s.stack.length : Int) := ⟨_, rfl⟩
  have HQ : As (marksN s q = q3 + (s.memo.length : Int)) := ⟨by rw [hq3, hq2, hq1]; rfl⟩
  have HQ1 := As.mk hq1
  have HQ2 := As.mk hq2
  have HQ3 := As.mk hq3
  have x1 : 0 ≤ q1 := by omega
  have y1 : q1 ≤ 2000000 := by omega
  have x2 : 0 ≤ q2 := by omega
  have y2 : q2 ≤ 3000000 := by omega
  have x3 : 0 ≤ q3 := by omega
  have y3 : q3 ≤ 4000000 := by omega
  clear hq1 hq2 hq3
  have p0 := SB.c0 HB.out
  go_upto_region 2 with (go_at_call 33; refine (markIntS_c A1 s.kinds.length c1 s.kinds q _ HV.out.k rfl (by omega) (by omega) (by omega)).mono ?_; rw [← HQ1.out]; rintro e w1 ⟨rfl, ho, hf⟩; have hb := hf.blk HB.out (fun e => HNB.out gA (.inl e) rfl); have p1 := SB.c1 hb; have HB1 := As.mk hb; have HF1 := As.mk (hf.mono (S' := SF (.slice A1 s.kinds.length c1) (.slice A2 s.full.length c2) (.slice A3 s.stack.length c3) (.slice A4 s.memo.length c4)) (fun k hk => .inl hk)); have K1 := As.mk ho; have F1 := As.mk (HV.out.f.fr hf (fun k hk e => HKF.out k e hk)); have T1 := As.mk (HV.out.t.fr hf (fun k hk e => HKS.out k e hk)); have M1 := As.mk (HV.out.m.fr hf (fun k hk e => HKM.out k e hk)); clear ho hf hb)
  clear p0
  go_upto_region 3 with (go_at_call 104; refine (markBoolS_c A2 s.full.length c2 s.full q1 _ F1.out rfl (by omega) (by omega) (by omega)).mono ?_; rw [← HQ2.out]; rintro e w2 ⟨rfl, ho, hf⟩; have hb := hf.blk HB1.out (fun e => HNB.out gA (.inr (.inl e)) rfl); have p2 := SB.c2 hb; have HB2 := As.mk hb; have HF2 := As.mk (HF1.out.trans (hf.mono (S' := SF (.slice A1 s.kinds.length c1) (.slice A2 s.full.length c2) (.slice A3 s.stack.length c3) (.slice A4 s.memo.length c4)) (fun k hk => .inr (.inl hk)))); have F2 := As.mk ho; have K2 := As.mk (K1.out.fr hf (fun k hk e => HKF.out k hk e)); have T2 := As.mk (T1.out.fr hf (fun k hk e => HTF.out k hk e)); have M2 := As.mk (M1.out.fr hf (fun k hk e => HMF.out k hk e)); clear ho hf hb)
  clear p1
  go_upto_region 4 with (go_at_call 33; refine (markIntS_c A3 s.stack.length c3 s.stack q2 _ T2.out rfl (by omega) (by omega) (by omega)).mono ?_; rw [← HQ3.out]; rintro e w3 ⟨rfl, ho, hf⟩; have hb := hf.blk HB2.out (fun e => HNB.out gA (.inr (.inr (.inl e))) rfl); have p3 := SB.c3 hb; have HF3 := As.mk (HF2.out.trans (hf.mono (S' := SF (.slice A1 s.kinds.length c1) (.slice A2 s.full.length c2) (.slice A3 s.stack.length c3) (.slice A4 s.memo.length c4)) (fun k hk => .inr (.inr (.inl hk))))); have T3 := As.mk ho; have K3 := As.mk (K2.out.fr hf (fun k hk e => HKS.out k hk e)); have F3 := As.mk (F2.out.fr hf (fun k hk e => HTF.out k e hk)); have M3 := As.mk (M2.out.fr hf (fun k hk e => HSM.out k e hk)); clear ho hf hb)
  clear p2
  go_wp2_with (go_at_call 33; refine (markIntS_c A4 s.memo.length c4 s.memo q3 _ M3.out rfl (by omega) (by omega) (by omega)).mono ?_; rintro e w4 ⟨rfl, ho, hf⟩; have HF4 := As.mk (HF3.out.trans (hf.mono (S' := SF (.slice A1 s.kinds.length c1) (.slice A2 s.full.length c2) (.slice A3 s.stack.length c3) (.slice A4 s.memo.length c4)) (fun k hk => .inr (.inr (.inr hk))))); have M4 := As.mk ho; have T4 := As.mk (T3.out.fr hf (fun k hk e => HSM.out k hk e)); have K4 := As.mk (K3.out.fr hf (fun k hk e => HKM.out k hk e)); have F4 := As.mk (F3.out.fr hf (fun k hk e => HMF.out k e hk)); clear ho hf)
  go_ret
  rw [HQ.out]
  refine ⟨rfl, ⟨K4.out, ?_, ?_, ?_⟩, (Fr.ofExt HX.out).trans HF4.out⟩
  · rw [← HQ1.out]; exact F4.out
  · rw [← HQ1.out, ← HQ2.out]; exact T4.out
  · rw [← HQ1.out, ← HQ2.out, ← HQ3.out]; exact M4.out
set_option maxRecDepth 100000 in
set_option maxHeartbeats 1000000 in
theorem heldShapes_c (vK vF vS vM : Value) (s s0 : Sh) (b : Bool) (q : Int) (w w0' : World) (hm : MK w vK vF vS vM s q) (hA : SV w0' vK vF vS vM s) (h0 : 0 ≤ q) (h1 : q ≤ 1000000) (hz : s.kinds.length ≤ 4000 ∧ s.full.length ≤ 4000 ∧ s.stack.length ≤ 4000 ∧ s.memo.length ≤ 4000) :
    Calls Try.prog 52 #[.agg #[vK, vF, vS, vM, .bool s.done], .int .i64 q] w fun e w' => e = .returned (.int .i64 (marksN s q)) ∧ Ext w w' := by
  obtain ⟨A1, c1, A2, c2, A3, c3, A4, c4, rfl, rfl, rfl, rfl⟩ := hA.forms
  obtain ⟨z1, z2, z3, z4⟩ := hz
  have hX : Ext w (w.alloc (.cells #[.slice A1 s.kinds.length c1, .slice A2 s.full.length c2, .slice A3 s.stack.length c3, .slice A4 s.memo.length c4, .bool s.done] 51)) := (Ext.rf w).al _
  have hb : SB (w.alloc (.cells #[.slice A1 s.kinds.length c1, .slice A2 s.full.length c2, .slice A3 s.stack.length c3, .slice A4 s.memo.length c4, .bool s.done] 51)) w.heap.size (.slice A1 s.kinds.length c1) (.slice A2 s.full.length c2) (.slice A3 s.stack.length c3) (.slice A4 s.memo.length c4) s.done := al_new _ _
  have HX := As.mk hX
  have HB := As.mk hb
  have HV := As.mk (hm.ext hX)
  clear hX hb hA hm
  go_enter Try.func52, Try.ntmps52
  go_upto_region 1 with fail
  generalize w.alloc (.cells #[.slice A1 s.kinds.length c1, .slice A2 s.full.length c2, .slice A3 s.stack.length c3, .slice A4 s.memo.length c4, .bool s.done] 51) = w0 at HX HB HV ⊢
  generalize w.heap.size = gA at HB ⊢
  obtain ⟨q1, hq1⟩ : ∃ q1, q1 = q + (s.kinds.length : Int) := ⟨_, rfl⟩
  obtain ⟨q2, hq2⟩ : ∃ q2, q2 = q1 + (s.full.length : Int) := ⟨_, rfl⟩
  obtain ⟨q3, hq3⟩ : ∃ q3, q3 = q2 + (s.stack.length : Int) := ⟨_, rfl⟩
  obtain ⟨q4, hq4⟩ : ∃ q4, q4 = q3 + (s.memo.length : Int) := ⟨_, rfl⟩
  have HQ : As (marksN s q = q4) := ⟨by rw [hq4, hq3, hq2, hq1]; rfl⟩
  have HK := As.mk (rdA_J HV.out.k (by rw [marksI_len]; omega))
  have HF := As.mk (rdA_Bn HV.out.f (by rw [marksB_len]; omega))
  have HT := As.mk (rdA_J HV.out.t (by rw [marksI_len]; omega))
  have HM := As.mk (rdA_J HV.out.m (by rw [marksI_len]; omega))
  rw [← hq1] at HF HT HM
  rw [← hq2] at HT HM
  rw [← hq3] at HM
  have HQ1 := As.mk hq1
  have HQ2 := As.mk hq2
  have HQ3 := As.mk hq3
  have HQ4 := As.mk hq4
  have x1 : 0 ≤ q1 := by omega
  have y1 : q1 ≤ 2000000 := by omega
  have x2 : 0 ≤ q2 := by omega
  have y2 : q2 ≤ 3000000 := by omega
  have x3 : 0 ≤ q3 := by omega
  have y3 : q3 ≤ 4000000 := by omega
  have x4 : 0 ≤ q4 := by omega
  clear hq1 hq2 hq3 hq4 HV
  have p0 := SB.c0 HB.out
  have p1 := SB.c1 HB.out
  have p2 := SB.c2 HB.out
  have p3 := SB.c3 HB.out
  go_upto_region 4 with (go_at_call 34; refine (heldIntS_c A1 s.kinds.length c1 q _ HK.out (by omega) (by omega) (by omega)).mono ?_; rw [← HQ1.out]; rintro e w1 ⟨rfl, rfl⟩)
  go_upto_region 7 with (go_at_call 105; refine (heldBoolS_c A2 s.full.length c2 q1 _ HF.out (by omega) (by omega) (by omega)).mono ?_; rw [← HQ2.out]; rintro e w1 ⟨rfl, rfl⟩)
  go_upto_region 10 with (go_at_call 34; refine (heldIntS_c A3 s.stack.length c3 q2 _ HT.out (by omega) (by omega) (by omega)).mono ?_; rw [← HQ3.out]; rintro e w1 ⟨rfl, rfl⟩)
  go_wp2_with (go_at_call 34; refine (heldIntS_c A4 s.memo.length c4 q3 _ HM.out (by omega) (by omega) (by omega)).mono ?_; rw [← HQ4.out]; rintro e w1 ⟨rfl, rfl⟩)
  go_ret
  exact ⟨by rw [HQ.out]; rfl, HX.out⟩
end Go.Proofs.Ytcodbpjaamggeaa.C
