/- A step of the machine. -/
import Derived.Test.YtcodbpjaamggeaaCk
set_option linter.unusedVariables false
set_option linter.unusedSimpArgs false
namespace Go.Proofs.Ytcodbpjaamggeaa.C
open Go.RowKit Go.Proofs.Ytcodbpjaamggeaa.W Go.Proofs.Ytcodbpjaamggeaa.P

theorem do_m {B base w g l vN vS vM m} (h : MR base w g l vN vS vM m) (hok : okM B m) (hB : B ≤ 2000000) (hd : m.done = false) (o : Opr) (ho : okO o = true) :
    Calls Try.prog 134 #[.pointer (some ⟨g, 0, none⟩), .agg #[.int .i64 o.code, .int .i64 o.arg]] w (Does base g l vN vS vM m (doP m o) w) := by
  obtain ⟨code, arg⟩ := o
  simp only [okO, decide_eq_true_eq] at ho
  obtain ⟨h1, h2, h3, h4⟩ := ho
  obtain ⟨n, rfl⟩ := Int.eq_ofNat_of_zero_le h1
  have hn : n ≤ 19 := by omega
  have hz : mostA (n : Int) = 0 → arg = 0 := fun e => by rw [e] at h4; omega
  match n, hn with
  | 0, _ => exact do_new h hok _ arg (.inl rfl)
  | 1, _ => exact do_new h hok _ arg (.inr (.inl rfl))
  | 2, _ => exact do_new h hok _ arg (.inr (.inr (.inr (.inr (.inr (.inr rfl))))))
  | 3, _ => exact do_3 h hok arg
  | 4, _ => exact do_new h hok _ arg (.inr (.inr (.inr (.inl ⟨rfl, hz rfl⟩))))
  | 5, _ => exact do_5 h hok arg
  | 6, _ => exact do_6 h hok arg
  | 7, _ => exact do_new h hok _ arg (.inr (.inr (.inr (.inr (.inl ⟨rfl, hz rfl⟩)))))
  | 8, _ => exact do_8 h hok hB arg
  | 9, _ => exact do_9 h hok hB arg
  | 10, _ => exact do_new h hok _ arg (.inr (.inr (.inr (.inr (.inr (.inl ⟨rfl, hz rfl⟩))))))
  | 11, _ => exact do_11 h hok hB arg
  | 12, _ => exact do_12 h hok hB arg
  | 13, _ => exact do_new h hok _ arg (.inr (.inr (.inl rfl)))
  | 14, _ => exact do_14 h hok hB arg
  | 15, _ => exact do_15 h hok arg h3 h4
  | 16, _ => exact do_16 h hok arg h3 h4
  | 17, _ => exact do_17 h hok arg
  | 18, _ => exact do_18 h hok arg
  | 19, _ => exact do_19 h hok hd arg
  | n + 20, hn => omega

theorem MR.restore {base w w1 g l vN vS vM m} (h : MR base w g l vN vS vM m) (hs : w.heap.size ≤ w1.heap.size) (hl : Left g l vN vM m w1) (vC : Value) (hI : IR w1 vC m.stack) (hC : Fresh vC w) : MR base ((w1.setCell ⟨g, 0, none⟩ vN).setCell ⟨g, 1, none⟩ vC) g l vN vC vM m := by
  obtain ⟨⟨vN', vS', hb⟩, hn, hm⟩ := hl
  have hb1 := hb.set.1 vN
  have hb2 := hb1.set.2.1 vC
  have hlt := h.foot_lt
  refine ⟨hb2, NR.setG (NR.setG hn hb _ _) hb1 _ _, h.ns, IR.setG (IR.setG hI hb _ _) hb1 _ _, IR.setG (IR.setG hm hb _ _) hb1 _ _, fun k hk => ?_, h.kk, fun p hp => Apart.fresh (fun k hk => hlt k (.inr (.inr (.inr (.inr ⟨p, hp, hk⟩))))) hC, h.km, (Apart.fresh (fun k hk => hlt k (.inr (.inr (.inr (.inl hk))))) hC).symm, fun k hk => h.up k (Nat.le_trans hs (by simpa [World.setCell] using hk))⟩
  rcases hk with e | e | e | e
  · exact h.lo k (.inl e)
  · exact h.lo k (.inr (.inl e))
  · exact h.up k (hC k e)
  · exact h.lo k (.inr (.inr (.inr e)))
theorem MR.below {base w w' g l vN vS vM m} (h : MR base w g l vN vS vM m) (hf : Fr (Foot g l vN vS vM) w w') : Fr base w w' := hf.mono h.lo

def StepPost (base : Nat → Prop) (g : Nat) (vM : Value) (m : Mc) (o : Opr) (w : World) (e : Ending) (w' : World) : Prop :=
  e = .returned (.bool (stepP m o).isSome) ∧ Fr base w w' ∧ ∃ l' vN' vS', MR base w' g l' vN' vS' vM ((stepP m o).getD m)

set_option maxRecDepth 100000 in
set_option maxHeartbeats 1000000 in
theorem step_m {B base w g l vN vS vM m} (h : MR base w g l vN vS vM m) (hok : okM B m) (hB : B ≤ 2000000) (o : Opr) (ho : okO o = true) :
    Calls Try.prog 91 #[.pointer (some ⟨g, 0, none⟩), .agg #[.int .i64 o.code, .int .i64 o.arg]] w (StepPost base g vM m o w) := by
  have hls := hok.sl
  obtain ⟨A, c, rfl, _, hrS⟩ := h.rdS (by omega)
  obtain ⟨AN, cN, rfl, _, _⟩ := own_form h.nr.1
  have H := As.mk h
  have HO := As.mk hok
  have HS := As.mk hrS
  have c0 := h.mb.c0
  have c1 := h.mb.c1
  clear h hok hrS
  obtain ⟨oc, oa⟩ := o
  go_enter Try.func91, Try.ntmps91
  go_wp2_with fail
  obtain ⟨w1, hw1⟩ : ∃ w1, w1 = w.alloc (.cells #[.int .i64 oc, .int .i64 oa] 82) := ⟨_, rfl⟩
  have hX : Ext w w1 := by rw [hw1]; exact ((Ext.rf w).al _)
  have b0 : w1.cell? ⟨w.heap.size, 0, none⟩ = some (.int .i64 oc) := by rw [hw1]; exact World.cell?_alloc_new ..
  have b1 : w1.cell? ⟨w.heap.size, 1, none⟩ = some (.int .i64 oa) := by rw [hw1]; exact World.cell?_alloc_new ..
  rw [← hw1]
  have d0 := hX.cellOf c0
  have d1 := hX.cellOf c1
  have HX := As.mk hX
  clear hX hw1 c0 c1
  refine region_perm (fun w' => w'.cell? ⟨g, 0, none⟩ = some (.slice AN l.length cN) ∧ w'.cell? ⟨g, 1, none⟩ = some (.slice A m.stack.length c)) [] [(0, 0), (1, 0), (2, 0), (3, 1), (4, 0), (5, 0), (6, 0), (7, 1), (8, 2), (9, 0), (10, 0)] (by kernel_rfl) (by kernel_rfl) rfl (by kernel_rfl) (fun _ _ _ _ h => h) ?_
  have hS := And.intro d0 d1
  repeat (first | refine wpP.c0 (h := ?_) | refine wpP.c1 (w := w1.drew) hS (h := ?_))
  refine wpP.ev (h := fun Kv hKv => ?_)
  go_wp2_with (go_at_call 133; refine (clone_c _ _ _ _ ((HS.out.ext HX.out).ext (by (repeat (first | exact Ext.rf _ | refine Ext.al ?_ _ | refine Ext.dr ?_ | refine Ext.dN ?_ _))))).mono ?_; rintro e w2 ⟨A', c', rfl, hI, he, hf⟩; have HI := As.mk hI; have HE : As (Ext w w2) := ⟨(HX.out.dr).trans he⟩; have HF : As (Fresh (.slice A' m.stack.length c') w) := ⟨fun k hk => Nat.le_trans HX.out.size (hf k hk)⟩; have HE1 : As (Ext w1 w2) := ⟨((Ext.rf w1).dr).trans he⟩; clear hI he hf)
  refine hKv.out _ _ ⟨HE1.out.cellOf d0, HE1.out.cellOf d1⟩ ?_
  clear hKv Kv hS
  repeat (first | refine wpP.c0 (h := ?_))
  refine wpP.done ?_
  have e0 := HE1.out.cellOf b0
  have e1 := HE1.out.cellOf b1
  have c3 := (H.out.ext HE.out).mb.c3
  clear d0 d1 b0 b1 HX HE1
  have hMR := H.out.ext HE.out
  have HM := As.mk hMR
  clear hMR
  cases hdn : m.done with
  | true =>
    rw [hdn] at c3
    have f0 := HM.out.mb.fz 0
    have f1 := HM.out.mb.fz 1
    have g0 := HM.out.mb.c0
    have g1 := HM.out.mb.c1
    have HD := As.mk hdn
    clear hdn
    go_wp2_with fail
    go_ret
    have hs : stepP m ⟨oc, oa⟩ = none := by unfold stepP; rw [HD.out]; rfl
    unfold StepPost
    rw [hs]
    refine ⟨rfl, ?_, l, _, _, H.out.restore HE.out.size (HM.out.left) (.slice A' m.stack.length c') HI.out HF.out⟩
    exact H.out.below ((Fr.ofExt HE.out).trans ((Fr.set _ _ (.inl rfl)).trans (Fr.set _ _ (.inl rfl))))
  | false =>
    rw [hdn] at c3
    have HD := As.mk hdn
    clear hdn
    cases hr : doP m ⟨oc, oa⟩ with
    | none =>
      have HR := As.mk hr
      clear hr
      go_wp2_with (go_at_call 134; refine (do_m HM.out HO.out hB HD.out ⟨oc, oa⟩ ho).mono ?_; rw [HR.out]; rintro e w3 ⟨rfl, hf, _, hl⟩; have HL := As.mk (hl rfl); have HF3 := As.mk hf; clear hl hf; (have g0 : ∃ v, w3.cell? ⟨g, 0, none⟩ = some v := (let ⟨_, _, h⟩ := HL.out.1; ⟨_, h.c0⟩)); obtain ⟨v0, g0⟩ := g0; (have g1 : ∃ v, w3.cell? ⟨g, 1, none⟩ = some v := (let ⟨_, _, h⟩ := HL.out.1; ⟨_, h.c1⟩)); obtain ⟨v1, g1⟩ := g1; (have f0 : w3.frozen? ⟨g, 0, none⟩ = false := (let ⟨_, _, h⟩ := HL.out.1; h.fz 0)); (have f1 : w3.frozen? ⟨g, 1, none⟩ = false := (let ⟨_, _, h⟩ := HL.out.1; h.fz 1)))
      go_ret
      have hs : stepP m ⟨oc, oa⟩ = none := by unfold stepP; rw [HD.out]; exact HR.out
      unfold StepPost
      rw [hs]
      refine ⟨rfl, ?_, l, _, _, H.out.restore (Nat.le_trans HE.out.size HF3.out.size) HL.out (.slice A' m.stack.length c') (IR.fr HI.out HF3.out (fun k hk hs => by have := HF.out k hk; have := H.out.foot_lt k hs; omega)) HF.out⟩
      exact H.out.below ((Fr.ofExt HE.out).trans (HF3.out.trans ((Fr.set _ _ (.inl rfl)).trans (Fr.set _ _ (.inl rfl)))))
    | some m' =>
      have HR := As.mk hr
      clear hr
      go_wp2_with (go_at_call 134; refine (do_m HM.out HO.out hB HD.out ⟨oc, oa⟩ ho).mono ?_; rw [HR.out]; rintro e w3 ⟨rfl, hf, hl, _⟩; have HL := As.mk (hl _ rfl); have HF3 := As.mk hf; clear hl hf)
      go_ret
      have hs : stepP m ⟨oc, oa⟩ = some m' := by unfold stepP; rw [HD.out]; exact HR.out
      unfold StepPost
      rw [hs]
      exact ⟨rfl, H.out.below ((Fr.ofExt HE.out).trans HF3.out), HL.out⟩
end Go.Proofs.Ytcodbpjaamggeaa.C
