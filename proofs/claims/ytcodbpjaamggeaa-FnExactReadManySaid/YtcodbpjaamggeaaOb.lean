/- The reference's BuildGraph. -/
import Derived.Test.YtcodbpjaamggeaaOa
import Derived.Test.YtcodbpjaamggeaaIa
set_option linter.unusedVariables false
set_option linter.unusedSimpArgs false
namespace Go.Proofs.Ytcodbpjaamggeaa.C
open Go.RowKit Go.Proofs.Ytcodbpjaamggeaa.W Go.Proofs.Ytcodbpjaamggeaa.P

/-- A graph comes back. -/
def GrS (ns : List Nd) (r : Int) (w : World) (e : Ending) (w' : World) : Prop := ∃ l A c, e = .returned (.agg #[.slice A ns.length c, .int .i64 r]) ∧ NW (w.heap.size ≤ ·) w' l (.slice A ns.length c) ns ∧ Ext w w'
def GrB (ns : List Nd) (r : Int) (b : Bool) (w : World) (e : Ending) (w' : World) : Prop := ∃ l A c, e = .returned (.tuple #[.agg #[.slice A ns.length c, .int .i64 r], .bool b]) ∧ NW (w.heap.size ≤ ·) w' l (.slice A ns.length c) ns ∧ Ext w w'
set_option maxRecDepth 100000 in
set_option maxHeartbeats 4000000 in
theorem sbuilt_c {B w l vN vS vM m} (h : MW B w l vN vS vM m) (s0 : Int) (hs : m.stack = [s0]) (h1 : m.nodes.length ≤ 1000000) (h3 : m.memo.length ≤ 1000000) (hkl : ∀ n ∈ m.nodes, n.kids.length ≤ 1000000) :
    Calls Try.prog 108 #[.agg #[vN, vS, vM, .bool m.done]] w (GrS m.nodes s0 w) := by
  have hsl : m.stack.length = 1 := by rw [hs]; rfl
  obtain ⟨AN, cN, AS, cS, AM, cM, rfl, rfl, rfl, hrm, -⟩ := h.rm h1 (by omega) h3
  have HRM := As.mk hrm
  have HKL := As.mk hkl
  have hst : ∃ gS, AS = some ⟨gS, 0, none⟩ ∧ w.cell? ⟨gS, 0, none⟩ = some (.int .i64 s0) := by
    obtain ⟨ad, e1, e2⟩ := hrm.s.2 0 (by omega)
    obtain ⟨A', c', hv, _, hz⟩ := own_form h.sr
    injection hv with hv
    obtain ⟨z1, z2, _⟩ := hz ad (by rw [← hv]; exact e1)
    obtain ⟨gS, o, sp⟩ := ad
    simp only at z1 z2
    subst z1 z2
    refine ⟨gS, e1, ?_⟩
    have e3 : m.stack[0]'(by omega) = s0 := by simp [hs]
    rw [e3] at e2
    simpa [Addr.add] using e2
  obtain ⟨gS, rfl, hst⟩ := hst
  have hx : Ext w ((w.alloc (.cells #[.slice AN m.nodes.length cN, .slice (some ⟨gS, 0, none⟩) m.stack.length cS, .slice AM m.memo.length cM, .bool m.done] 64)).alloc (.cells #[.slice none 0 0, .int .i64 0] 58)) := ((Ext.rf w).al _).al _
  have ha : MB ((w.alloc (.cells #[.slice AN m.nodes.length cN, .slice (some ⟨gS, 0, none⟩) m.stack.length cS, .slice AM m.memo.length cM, .bool m.done] 64)).alloc (.cells #[.slice none 0 0, .int .i64 0] 58)) w.heap.size (.slice AN m.nodes.length cN) (.slice (some ⟨gS, 0, none⟩) m.stack.length cS) (.slice AM m.memo.length cM) m.done := ((Ext.rf _).al _).blk (al_new w _)
  have hb : GB ((w.alloc (.cells #[.slice AN m.nodes.length cN, .slice (some ⟨gS, 0, none⟩) m.stack.length cS, .slice AM m.memo.length cM, .bool m.done] 64)).alloc (.cells #[.slice none 0 0, .int .i64 0] 58)) (w.heap.size + 1) (.slice none 0 0) (.int .i64 0) := by have := al_new (w.alloc (.cells #[.slice AN m.nodes.length cN, .slice (some ⟨gS, 0, none⟩) m.stack.length cS, .slice AM m.memo.length cM, .bool m.done] 64)) (.cells #[.slice none 0 0, .int .i64 0] 58); rw [al_size] at this; exact this
  rw [hsl] at hx ha hb ⊢
  have c4 := hx.cellOf hst
  have HX := As.mk hx
  have HA := As.mk ha
  have HB := As.mk hb
  have HR1 := As.mk (hrm.ext hx)
  have HSL := As.mk hsl
  have HG := As.mk (show w.heap.size ≤ w.heap.size + 1 by omega)
  clear h hs hrm hkl hst hx ha hb hsl
  go_enter Try.func108, Try.ntmps108
  go_upto_region 1 with fail
  generalize ((w.alloc (.cells #[.slice AN m.nodes.length cN, .slice (some ⟨gS, 0, none⟩) 1 cS, .slice AM m.memo.length cM, .bool m.done] 64)).alloc (.cells #[.slice none 0 0, .int .i64 0] 58)) = w1 at c4 HX HA HB HR1 ⊢
  obtain ⟨g, hg⟩ : ∃ g, g = w.heap.size := ⟨_, rfl⟩
  rw [← hg] at HA HB HG ⊢
  have HGW := As.mk hg
  clear hg
  have c0 := MB.c0 HA.out; have c1 := MB.c1 HA.out; have c2 := MB.c2 HA.out; have c3 := MB.c3 HA.out
  refine region_perm (fun w' => w'.cell? ⟨g, 0, none⟩ = some (.slice AN m.nodes.length cN) ∧ w'.cell? ⟨g, 1, none⟩ = some (.slice (some ⟨gS, 0, none⟩) 1 cS) ∧ w'.cell? ⟨g, 2, none⟩ = some (.slice AM m.memo.length cM) ∧ w'.cell? ⟨g, 3, none⟩ = some (.bool m.done) ∧ w'.cell? ⟨gS, 0, none⟩ = some (.int .i64 s0)) [8] [(0, 1), (3, 0), (4, 1), (5, 0), (6, 1), (1, 2), (2, 0), (7, 0), (8, 3)] (by kernel_rfl) (by kernel_rfl) rfl (by kernel_rfl) (fun _ _ _ _ h => h) ?_
  have hS := And.intro c0 (And.intro c1 (And.intro c2 (And.intro c3 c4)))
  repeat (first | refine wpP.c0 (h := ?_) | refine wpP.c1 (w := w1.drew) hS (h := ?_))
  have HCM : ∀ wd, Ext w1 wd → Calls Try.prog 118 #[.agg #[.slice AN m.nodes.length cN, .slice (some ⟨gS, 0, none⟩) 1 cS, .slice AM m.memo.length cM, .bool m.done]] wd (MachS (wd.heap.size ≤ ·) m wd) := fun wd hd => by
    have := scopyMachine_c _ _ _ cN cS cM m wd (HR1.out.ext hd) h1 HKL.out
    rwa [HSL.out] at this
  refine wpP.ev (h := fun Kv hKv => ?_)
  have HD := As.mk ((Ext.rf w1).dr)
  generalize w1.drew = wd at HD ⊢
  go_wp2_with (go_at_call 118; refine (HCM _ HD.out).mono ?_; rintro e w2 ⟨l2, C1, p1, o1, C2, p2, o2, C3, p3, o3, rfl, hv, hf⟩; have HN := As.mk hv.nw; have HE2 := As.mk (HD.out.trans (hf.ext (fun _ hk => hk))); clear hv hf)
  refine hKv.out _ _ ⟨HE2.out.cellOf c0, HE2.out.cellOf c1, HE2.out.cellOf c2, HE2.out.cellOf c3, HE2.out.cellOf c4⟩ ?_
  clear hKv Kv hS
  have hp : p1 = m.nodes.length := by
    obtain ⟨_, _, he, _⟩ := own_form HN.out.nr.1
    injection he with _ he
    rw [he, ← HN.out.ns, List.length_map]
  subst hp
  have hfd : ∀ W : World, (Instr.field 64 (.agg #[.slice C1 m.nodes.length o1, .slice C2 p2 o2, .slice C3 p3 o3, .bool m.done]) 0).run Try.prog W = .ok (.slice C1 m.nodes.length o1) W := fun _ => by kernel_rfl
  repeat (first | refine wpP.c0 (h := ?_))
  have hb2 := HE2.out.blk HB.out
  have HB2 : As (GB w2 (g + 1) (.slice none 0 0) (.int .i64 0)) := ⟨hb2⟩
  have b0 := gb_c0 HB2.out; have b1 := gb_c1 HB2.out; have f0 := gb_fz HB2.out 0; have f1 := gb_fz HB2.out 1
  clear c0 c1 c2 c3 c4 hb2
  refine wpP.last (h := fun Kv hKv => ?_)
  go_wp2_with fail
  refine hKv.out _ _ (wpP.done ?_)
  clear hKv Kv
  go_wp2_with fail
  refine bodyPost_ret (results_cell rfl _ _ (g + 1) _ rfl (loadG (gb_all _ _ HB2.out))) rfl ?_
  have hs5 : Fr (fun k => k = g + 1) w2 ((w2.setCell ⟨g + 1, 0, none⟩ (.slice C1 m.nodes.length o1)).setCell ⟨g + 1, 1, none⟩ (.int .i64 s0)) := (Fr.set (S := fun k => k = g + 1) w2 _ (p := ⟨g + 1, 0, none⟩) rfl).trans (Fr.set (S := fun k => k = g + 1) _ _ (p := ⟨g + 1, 1, none⟩) rfl)
  have hgw := HGW.out
  have hxs := HX.out.size
  have hds := HD.out.size
  refine ⟨l2, _, _, rfl, ?_, ?_⟩
  · have hn := HN.out.base (B' := (w.heap.size ≤ ·)) (fun k _ hk => Nat.le_trans hxs (Nat.le_trans hds hk))
    exact hn.fr hs5 (fun k hk e => by rw [e] at hk; exact HN.out.nb HB2.out hk)
  · exact (Fr.then (S := fun _ => False) (Fr.ofExt (HX.out.trans HE2.out)) hs5 (fun i hi => .inr (by omega))).ext (fun _ h => h.elim)
set_option maxRecDepth 100000 in
set_option maxHeartbeats 4000000 in
theorem sBuildGraph_n (A : Option Addr) (c : Nat) (ops : List Opr) (w : World) (hr : RdO w A ops) (hw : whole ops = false) :
    Calls Try.prog 53 #[.slice A ops.length c] w fun e w' => e = .returned (.tuple #[noG, .bool false]) ∧ Ext w w' := by
  have hlen := hr.1
  have HR := As.mk hr
  clear hr
  have hB0 : GB (w.alloc (.cells #[.slice none 0 0, .int .i64 0] 58 (0, 0))) w.heap.size (.slice none 0 0) (.int .i64 0) := al_new _ _
  have HB0 := As.mk hB0
  have HX0 := As.mk ((Ext.rf w).al (.cells #[.slice none 0 0, .int .i64 0] 58 (0, 0)))
  clear hB0
  cases hv : vOps ops with
  | false =>
    have HV := As.mk hv
    clear hv hw
    go_enter Try.func53, Try.ntmps53
    go_upto_region 2 with (go_at_call 74; refine (validOps_c _ _ _ _ (HR.out.ext ((Ext.rf _).al _))).mono ?_; rw [HV.out]; rintro e w1 ⟨rfl, he⟩; have HE := As.mk he; clear he)
    have HB : As (GB w1 w.heap.size (.slice none 0 0) (.int .i64 0)) := ⟨HE.out.blk HB0.out⟩
    have HX : As (Ext w w1) := ⟨HX0.out.trans HE.out⟩
    have b0 := gb_c0 HB.out
    have b1 := gb_c1 HB.out
    have f0 := gb_fz HB.out 0
    have f1 := gb_fz HB.out 1
    clear HE
    go_wp2_with fail
    refine bodyPost_ret (results_cellt rfl _ _ w.heap.size _ rfl (loadG (gb_all _ _ HB.out))) rfl ?_
    exact ⟨rfl, noG_end HX.out _ _ (Nat.le_refl _) HB.out _ _⟩
  | true =>
    have HV := As.mk hv
    have HVA := As.mk (vOps_all hv)
    have hwh : (runP newM ops).2 = ops.length → (runP newM ops).1.done = false := by
      intro h
      simpa [whole, hv, h] using hw
    have HW := As.mk hwh
    have hle : (runP newM ops).2 ≤ ops.length := runP_le ops newM
    clear hv hw hwh
    go_enter Try.func53, Try.ntmps53
    go_upto_region 4 with (first | (go_at_call 74; refine (validOps_c _ _ _ _ (HR.out.ext ((Ext.rf _).al _))).mono ?_; rw [HV.out]; rintro e w1 ⟨rfl, he⟩; have HEW := As.mk (HX0.out.trans he); have HB1 := As.mk (he.blk HB0.out); clear he) | (go_at_call 107; refine (newMachine_c _).mono ?_; rintro e w2 ⟨l2, vN2, vS2, vM2, rfl, hv, he⟩; have HM2 := As.mk hv; have HE2 := As.mk (HEW.out.trans he); have HX2 := As.mk he; clear hv he) | (go_at_call 106; refine (srun_c HM2.out okM_new newM_kd _ _ _ (HR.out.ext HE2.out) HVA.out.1 HVA.out.2).mono ?_; rintro e wZ ⟨lZ, BN, eN, BS, eS, BM, eM, rfl, hm, he, hok⟩; have HEZ := As.mk (HE2.out.trans he); have HBZ := As.mk ((HX2.out.trans he).blk HB1.out); clear hm he hok))
    have hm := al_new wZ (.cells #[.slice BN (runP newM ops).1.nodes.length eN, .slice BS (runP newM ops).1.stack.length eS, .slice BM (runP newM ops).1.memo.length eM, .bool (runP newM ops).1.done] 64)
    have HX3 := As.mk (HEZ.out.al (.cells #[.slice BN (runP newM ops).1.nodes.length eN, .slice BS (runP newM ops).1.stack.length eS, .slice BM (runP newM ops).1.memo.length eM, .bool (runP newM ops).1.done] 64))
    have HB3 : As (GB (wZ.alloc (.cells #[.slice BN (runP newM ops).1.nodes.length eN, .slice BS (runP newM ops).1.stack.length eS, .slice BM (runP newM ops).1.memo.length eM, .bool (runP newM ops).1.done] 64)) w.heap.size (.slice none 0 0) (.int .i64 0)) := ⟨((Ext.rf _).al _).blk HBZ.out⟩
    generalize (wZ.alloc (.cells #[.slice BN (runP newM ops).1.nodes.length eN, .slice BS (runP newM ops).1.stack.length eS, .slice BM (runP newM ops).1.memo.length eM, .bool (runP newM ops).1.done] 64)) = w3 at hm HX3 HB3 ⊢
    obtain ⟨g, hgg⟩ : ∃ g, g = wZ.heap.size := ⟨_, rfl⟩
    rw [← hgg] at hm ⊢
    clear hgg HM2 HE2 HX2 HEZ HBZ HEW HB1
    have HMB : As (MB w3 g (.slice BN (runP newM ops).1.nodes.length eN) (.slice BS (runP newM ops).1.stack.length eS) (.slice BM (runP newM ops).1.memo.length eM) (runP newM ops).1.done) := ⟨hm⟩
    clear hm
    have m3 := MB.c3 HMB.out
    have b0 := gb_c0 HB3.out
    have b1 := gb_c1 HB3.out
    have f0 := gb_fz HB3.out 0
    have f1 := gb_fz HB3.out 1
    rcases Nat.lt_or_ge (runP newM ops).2 ops.length with hlt | hge
    · have q1 : ((runP newM ops).2 : Int) < ops.length := by omega
      clear hlt hle
      go_wp2_with fail
      refine bodyPost_ret (results_cellt rfl _ _ w.heap.size _ rfl (loadG (gb_all _ _ HB3.out))) rfl ?_
      exact ⟨rfl, noG_end HX3.out _ _ (Nat.le_refl _) HB3.out _ _⟩
    · have hn : (runP newM ops).2 = ops.length := by omega
      have hd := HW.out hn
      rw [hd] at m3
      have q1 : ¬ ((runP newM ops).2 : Int) < ops.length := by omega
      clear hn hge hle hd
      go_wp2_with fail
      refine bodyPost_ret (results_cellt rfl _ _ w.heap.size _ rfl (loadG (gb_all _ _ HB3.out))) rfl ?_
      exact ⟨rfl, noG_end HX3.out _ _ (Nat.le_refl _) HB3.out _ _⟩
set_option maxRecDepth 100000 in
set_option maxHeartbeats 4000000 in
theorem sBuildGraph_y (A : Option Addr) (c : Nat) (ops : List Opr) (w : World) (hr : RdO w A ops) (hw : whole ops = true) :
    Calls Try.prog 53 #[.slice A ops.length c] w (GrB (runP newM ops).1.nodes (st (runP newM ops).1.stack 0) true w) := by
  have hlen := hr.1
  have HR := As.mk hr
  clear hr
  have hB0 : GB (w.alloc (.cells #[.slice none 0 0, .int .i64 0] 58 (0, 0))) w.heap.size (.slice none 0 0) (.int .i64 0) := al_new _ _
  have HB0 := As.mk hB0
  have HX0 := As.mk ((Ext.rf w).al (.cells #[.slice none 0 0, .int .i64 0] 58 (0, 0)))
  clear hB0
  simp only [whole, Bool.and_eq_true, decide_eq_true_eq] at hw
  obtain ⟨hv, hn, hd⟩ := hw
  have HV := As.mk hv
  have HVA := As.mk (vOps_all hv)
  have HD := As.mk hd
  have HN := As.mk hn
  obtain ⟨s0, hs0⟩ : ∃ s0, s0 = st (runP newM ops).1.stack 0 := ⟨_, rfl⟩
  have HS : As ((runP newM ops).1.stack = [s0]) := ⟨by
    have h := (runP_one (vOps_all hv).1 hd).1
    rw [hs0]
    match hl : (runP newM ops).1.stack, h with
    | [a], _ => rfl⟩
  rw [← hs0]
  clear hs0 hv hn hd
  go_enter Try.func53, Try.ntmps53
  go_upto_region 4 with (first | (go_at_call 74; refine (validOps_c _ _ _ _ (HR.out.ext ((Ext.rf _).al _))).mono ?_; rw [HV.out]; rintro e w1 ⟨rfl, he⟩; have HEW := As.mk (HX0.out.trans he); have HB1 := As.mk (he.blk HB0.out); clear he) | (go_at_call 107; refine (newMachine_c _).mono ?_; rintro e w2 ⟨l2, vN2, vS2, vM2, rfl, hv, he⟩; have HM2 := As.mk hv; have HE2 := As.mk (HEW.out.trans he); have HX2 := As.mk he; clear hv he) | (go_at_call 106; refine (srun_c HM2.out okM_new newM_kd _ _ _ (HR.out.ext HE2.out) HVA.out.1 HVA.out.2).mono ?_; rw [HD.out, HN.out]; rintro e wZ ⟨lZ, BN, eN, BS, eS, BM, eM, rfl, hm, he, hok⟩; have HMW := As.mk hm; have HOK := As.mk hok; have HEZ := As.mk (HE2.out.trans he); have HBZ := As.mk ((HX2.out.trans he).blk HB1.out); clear hm he hok))
  have hm := al_new wZ (.cells #[.slice BN (runP newM ops).1.nodes.length eN, .slice BS (runP newM ops).1.stack.length eS, .slice BM (runP newM ops).1.memo.length eM, .bool true] 64)
  have hx3 : Ext wZ (wZ.alloc (.cells #[.slice BN (runP newM ops).1.nodes.length eN, .slice BS (runP newM ops).1.stack.length eS, .slice BM (runP newM ops).1.memo.length eM, .bool true] 64)) := (Ext.rf wZ).al _
  have HX3 := As.mk (HEZ.out.trans hx3)
  have HB3 := As.mk (hx3.blk HBZ.out)
  have HMW3 := As.mk (HMW.out.ext hx3)
  generalize (wZ.alloc (.cells #[.slice BN (runP newM ops).1.nodes.length eN, .slice BS (runP newM ops).1.stack.length eS, .slice BM (runP newM ops).1.memo.length eM, .bool true] 64)) = w3 at hm HX3 HB3 HMW3 hx3 ⊢
  obtain ⟨g, hgg⟩ : ∃ g, g = wZ.heap.size := ⟨_, rfl⟩
  rw [← hgg] at hm ⊢
  clear hgg HM2 HE2 HX2 HEZ HBZ HEW HB1 hx3 HMW
  have HMB : As (MB w3 g (.slice BN (runP newM ops).1.nodes.length eN) (.slice BS (runP newM ops).1.stack.length eS) (.slice BM (runP newM ops).1.memo.length eM) true) := ⟨hm⟩
  clear hm
  have m0 := MB.c0 HMB.out; have m1 := MB.c1 HMB.out; have m2 := MB.c2 HMB.out; have m3 := MB.c3 HMB.out
  have HK : As (∀ n ∈ (runP newM ops).1.nodes, n.kids.length ≤ 1000000) := ⟨fun n hn => by have h1 := (HOK.out.ki n hn).1; have h2 := HVA.out.2; omega⟩
  have HSB := As.mk (show Calls Try.prog 108 #[.agg #[.slice BN (runP newM ops).1.nodes.length eN, .slice BS (runP newM ops).1.stack.length eS, .slice BM (runP newM ops).1.memo.length eM, .bool true]] w3 (GrS (runP newM ops).1.nodes s0 w3) by
    have := sbuilt_c HMW3.out s0 HS.out (by have := HOK.out.nl; omega) (by have := HOK.out.ml; omega) HK.out
    rwa [HD.out] at this)
  go_wp2_with (go_at_call 108; refine HSB.out.mono ?_; rintro e w4 ⟨l4, A4, c4, rfl, hn4, he4⟩; have HN4 := As.mk hn4; have HE4 := As.mk he4; have HB4 : As (GB w4 w.heap.size (.slice none 0 0) (.int .i64 0)) := ⟨he4.blk HB3.out⟩; clear hn4 he4; have b0 := gb_c0 HB4.out; have b1 := gb_c1 HB4.out; have f0 := gb_fz HB4.out 0; have f1 := gb_fz HB4.out 1)
  refine bodyPost_ret (results_cellt rfl _ _ w.heap.size _ rfl (loadG (gb_all _ _ HB4.out))) rfl ?_
  have hs5 : Fr (fun k => k = w.heap.size) w4 ((w4.setCell ⟨w.heap.size, 0, none⟩ (.slice A4 (runP newM ops).1.nodes.length c4)).setCell ⟨w.heap.size, 1, none⟩ (.int .i64 s0)) := (Fr.set (S := fun k => k = w.heap.size) w4 _ (p := ⟨w.heap.size, 0, none⟩) rfl).trans (Fr.set (S := fun k => k = w.heap.size) _ _ (p := ⟨w.heap.size, 1, none⟩) rfl)
  exact ⟨l4, _, _, rfl, (HN4.out.base (B' := (w.heap.size ≤ ·)) (fun k _ hk => Nat.le_trans HX3.out.size hk)).fr hs5 (fun k hk e => by rw [e] at hk; exact HN4.out.nb HB4.out hk), noG_end (HX3.out.trans HE4.out) _ _ (Nat.le_refl _) HB4.out _ _⟩
end Go.Proofs.Ytcodbpjaamggeaa.C
