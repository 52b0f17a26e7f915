/- RunOps of both sides. -/
import Derived.Test.YtcodbpjaamggeaaMi
import Derived.Test.YtcodbpjaamggeaaCr
import Derived.Test.YtcodbpjaamggeaaSa
set_option linter.unusedVariables false
set_option linter.unusedSimpArgs false
namespace Go.Proofs.Ytcodbpjaamggeaa.C
open Go.RowKit Go.Proofs.Ytcodbpjaamggeaa.W Go.Proofs.Ytcodbpjaamggeaa.P

/-- What RunOps returns. -/
def runR (ops : List Opr) : Mc × Int := if vOps ops = true then ((runP newM ops).1, ((runP newM ops).2 : Int)) else (⟨[], [], [], false⟩, -1)
/-- A machine and a number come back. -/
def RunV (r : Mc × Int) (w : World) (e : Ending) (w' : World) : Prop := ∃ l AN cN AS cS AM cM, e = .returned (.tuple #[.agg #[.slice AN r.1.nodes.length cN, .slice AS r.1.stack.length cS, .slice AM r.1.memo.length cM, .bool r.1.done], .int .i64 r.2]) ∧ MW (w.heap.size ≤ ·) w' l (.slice AN r.1.nodes.length cN) (.slice AS r.1.stack.length cS) (.slice AM r.1.memo.length cM) r.1 ∧ Ext w w'
theorem runR_n {ops : List Opr} (h : vOps ops = false) : runR ops = (⟨[], [], [], false⟩, -1) := by unfold runR; rw [h]; rfl
theorem runR_y {ops : List Opr} (h : vOps ops = true) : runR ops = ((runP newM ops).1, ((runP newM ops).2 : Int)) := by unfold runR; rw [if_pos h]
theorem mw_nil {w w' : World} (h : Ext w w') : MW (w.heap.size ≤ ·) w' [] (.slice none 0 0) (.slice none 0 0) (.slice none 0 0) ⟨[], [], [], false⟩ :=
  ⟨NR.nil _, rfl, IR.nil _, IR.nil _, fun k hk => by
    rcases hk with e | e | e | ⟨p, hp, _⟩
    · simp [Value.ownBlock] at e
    · simp [Value.ownBlock] at e
    · simp [Value.ownBlock] at e
    · simp at hp, List.Pairwise.nil, by simp, by simp, fun k hk => by simp [Value.ownBlock] at hk, fun k hk => Nat.le_trans h.size hk⟩
theorem newM_kd : ∀ n ∈ newM.nodes, 0 ≤ n.kind := by simp [newM]
set_option maxRecDepth 100000 in
set_option maxHeartbeats 4000000 in
theorem sRunOps_n (A : Option Addr) (c : Nat) (ops : List Opr) (w : World) (hr : RdO w A ops) (hv : vOps ops = false) : Calls Try.prog 58 #[.slice A ops.length c] w (RunV (runR ops) w) := by
  rw [runR_n hv]
  have hlen := hr.1
  have HR := As.mk hr
  have HV := As.mk hv
  have hb := al_new w (.cells #[.slice none 0 0, .slice none 0 0, .slice none 0 0, .bool false] 64)
  have HB := As.mk (show MB _ _ (.slice none 0 0) (.slice none 0 0) (.slice none 0 0) false from hb)
  clear hr hv hb
  go_enter Try.func58, Try.ntmps58
  go_upto_region 2 with (go_at_call 74; refine (validOps_c _ _ _ _ (HR.out.ext ((Ext.rf _).al _))).mono ?_; rw [HV.out]; rintro e w1 ⟨rfl, he⟩; have HE := As.mk he; clear he)
  have hb := HE.out.blk HB.out
  have d0 := MB.c0 hb; have d1 := MB.c1 hb; have d2 := MB.c2 hb; have d3 := MB.c3 hb
  have f0 := MB.fz hb 0; have f1 := MB.fz hb 1; have f2 := MB.fz hb 2; have f3 := MB.fz hb 3
  go_wp2_with fail
  have hs6 := Fr.set4 (S := fun k => k = w.heap.size) (w := w1) (g := w.heap.size) rfl (.slice none 0 0) (.slice none 0 0) (.slice none 0 0) (.bool false)
  refine bodyPost_ret (results_cellt rfl _ _ w.heap.size _ rfl (loadM (MB.all _ _ _ _ hb))) rfl ?_
  have hE := (Fr.then (S := fun _ => False) (Fr.ofExt (((Ext.rf w).al _).trans HE.out)) hs6 (fun i hi => .inr (by omega))).ext (fun _ h => h.elim)
  exact ⟨[], _, _, _, _, _, _, rfl, mw_nil hE, hE⟩
set_option maxRecDepth 100000 in
set_option maxHeartbeats 4000000 in
theorem sRunOps_y (A : Option Addr) (c : Nat) (ops : List Opr) (w : World) (hr : RdO w A ops) (hv : vOps ops = true) : Calls Try.prog 58 #[.slice A ops.length c] w (RunV (runR ops) w) := by
  rw [runR_y hv]
  have hlen := hr.1
  have HR := As.mk hr
  have HV := As.mk hv
  have HVA := As.mk (vOps_all hv)
  have hb := al_new w (.cells #[.slice none 0 0, .slice none 0 0, .slice none 0 0, .bool false] 64)
  have HB := As.mk (show MB _ _ (.slice none 0 0) (.slice none 0 0) (.slice none 0 0) false from hb)
  clear hr hv hb
  go_enter Try.func58, Try.ntmps58
  go_upto_region 3 with (go_at_call 74; refine (validOps_c _ _ _ _ (HR.out.ext ((Ext.rf _).al _))).mono ?_; rw [HV.out]; rintro e w1 ⟨rfl, he⟩; have HE := As.mk he; clear he)
  have HEW := As.mk (((Ext.rf w).al (.cells #[.slice none 0 0, .slice none 0 0, .slice none 0 0, .bool false] 64)).trans HE.out)
  have HB1 := As.mk (HE.out.blk HB.out)
  clear HE
  go_wp2_with (first | (go_at_call 107; refine (newMachine_c _).mono ?_; rintro e w2 ⟨l2, vN2, vS2, vM2, rfl, hv, he⟩; have HM2 := As.mk hv; have HE2 := As.mk (HEW.out.trans he); have HX2 := As.mk he; clear hv he) | (go_at_call 106; refine (srun_c HM2.out okM_new newM_kd _ _ _ (HR.out.ext HE2.out) HVA.out.1 HVA.out.2).mono ?_; rintro e wZ ⟨lZ, BN, eN, BS, eS, BM, eM, rfl, hm, he, hok⟩; have HMZ := As.mk (hm.base (B' := (w.heap.size ≤ ·)) (fun k _ hk => Nat.le_trans HEW.out.size hk) (fun k hk => Nat.le_trans (HE2.out.trans he).size hk)); have HEZ := As.mk (HE2.out.trans he); have HBZ := As.mk ((HX2.out.trans he).blk HB1.out); clear hm he hok; have d0 := MB.c0 HBZ.out; have d1 := MB.c1 HBZ.out; have d2 := MB.c2 HBZ.out; have d3 := MB.c3 HBZ.out; have f0 := MB.fz HBZ.out 0; have f1 := MB.fz HBZ.out 1; have f2 := MB.fz HBZ.out 2; have f3 := MB.fz HBZ.out 3))
  have hs6 := Fr.set4 (S := fun k => k = w.heap.size) (w := wZ) (g := w.heap.size) rfl (.slice BN (runP newM ops).1.nodes.length eN) (.slice BS (runP newM ops).1.stack.length eS) (.slice BM (runP newM ops).1.memo.length eM) (.bool (runP newM ops).1.done)
  refine bodyPost_ret (results_cellt rfl _ _ w.heap.size _ rfl (loadM (MB.all _ _ _ _ HBZ.out))) rfl ?_
  have hE := (Fr.then (S := fun _ => False) (Fr.ofExt HEZ.out) hs6 (fun i hi => .inr (by omega))).ext (fun _ h => h.elim)
  exact ⟨_, _, _, _, _, _, _, rfl, HMZ.out.keep hs6.size (fun k hk => hs6.block k (HMZ.out.lt k hk) (fun e => HMZ.out.nb HBZ.out (by rw [← e]; exact hk))), hE⟩

theorem RunOps1_c (vN vS vM : Value) (d : Bool) (w : World) : Calls Try.prog 113 #[.agg #[vN, vS, vM, .bool d]] w fun e w' => (∃ v, e = .returned v) ∧ Ext w w' := by
  go_enter Try.func113, Try.ntmps113
  go_wp2_with fail
  go_end0
  exact ⟨⟨_, rfl⟩, (Ext.rf w).al _⟩
theorem RunOps1_e (args : Array Value) (w : World) : (callFunc 113 args).run Try.prog w = .ok (.enter 113 args) w :=
  call_enter Try.func113 (by kernel_rfl) (by kernel_rfl) args w
theorem mv_mw {b : Nat} {w l vN vS vM m} (h : MV b w l vN vS vM m) (hb : b ≤ w.heap.size) : MW (b ≤ ·) w l vN vS vM m :=
  ⟨h.nr, h.ns, h.sr, h.me, fun k hk => by
    rcases hk with e | e | e | ⟨p, hp, e⟩
    · exact h.loN k e
    · exact h.loS k e
    · exact h.loM k e
    · exact h.loK p hp k e, h.kk, h.ks, h.km, h.sm, fun k hk => Nat.le_trans hb hk⟩
set_option maxRecDepth 100000 in
set_option maxHeartbeats 4000000 in
theorem RunOps_n (A : Option Addr) (c : Nat) (ops : List Opr) (w : World) (hr : RdO w A ops) (hv : vOps ops = false) : Calls Try.prog 59 #[.slice A ops.length c] w (RunV (runR ops) w) := by
  rw [runR_n hv]
  have hlen := hr.1
  have HR := As.mk hr
  have HV := As.mk hv
  have hb := al_new w (.cells #[.slice none 0 0, .slice none 0 0, .slice none 0 0, .bool false] 64)
  have HB := As.mk (show MB _ _ (.slice none 0 0) (.slice none 0 0) (.slice none 0 0) false from hb)
  clear hr hv hb
  go_enter Try.func59, Try.ntmps59
  go_upto_region 2 with (go_at_call 76; refine (ValidOps_c _ _ _ _ (HR.out.ext ((Ext.rf _).al _))).mono ?_; rw [HV.out]; rintro e w1 ⟨rfl, he⟩; have HE := As.mk he; clear he)
  have hb := HE.out.blk HB.out
  have d0 := MB.c0 hb; have d1 := MB.c1 hb; have d2 := MB.c2 hb; have d3 := MB.c3 hb
  have f0 := MB.fz hb 0; have f1 := MB.fz hb 1; have f2 := MB.fz hb 2; have f3 := MB.fz hb 3
  go_wp2_with fail
  have hs6 := Fr.set4 (S := fun k => k = w.heap.size) (w := w1) (g := w.heap.size) rfl (.slice none 0 0) (.slice none 0 0) (.slice none 0 0) (.bool false)
  refine bodyPost_ret (results_cellt rfl _ _ w.heap.size _ rfl (loadM (MB.all _ _ _ _ hb))) rfl ?_
  have hE := (Fr.then (S := fun _ => False) (Fr.ofExt (((Ext.rf w).al _).trans HE.out)) hs6 (fun i hi => .inr (by omega))).ext (fun _ h => h.elim)
  exact ⟨[], _, _, _, _, _, _, rfl, mw_nil hE, hE⟩
set_option maxRecDepth 100000 in
set_option maxHeartbeats 4000000 in
theorem RunOps_y (A : Option Addr) (c : Nat) (ops : List Opr) (w : World) (hr : RdO w A ops) (hv : vOps ops = true) : Calls Try.prog 59 #[.slice A ops.length c] w (RunV (runR ops) w) := by
  rw [runR_y hv]
  have hlen := hr.1
  have HR := As.mk hr
  have HV := As.mk hv
  have HVA := As.mk (vOps_all hv)
  have hb := al_new w (.cells #[.slice none 0 0, .slice none 0 0, .slice none 0 0, .bool false] 64)
  have HB := As.mk (show MB _ _ (.slice none 0 0) (.slice none 0 0) (.slice none 0 0) false from hb)
  clear hr hv hb
  go_enter Try.func59, Try.ntmps59
  go_upto_region 3 with (go_at_call 76; refine (ValidOps_c _ _ _ _ (HR.out.ext ((Ext.rf _).al _))).mono ?_; rw [HV.out]; rintro e w1 ⟨rfl, he⟩; have HE := As.mk he; clear he)
  have HEW := As.mk (((Ext.rf w).al (.cells #[.slice none 0 0, .slice none 0 0, .slice none 0 0, .bool false] 64)).trans HE.out)
  have HB1 := As.mk (HE.out.blk HB.out)
  clear HE
  go_upto_region 4 with (go_at_call 77; refine (running_q RunOps1_e RunOps1_c _ _ _ _ (HR.out.ext HEW.out) HV.out).mono ?_; rintro e w2 ⟨l2, vN, vS, vM, rfl, hmv, hok, he⟩; obtain ⟨BN, eN, BS, eS, BM, eM, rfl, rfl, rfl, -, -⟩ := (mv_mw hmv he.size).rm (by have := hok.nl; omega) (by have := hok.sl; omega) (by have := hok.ml; omega); have HM2 := As.mk (mv_mw hmv he.size); have HE2 := As.mk he; clear hmv hok he)
  have hbx := al_new w2 (.cells #[.slice BN (runP newM ops).1.nodes.length eN, .slice BS (runP newM ops).1.stack.length eS, .slice BM (runP newM ops).1.memo.length eM, .bool (runP newM ops).1.done] 64)
  have HBX := As.mk (show MB _ _ (.slice BN (runP newM ops).1.nodes.length eN) (.slice BS (runP newM ops).1.stack.length eS) (.slice BM (runP newM ops).1.memo.length eM) (runP newM ops).1.done from hbx)
  have hxa : Ext w2 (w2.alloc (.cells #[.slice BN (runP newM ops).1.nodes.length eN, .slice BS (runP newM ops).1.stack.length eS, .slice BM (runP newM ops).1.memo.length eM, .bool (runP newM ops).1.done] 64)) := (Ext.rf _).al _
  have HEZ := As.mk ((HEW.out.trans HE2.out).trans hxa)
  have hm := HM2.out.ext hxa
  have HMZ := As.mk (hm.base (B' := (w.heap.size ≤ ·)) (fun k _ hk => Nat.le_trans HEW.out.size hk) (fun k hk => Nat.le_trans HEZ.out.size hk))
  have HBZ := As.mk ((HE2.out.trans hxa).blk HB1.out)
  clear hbx hxa hm HM2 HE2
  obtain ⟨h, hh⟩ : ∃ h, h = w2.heap.size := ⟨_, rfl⟩
  rw [← hh] at HBX ⊢
  clear hh
  generalize (w2.alloc (.cells #[.slice BN (runP newM ops).1.nodes.length eN, .slice BS (runP newM ops).1.stack.length eS, .slice BM (runP newM ops).1.memo.length eM, .bool (runP newM ops).1.done] 64)) = wZ at HBX HEZ HMZ HBZ ⊢
  have m0 := MB.c0 HBX.out; have m1 := MB.c1 HBX.out; have m2 := MB.c2 HBX.out; have m3 := MB.c3 HBX.out
  have d0 := MB.c0 HBZ.out; have d1 := MB.c1 HBZ.out; have d2 := MB.c2 HBZ.out; have d3 := MB.c3 HBZ.out; have f0 := MB.fz HBZ.out 0; have f1 := MB.fz HBZ.out 1; have f2 := MB.fz HBZ.out 2; have f3 := MB.fz HBZ.out 3
  go_wp2_with fail
  have hs6 := Fr.set4 (S := fun k => k = w.heap.size) (w := wZ) (g := w.heap.size) rfl (.slice BN (runP newM ops).1.nodes.length eN) (.slice BS (runP newM ops).1.stack.length eS) (.slice BM (runP newM ops).1.memo.length eM) (.bool (runP newM ops).1.done)
  refine bodyPost_ret (results_cellt rfl _ _ w.heap.size _ rfl (loadM (MB.all _ _ _ _ HBZ.out))) rfl ?_
  have hE := (Fr.then (S := fun _ => False) (Fr.ofExt HEZ.out) hs6 (fun i hi => .inr (by omega))).ext (fun _ h => h.elim)
  exact ⟨_, _, _, _, _, _, _, rfl, HMZ.out.keep hs6.size (fun k hk => hs6.block k (HMZ.out.lt k hk) (fun e => HMZ.out.nb HBZ.out (by rw [← e]; exact hk))), hE⟩

end Go.Proofs.Ytcodbpjaamggeaa.C
