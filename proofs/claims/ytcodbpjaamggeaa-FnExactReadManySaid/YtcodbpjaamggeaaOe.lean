/- The reference's ReadMany. -/
import Derived.Test.YtcodbpjaamggeaaOd
import Derived.Test.YtcodbpjaamggeaaOb
set_option linter.unusedVariables false
set_option linter.unusedSimpArgs false
namespace Go.Proofs.Ytcodbpjaamggeaa.C
open Go.RowKit Go.Proofs.Ytcodbpjaamggeaa.W Go.Proofs.Ytcodbpjaamggeaa.P

def rdmN (ops : List Opr) : List Nd := if vOps ops = true then (manyR ops).sv.nodes else []
def rdmS (ops : List Opr) : List Int := if vOps ops = true then (manyR ops).rs else []
def rdmE (ops : List Opr) : Int := if vOps ops = true then ((manyR ops).en : Int) else -1
/-- A graph, its roots and a number come back. -/
def RdMV (ns : List Nd) (rs : List Int) (n : Int) (w : World) (e : Ending) (w' : World) : Prop := ∃ l A c R cR, e = .returned (.tuple #[.agg #[.slice A ns.length c, .int .i64 0], .slice R rs.length cR, .int .i64 n]) ∧ NW (w.heap.size ≤ ·) w' l (.slice A ns.length c) ns ∧ IR w' (.slice R rs.length cR) rs ∧ Fresh (.slice R rs.length cR) w ∧ (∀ k, (Value.slice R rs.length cR).ownBlock = some k → ¬ FG (.slice A ns.length c) l k) ∧ Ext w w'
theorem rdmv_nil {w w' : World} (h : Ext w w') (n : Int) : RdMV [] [] n w (.returned (.tuple #[noG, .slice none 0 0, .int .i64 n])) w' :=
  ⟨[], none, 0, none, 0, rfl, NW.nil _ _, IR.nil _, fun k hk => by simp [Value.ownBlock] at hk, fun k hk => by simp [Value.ownBlock] at hk, h⟩
set_option maxRecDepth 100000 in
set_option maxHeartbeats 4000000 in
theorem sReadMany_c (A : Option Addr) (c : Nat) (ops : List Opr) (w : World) (hr : RdO w A ops) :
    Calls Try.prog 67 #[.slice A ops.length c] w (RdMV (rdmN ops) (rdmS ops) (rdmE ops) w) := by
  have hlen := hr.1
  have HR := As.mk hr
  clear hr
  have hB0 : GB (w.alloc (.cells #[.slice none 0 0, .int .i64 0] 58 (0, 0))) w.heap.size (.slice none 0 0) (.int .i64 0) := al_new _ _
  have HB0 := As.mk hB0
  have HX0 := As.mk ((Ext.rf w).al (.cells #[.slice none 0 0, .int .i64 0] 58 (0, 0)))
  clear hB0
  cases hv : vOps ops with
  | false =>
    have HV := As.mk hv
    have HN := As.mk (show rdmN ops = [] ∧ rdmS ops = [] ∧ rdmE ops = -1 by unfold rdmN rdmS rdmE; rw [hv]; simp)
    clear hv
    go_enter Try.func67, Try.ntmps67
    go_upto_region 2 with (go_at_call 74; refine (validOps_c _ _ _ _ (HR.out.ext ((Ext.rf _).al _))).mono ?_; rw [HV.out]; rintro e w1 ⟨rfl, he⟩; have HE := As.mk he; clear he)
    have HB : As (GB w1 w.heap.size (.slice none 0 0) (.int .i64 0)) := ⟨HE.out.blk HB0.out⟩
    have HX : As (Ext w w1) := ⟨HX0.out.trans HE.out⟩
    have b0 := gb_c0 HB.out
    have b1 := gb_c1 HB.out
    have f0 := gb_fz HB.out 0
    have f1 := gb_fz HB.out 1
    clear HE
    go_wp2_with fail
    refine bodyPost_ret (results_cell2 rfl _ _ w.heap.size _ rfl (loadG (gb_all _ _ HB.out))) rfl ?_
    rw [HN.out.1, HN.out.2.1, HN.out.2.2]
    exact rdmv_nil (noG_end HX.out _ _ (Nat.le_refl _) HB.out _ _) _
  | true =>
    have HV := As.mk hv
    have HVA := As.mk (vOps_all hv)
    have HN := As.mk (show rdmN ops = (manyR ops).sv.nodes ∧ rdmS ops = (manyR ops).rs ∧ rdmE ops = ((manyR ops).en : Int) by unfold rdmN rdmS rdmE; rw [if_pos hv, if_pos hv, if_pos hv]; exact ⟨rfl, rfl, rfl⟩)
    obtain ⟨s, hs⟩ : ∃ s, s = manyR ops := ⟨_, rfl⟩
    have HOK : As (okM 100000 s.sv) := ⟨by
      obtain ⟨k, hk, hat, -⟩ := many_ok ops (vOps_all hv).1
      have h3 := (vOps_all hv).2
      rw [hs]; exact hat.sv.mono (by omega)⟩
    have HS := As.mk hs
    rw [← hs] at HN
    clear hv hs
    go_enter Try.func67, Try.ntmps67
    go_upto_region 4 with (first | (go_at_call 74; refine (validOps_c _ _ _ _ (HR.out.ext ((Ext.rf _).al _))).mono ?_; rw [HV.out]; rintro e w1 ⟨rfl, he⟩; have HE1 := As.mk (HX0.out.trans he); have HB1 := As.mk (he.blk HB0.out); clear he) | (go_at_call 114; refine (smany_c _ _ _ _ (HR.out.ext HE1.out) HVA.out.1 HVA.out.2).mono ?_; rw [← HS.out]; rintro e w2 ⟨AN, cN, AS, cS, AM, cM, R, cR, rfl, hrm, hir, hfr, he⟩; have HRM := As.mk hrm; have HIR := As.mk hir; have HFR := As.mk hfr; have HX2 := As.mk he; have HE2 := As.mk (HE1.out.trans he); clear hrm hir hfr he))
    have hm := al_new w2 (.cells #[.slice AN s.sv.nodes.length cN, .slice AS s.sv.stack.length cS, .slice AM s.sv.memo.length cM, .bool s.sv.done] 64)
    have hx3 : Ext w2 (w2.alloc (.cells #[.slice AN s.sv.nodes.length cN, .slice AS s.sv.stack.length cS, .slice AM s.sv.memo.length cM, .bool s.sv.done] 64)) := (Ext.rf w2).al _
    have HE3 := As.mk (HE2.out.trans hx3)
    have HB3 := As.mk ((HX2.out.trans hx3).blk HB1.out)
    have HRM3 : As (RM _ AN AS AM s.sv) := ⟨HRM.out.ext hx3⟩
    have HIR3 := As.mk (HIR.out.ext hx3)
    generalize (w2.alloc (.cells #[.slice AN s.sv.nodes.length cN, .slice AS s.sv.stack.length cS, .slice AM s.sv.memo.length cM, .bool s.sv.done] 64)) = w3 at hm hx3 HE3 HB3 HRM3 HIR3 ⊢
    obtain ⟨g, hgg⟩ : ∃ g, g = w2.heap.size := ⟨_, rfl⟩
    rw [← hgg] at hm ⊢
    have HMB : As (MB w3 g (.slice AN s.sv.nodes.length cN) (.slice AS s.sv.stack.length cS) (.slice AM s.sv.memo.length cM) s.sv.done) := ⟨hm⟩
    have HS1 := As.mk (HE1.out.size)
    clear hgg HX2 HE2 hm hx3 HRM HIR HB1 HE1
    have m0 := MB.c0 HMB.out; have m1 := MB.c1 HMB.out; have m2 := MB.c2 HMB.out; have m3 := MB.c3 HMB.out
    go_wp2_with (go_at_call 118; refine (scopyMachine_c _ _ _ _ _ _ s.sv _ HRM3.out (by have := HOK.out.nl; omega) (fun n hn => by have := (HOK.out.ki n hn).1; omega)).mono ?_; rintro e w4 ⟨l4, C1, p1, o1, C2, p2, o2, C3, p3, o3, rfl, hv, hf⟩; have HN4 := As.mk hv.nw; have HX4 := As.mk (hf.ext (fun _ hk => hk)); clear hv hf; have hfd : ∀ W : World, (Instr.field 64 (.agg #[.slice C1 p1 o1, .slice C2 p2 o2, .slice C3 p3 o3, .bool s.sv.done]) 0).run Try.prog W = .ok (.slice C1 p1 o1) W := fun _ => (by kernel_rfl); have HB4 : As (GB w4 w.heap.size (.slice none 0 0) (.int .i64 0)) := ⟨HX4.out.blk HB3.out⟩; have b0 := gb_c0 HB4.out; have b1 := gb_c1 HB4.out; have f0 := gb_fz HB4.out 0; have f1 := gb_fz HB4.out 1)
    refine bodyPost_ret (results_cell2 rfl _ _ w.heap.size _ rfl (loadG (gb_all _ _ HB4.out))) rfl ?_
    rw [HN.out.1, HN.out.2.1, HN.out.2.2]
    have hp : p1 = s.sv.nodes.length := by
      obtain ⟨_, _, he, _⟩ := own_form HN4.out.nr.1
      injection he with _ he
      rw [he, ← HN4.out.ns, List.length_map]
    subst hp
    have hs5 : Fr (fun k => k = w.heap.size) w4 ((w4.setCell ⟨w.heap.size, 0, none⟩ (.slice C1 s.sv.nodes.length o1)).setCell ⟨w.heap.size, 1, none⟩ (.int .i64 0)) := (Fr.set (S := fun k => k = w.heap.size) w4 _ (p := ⟨w.heap.size, 0, none⟩) rfl).trans (Fr.set (S := fun k => k = w.heap.size) _ _ (p := ⟨w.heap.size, 1, none⟩) rfl)
    refine ⟨l4, _, _, _, _, rfl, (HN4.out.base (B' := (w.heap.size ≤ ·)) (fun k _ hk => Nat.le_trans HE3.out.size hk)).fr hs5 (fun k hk e => by rw [e] at hk; exact HN4.out.nb HB4.out hk), (HIR3.out.ext HX4.out).fr hs5 (fun k hk e => own_ne_blk (HIR3.out.ext HX4.out) HB4.out (by decide) (by rw [← e]; exact hk)), fun k hk => Nat.le_trans HS1.out (HFR.out k hk), fun k hk hf => ?_, noG_end (HE3.out.trans HX4.out) _ _ (Nat.le_refl _) HB4.out _ _⟩
    have h1 := own_lt HIR3.out hk
    have h2 := HN4.out.lo k hf
    omega
end Go.Proofs.Ytcodbpjaamggeaa.C
