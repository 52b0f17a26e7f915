/- BuildGraph and IsWhole. -/
import Derived.Test.YtcodbpjaamggeaaCr
import Derived.Test.YtcodbpjaamggeaaPt
import Derived.Test.YtcodbpjaamggeaaCv
import Derived.Deep.Cut
set_option linter.unusedVariables false
set_option linter.unusedSimpArgs false
namespace Go.Proofs.Ytcodbpjaamggeaa.C
open Go.RowKit Go.Proofs.Ytcodbpjaamggeaa.W Go.Proofs.Ytcodbpjaamggeaa.P

theorem BuildGraph1_c (vN vS vM : Value) (d : Bool) (w : World) : Calls Try.prog 109 #[.agg #[vN, vS, vM, .bool d]] w fun e w' => (∃ v, e = .returned v) ∧ Ext w w' := by
  go_enter Try.func109, Try.ntmps109
  go_wp2_with fail
  go_end0
  exact ⟨⟨_, rfl⟩, (Ext.rf w).al _⟩
theorem BuildGraph1_e (args : Array Value) (w : World) : (callFunc 109 args).run Try.prog w = .ok (.enter 109 args) w :=
  call_enter Try.func109 (by kernel_rfl) (by kernel_rfl) args w
/-- The program builds a graph. -/
def whole (ops : List Opr) : Bool := vOps ops && (decide ((runP newM ops).2 = ops.length) && (runP newM ops).1.done)
def noG : Value := .agg #[.slice none 0 0, .int .i64 0]
/-- The zero graph was stored and is returned. -/
theorem noG_end {w W : World} {g : Nat} (hE : Ext w W) (b c : Value) (hg : w.heap.size ≤ g) (h : GB W g b c) (u v : Value) : Ext w ((W.setCell ⟨g, 0, none⟩ u).setCell ⟨g, 1, none⟩ v) :=
  (hE.st (p := ⟨g, 0, none⟩) hg u).st (p := ⟨g, 1, none⟩) hg v
set_option maxRecDepth 100000 in
set_option maxHeartbeats 1000000 in
theorem BuildGraph_n (A : Option Addr) (c : Nat) (ops : List Opr) (w : World) (hr : RdO w A ops) (hw : whole ops = false) :
    Calls Try.prog 54 #[.slice A ops.length c] w fun e w' => e = .returned (.tuple #[noG, .bool false]) ∧ Ext w w' := by
  have hlen := hr.1
  have HR := As.mk hr
  clear hr
  have hB0 : GB (w.alloc (.cells #[.slice none 0 0, .int .i64 0] 58 (0, 0))) w.heap.size (.slice none 0 0) (.int .i64 0) := al_new _ _
  have HB0 := As.mk hB0
  have HX0 := As.mk ((Ext.rf w).al (.cells #[.slice none 0 0, .int .i64 0] 58 (0, 0)))
  clear hB0
  cases hv : vOps ops with
  | false =>
    have HV := As.mk hv
    clear hv hw
    go_enter Try.func54, Try.ntmps54
    go_upto_region 2 with (go_at_call 76; refine (ValidOps_c _ _ _ _ (HR.out.ext ((Ext.rf _).al _))).mono ?_; rw [HV.out]; rintro e w1 ⟨rfl, he⟩; have HE := As.mk he; clear he)
    have HB : As (GB w1 w.heap.size (.slice none 0 0) (.int .i64 0)) := ⟨HE.out.blk HB0.out⟩
    have HX : As (Ext w w1) := ⟨HX0.out.trans HE.out⟩
    have b0 := gb_c0 HB.out
    have b1 := gb_c1 HB.out
    have f0 := gb_fz HB.out 0
    have f1 := gb_fz HB.out 1
    clear HE
    go_wp2_with fail
    refine bodyPost_ret (results_cellt rfl _ _ w.heap.size _ rfl (loadG (gb_all _ _ HB.out))) rfl ?_
    exact ⟨rfl, noG_end HX.out _ _ (Nat.le_refl _) HB.out _ _⟩
  | true =>
    have HV := As.mk hv
    have hwh : (runP newM ops).2 = ops.length → (runP newM ops).1.done = false := by
      intro h
      simpa [whole, hv, h] using hw
    have HW := As.mk hwh
    have hle : (runP newM ops).2 ≤ ops.length := runP_le ops newM
    clear hv hw hwh
    rcases Nat.lt_or_ge (runP newM ops).2 ops.length with hlt | hge
    · have q1 : ((runP newM ops).2 : Int) < ops.length := by omega
      clear hlt hle
      go_enter Try.func54, Try.ntmps54
      go_upto_region 3 with (go_at_call 76; refine (ValidOps_c _ _ _ _ (HR.out.ext ((Ext.rf _).al _))).mono ?_; rw [HV.out]; rintro e w1 ⟨rfl, he⟩; have HE := As.mk he; clear he)
      have HB : As (GB w1 w.heap.size (.slice none 0 0) (.int .i64 0)) := ⟨HE.out.blk HB0.out⟩
      have HE1 : As (Ext w w1) := ⟨HX0.out.trans HE.out⟩
      clear HE
      go_upto_region 4 with (go_at_call 77; refine (running_q BuildGraph1_e BuildGraph1_c _ _ _ _ (HR.out.ext HE1.out) HV.out).mono ?_; rintro e w2 ⟨l, vN, vS, vM, rfl, hmv, _, he⟩; obtain ⟨B3, c3, rfl, _, _⟩ := own_form hmv.nr.1; obtain ⟨B4, c4, rfl, _, _⟩ := own_form hmv.sr; obtain ⟨B5, c5, rfl, _, _⟩ := own_form hmv.me; have HMV := As.mk hmv; have HXX := As.mk he; have HE2 := As.mk (HE1.out.trans he); clear he hmv)
      have hm := al_new w2 (.cells #[.slice B3 l.length c3, .slice B4 (runP newM ops).1.stack.length c4, .slice B5 (runP newM ops).1.memo.length c5, .bool (runP newM ops).1.done] 64)
      have HX3 : As (Ext w (w2.alloc (.cells #[.slice B3 l.length c3, .slice B4 (runP newM ops).1.stack.length c4, .slice B5 (runP newM ops).1.memo.length c5, .bool (runP newM ops).1.done] 64))) := ⟨HE2.out.al _⟩
      have HB3 : As (GB (w2.alloc (.cells #[.slice B3 l.length c3, .slice B4 (runP newM ops).1.stack.length c4, .slice B5 (runP newM ops).1.memo.length c5, .bool (runP newM ops).1.done] 64)) w.heap.size (.slice none 0 0) (.int .i64 0)) := ⟨((Ext.rf _).al _).blk (HXX.out.blk HB.out)⟩
      generalize (w2.alloc (.cells #[.slice B3 l.length c3, .slice B4 (runP newM ops).1.stack.length c4, .slice B5 (runP newM ops).1.memo.length c5, .bool (runP newM ops).1.done] 64)) = w3 at hm HX3 HB3 ⊢
      obtain ⟨g, hgg⟩ : ∃ g, g = w2.heap.size := ⟨_, rfl⟩
      rw [← hgg] at hm ⊢
      clear hgg HE2
      have HMB := As.mk hm
      clear hm HXX HE1 HB
      have m3 := MB.c3 HMB.out
      have b0 := gb_c0 HB3.out
      have b1 := gb_c1 HB3.out
      have f0 := gb_fz HB3.out 0
      have f1 := gb_fz HB3.out 1
      go_wp2_with fail
      refine bodyPost_ret (results_cellt rfl _ _ w.heap.size _ rfl (loadG (gb_all _ _ HB3.out))) rfl ?_
      exact ⟨rfl, noG_end HX3.out _ _ (Nat.le_refl _) HB3.out _ _⟩
    · have hn : (runP newM ops).2 = ops.length := by omega
      have HD := As.mk (HW.out hn)
      have HN := As.mk hn
      clear hn hge hle
      go_enter Try.func54, Try.ntmps54
      go_upto_region 3 with (go_at_call 76; refine (ValidOps_c _ _ _ _ (HR.out.ext ((Ext.rf _).al _))).mono ?_; rw [HV.out]; rintro e w1 ⟨rfl, he⟩; have HE := As.mk he; clear he)
      have HB : As (GB w1 w.heap.size (.slice none 0 0) (.int .i64 0)) := ⟨HE.out.blk HB0.out⟩
      have HE1 : As (Ext w w1) := ⟨HX0.out.trans HE.out⟩
      clear HE
      go_upto_region 4 with (go_at_call 77; refine (running_q BuildGraph1_e BuildGraph1_c _ _ _ _ (HR.out.ext HE1.out) HV.out).mono ?_; rw [HD.out, HN.out]; rintro e w2 ⟨l, vN, vS, vM, rfl, hmv, _, he⟩; obtain ⟨B3, c3, rfl, _, _⟩ := own_form hmv.nr.1; obtain ⟨B4, c4, rfl, _, _⟩ := own_form hmv.sr; obtain ⟨B5, c5, rfl, _, _⟩ := own_form hmv.me; have HMV := As.mk hmv; have HXX := As.mk he; have HE2 := As.mk (HE1.out.trans he); clear he hmv)
      have hm := al_new w2 (.cells #[.slice B3 l.length c3, .slice B4 (runP newM ops).1.stack.length c4, .slice B5 (runP newM ops).1.memo.length c5, .bool false] 64)
      have HX3 : As (Ext w (w2.alloc (.cells #[.slice B3 l.length c3, .slice B4 (runP newM ops).1.stack.length c4, .slice B5 (runP newM ops).1.memo.length c5, .bool false] 64))) := ⟨HE2.out.al _⟩
      have HB3 : As (GB (w2.alloc (.cells #[.slice B3 l.length c3, .slice B4 (runP newM ops).1.stack.length c4, .slice B5 (runP newM ops).1.memo.length c5, .bool false] 64)) w.heap.size (.slice none 0 0) (.int .i64 0)) := ⟨((Ext.rf _).al _).blk (HXX.out.blk HB.out)⟩
      generalize (w2.alloc (.cells #[.slice B3 l.length c3, .slice B4 (runP newM ops).1.stack.length c4, .slice B5 (runP newM ops).1.memo.length c5, .bool false] 64)) = w3 at hm HX3 HB3 ⊢
      obtain ⟨g, hgg⟩ : ∃ g, g = w2.heap.size := ⟨_, rfl⟩
      rw [← hgg] at hm ⊢
      clear hgg HE2
      have HMB := As.mk hm
      clear hm HXX HE1 HB
      have m3 := MB.c3 HMB.out
      have b0 := gb_c0 HB3.out
      have b1 := gb_c1 HB3.out
      have f0 := gb_fz HB3.out 0
      have f1 := gb_fz HB3.out 1
      go_wp2_with fail
      refine bodyPost_ret (results_cellt rfl _ _ w.heap.size _ rfl (loadG (gb_all _ _ HB3.out))) rfl ?_
      exact ⟨rfl, noG_end HX3.out _ _ (Nat.le_refl _) HB3.out _ _⟩
set_option maxRecDepth 100000 in
set_option maxHeartbeats 1000000 in
theorem BuildGraph_y (A : Option Addr) (c : Nat) (ops : List Opr) (w : World) (hr : RdO w A ops) (hw : whole ops = true) :
    Calls Try.prog 54 #[.slice A ops.length c] w fun e w' => ∃ l vN vS vM, e = .returned (.tuple #[.agg #[vN, .int .i64 (st (runP newM ops).1.stack 0)], .bool true]) ∧ MV w.heap.size w' l vN vS vM (runP newM ops).1 ∧ okM 100000 (runP newM ops).1 ∧ Ext w w' := by
  have hlen := hr.1
  have HR := As.mk hr
  clear hr
  have hB0 : GB (w.alloc (.cells #[.slice none 0 0, .int .i64 0] 58 (0, 0))) w.heap.size (.slice none 0 0) (.int .i64 0) := al_new _ _
  have HB0 := As.mk hB0
  have HX0 := As.mk ((Ext.rf w).al (.cells #[.slice none 0 0, .int .i64 0] 58 (0, 0)))
  clear hB0
  simp only [whole, Bool.and_eq_true, decide_eq_true_eq] at hw
  obtain ⟨hv, hn, hd⟩ := hw
  have HV := As.mk hv
  have HD := As.mk hd
  have HN := As.mk hn
  obtain ⟨s0, hs0⟩ : ∃ s0, s0 = st (runP newM ops).1.stack 0 := ⟨_, rfl⟩
  have HS : As ((runP newM ops).1.stack = [s0]) := ⟨by
    have h := (runP_one (vOps_all hv).1 hd).1
    rw [hs0]
    match hl : (runP newM ops).1.stack, h with
    | [a], _ => rfl⟩
  rw [← hs0]
  clear hs0 hv hn hd
  go_enter Try.func54, Try.ntmps54
  go_upto_region 3 with (go_at_call 76; refine (ValidOps_c _ _ _ _ (HR.out.ext ((Ext.rf _).al _))).mono ?_; rw [HV.out]; rintro e w1 ⟨rfl, he⟩; have HE := As.mk he; clear he)
  have HB : As (GB w1 w.heap.size (.slice none 0 0) (.int .i64 0)) := ⟨HE.out.blk HB0.out⟩
  have HE1 : As (Ext w w1) := ⟨HX0.out.trans HE.out⟩
  clear HE
  go_upto_region 4 with (go_at_call 77; refine (running_q BuildGraph1_e BuildGraph1_c _ _ _ _ (HR.out.ext HE1.out) HV.out).mono ?_; rw [HD.out, HN.out]; rintro e w2 ⟨l, vN, vS, vM, rfl, hmv, hok, he⟩; have HOK := As.mk hok; clear hok; obtain ⟨B3, c3, rfl, _, _⟩ := own_form hmv.nr.1; obtain ⟨B4, c4, rfl, _, hB4⟩ := own_form hmv.sr; obtain ⟨B5, c5, rfl, _, _⟩ := own_form hmv.me; have HMV := As.mk hmv; have HXX := As.mk he; have HE2 := As.mk (HE1.out.trans he); clear he hmv)
  have hst : ∃ gS, B4 = some ⟨gS, 0, none⟩ ∧ w2.cell? ⟨gS, 0, none⟩ = some (.int .i64 s0) := by
    obtain ⟨A', c', h1, h2, h3⟩ := HMV.out.sr.rd (by rw [HS.out]; simp)
    injection h1 with h1 _ _
    subst h1
    obtain ⟨ad, h4, h5⟩ := h3.2 0 (by rw [HS.out]; simp)
    obtain ⟨e1, e2, _⟩ := hB4 ad h4
    obtain ⟨gS, o, sp⟩ := ad
    simp only at e1 e2
    subst e1 e2
    refine ⟨gS, h4, ?_⟩
    simpa [HS.out, Addr.add] using h5
  clear hB4
  have hsl : (runP newM ops).1.stack.length = 1 := by rw [HS.out]; rfl
  have HMW : As (∃ vS vM, MV w1.heap.size w2 l (.slice B3 l.length c3) vS vM (runP newM ops).1) := ⟨⟨_, _, HMV.out⟩⟩
  rw [hsl]
  clear hsl HMV
  obtain ⟨gS, rfl, hst⟩ := hst
  have hx := Ext.al (Ext.rf w2) (.cells #[.slice B3 l.length c3, .slice (some ⟨gS, 0, none⟩) 1 c4, .slice B5 (runP newM ops).1.memo.length c5, .bool true] 64)
  have hm := al_new w2 (.cells #[.slice B3 l.length c3, .slice (some ⟨gS, 0, none⟩) 1 c4, .slice B5 (runP newM ops).1.memo.length c5, .bool true] 64)
  have HX3 : As (Ext w (w2.alloc (.cells #[.slice B3 l.length c3, .slice (some ⟨gS, 0, none⟩) 1 c4, .slice B5 (runP newM ops).1.memo.length c5, .bool true] 64))) := ⟨HE2.out.al _⟩
  have HB3 : As (GB (w2.alloc (.cells #[.slice B3 l.length c3, .slice (some ⟨gS, 0, none⟩) 1 c4, .slice B5 (runP newM ops).1.memo.length c5, .bool true] 64)) w.heap.size (.slice none 0 0) (.int .i64 0)) := ⟨((Ext.rf _).al _).blk (HXX.out.blk HB.out)⟩
  have hst3 := hx.cellOf hst
  have HMX := As.mk hx
  generalize (w2.alloc (.cells #[.slice B3 l.length c3, .slice (some ⟨gS, 0, none⟩) 1 c4, .slice B5 (runP newM ops).1.memo.length c5, .bool true] 64)) = w3 at hm HX3 HB3 hst3 HMX ⊢
  obtain ⟨g, hgg⟩ : ∃ g, g = w2.heap.size := ⟨_, rfl⟩
  rw [← hgg] at hm ⊢
  clear hgg hx hst
  have HMB := As.mk hm
  clear hm HXX
  have m3 := MB.c3 HMB.out
  go_upto_region 6 with fail
  have m0 := MB.c0 HMB.out
  have m1 := MB.c1 HMB.out
  refine region_perm (fun w' => w'.cell? ⟨g, 0, none⟩ = some (.slice B3 l.length c3) ∧ w'.cell? ⟨g, 1, none⟩ = some (.slice (some ⟨gS, 0, none⟩) 1 c4) ∧ w'.cell? ⟨gS, 0, none⟩ = some (.int .i64 s0)) [7] [(0, 0), (1, 1), (2, 0), (3, 1), (4, 0), (5, 1), (6, 0), (7, 3), (8, 0)] (by kernel_rfl) (by kernel_rfl) rfl (by kernel_rfl) (fun _ _ _ _ h => h) ?_
  have hS := And.intro m0 (And.intro m1 hst3)
  repeat (first | refine wpP.c0 (h := ?_) | refine wpP.c1 (w := w3.drew) hS (h := ?_))
  have HX4 : As (Ext w w3.drew) := ⟨HX3.out.dr⟩
  have HB4 : As (GB w3.drew w.heap.size (.slice none 0 0) (.int .i64 0)) := ⟨HB3.out⟩
  have HY4 : As (Ext w2 w3.drew) := ⟨HMX.out.dr⟩
  clear HX3 HB3 HMX HMB hst3 m0 m1 m3 hS
  generalize w3.drew = w4 at HX4 HB4 HY4 ⊢
  refine wpP.last (h := fun Kv hKv => ?_)
  have b0 := gb_c0 HB4.out
  have b1 := gb_c1 HB4.out
  have f0 := gb_fz HB4.out 0
  have f1 := gb_fz HB4.out 1
  go_wp2_with fail
  refine hKv.out _ _ ?_
  clear hKv Kv b0 b1 f0 f1
  repeat (first | refine wpP.c0 (h := ?_))
  refine wpP.done ?_
  go_wp2_with fail
  have hG := gb_all (.slice B3 l.length c3) (.int .i64 s0) HB4.out
  refine bodyPost_ret (results_cellt rfl _ _ w.heap.size _ rfl (loadG hG)) rfl ?_
  obtain ⟨vS, vM, hmv⟩ := HMW.out
  have hs5 : Fr (fun k => k = w.heap.size) w4 ((w4.setCell ⟨w.heap.size, 0, none⟩ (.slice B3 l.length c3)).setCell ⟨w.heap.size, 1, none⟩ (.int .i64 s0)) := (Fr.set (S := fun k => k = w.heap.size) w4 _ (p := ⟨w.heap.size, 0, none⟩) rfl).trans (Fr.set (S := fun k => k = w.heap.size) _ _ (p := ⟨w.heap.size, 1, none⟩) rfl)
  have hlt := HE1.out.size
  have hlt2 : w.heap.size < w1.heap.size := (Array.getElem?_eq_some_iff.1 HB.out).1
  exact ⟨l, _, _, _, rfl, ((hmv.ext HY4.out).fr hs5 (fun k hk e => by omega)).low HE1.out.size, HOK.out, noG_end HX4.out _ _ (Nat.le_refl _) HB4.out _ _⟩
theorem IsWhole_c (A : Option Addr) (c : Nat) (ops : List Opr) (w : World) (hr : RdO w A ops) :
    Calls Try.prog 25 #[.slice A ops.length c] w fun e w' => e = .returned (.bool (whole ops)) ∧ Ext w w' := by
  have hlen := hr.1
  have HR := As.mk hr
  clear hr
  cases hw : whole ops with
  | false =>
    have HW := As.mk hw
    clear hw
    go_enter Try.func25, Try.ntmps25
    go_wp2_with (go_at_call 54; refine (BuildGraph_n _ _ _ _ HR.out HW.out).mono ?_; rintro e w1 ⟨rfl, he⟩; have HE := As.mk he; clear he; unfold noG)
    go_ret
    exact ⟨rfl, HE.out.al _⟩
  | true =>
    have HW := As.mk hw
    clear hw
    go_enter Try.func25, Try.ntmps25
    go_wp2_with (go_at_call 54; refine (BuildGraph_y _ _ _ _ HR.out HW.out).mono ?_; rintro e w1 ⟨l, vN, vS, vM, rfl, hmv, _, he⟩; obtain ⟨B3, c3, rfl, _, _⟩ := own_form hmv.nr.1; have HE := As.mk he; clear he hmv)
    go_ret
    exact ⟨rfl, HE.out.al _⟩
end Go.Proofs.Ytcodbpjaamggeaa.C
