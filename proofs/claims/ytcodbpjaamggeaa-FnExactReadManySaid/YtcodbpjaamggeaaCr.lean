/- Callers of running whose callback does nothing. -/
import Derived.Test.YtcodbpjaamggeaaCq
set_option linter.unusedVariables false
set_option linter.unusedSimpArgs false
namespace Go.Proofs.Ytcodbpjaamggeaa.C
open Go.RowKit Go.Proofs.Ytcodbpjaamggeaa.W Go.Proofs.Ytcodbpjaamggeaa.P

/-- A callback that does nothing. -/
theorem cb_noop {F : FuncId} (base : Nat) (he : ∀ args w, (callFunc F args).run Try.prog w = .ok (.enter F args) w) (hc : ∀ vN vS vM d w, Calls Try.prog F #[.agg #[vN, vS, vM, .bool d]] w fun e w' => (∃ v, e = .returned v) ∧ Ext w w') :
    CB F #[] base (fun _ => False) (fun _ _ _ => True) :=
  ⟨he, fun _ _ _ _ _ _ => trivial, fun ms w B g l vN vS vM m hm _ _ _ _ => (hc vN vS vM m.done w).mono (fun e w' h => ⟨h.1, B, trivial, hm.ext h.2, fun _ h => h, Fr.ofExt h.2⟩)⟩
theorem FirstBad1_c (vN vS vM : Value) (d : Bool) (w : World) : Calls Try.prog 78 #[.agg #[vN, vS, vM, .bool d]] w fun e w' => (∃ v, e = .returned v) ∧ Ext w w' := by
  go_enter Try.func78, Try.ntmps78
  go_wp2_with fail
  go_end0
  exact ⟨⟨_, rfl⟩, (Ext.rf w).al _⟩
theorem call_enter {F : FuncId} {fn : Func} (hf : Try.prog.funcs[F]? = some fn) (h1 : (fn.name == "runtime.NumGoroutine") = false) (h2 : fn.body.isNone = false) (args : Array Value) (w : World) : (callFunc F args).run Try.prog w = .ok (.enter F args) w := by
  have h3 : ¬ fn.name = "runtime.NumGoroutine" := by simpa using h1
  have h4 : ¬ fn.body = none := fun e => by rw [e] at h2; exact nomatch h2
  simp [callFunc, go_sem, hf, h3, h4]
theorem FirstBad1_e (args : Array Value) (w : World) : (callFunc 78 args).run Try.prog w = .ok (.enter 78 args) w :=
  call_enter Try.func78 (by kernel_rfl) (by kernel_rfl) args w

/-- The count of the orders that are possible, as running returns it where nothing is called. -/
theorem running_q {F : FuncId} (he : ∀ args w, (callFunc F args).run Try.prog w = .ok (.enter F args) w) (hc : ∀ vN vS vM d w, Calls Try.prog F #[.agg #[vN, vS, vM, .bool d]] w fun e w' => (∃ v, e = .returned v) ∧ Ext w w')
    (A : Option Addr) (c : Nat) (ops : List Opr) (w : World) (hr : RdO w A ops) (hops : vOps ops = true) :
    Calls Try.prog 77 #[.slice A ops.length c, .func (.func F) #[] #[]] w fun e w' => ∃ l vN vS vM, e = .returned (.tuple #[.agg #[vN, vS, vM, .bool (runP newM ops).1.done], .int .i64 (runP newM ops).2]) ∧
      MV w.heap.size w' l vN vS vM (runP newM ops).1 ∧ okM 100000 (runP newM ops).1 ∧ Ext w w' := by
  simp only [vOps, Bool.and_eq_true, decide_eq_true_eq] at hops
  refine (running_c w (cb_noop w.heap.size he hc) A c ops hr hops.1 hops.2 (fun _ _ h => h) (fun h => h) (fun _ _ => trivial)).mono ?_
  rintro e w' ⟨l, vN, vS, vM, B, rfl, h1, h2, _, h3⟩
  exact ⟨l, vN, vS, vM, rfl, h1, h2, h3.ext (fun i hi => hi.elim False.elim id)⟩

def firstBad (ops : List Opr) : Int := if vOps ops = true then (if (runP newM ops).2 = ops.length then -1 else ((runP newM ops).2 : Int)) else -2
theorem FirstBad_c (A : Option Addr) (c : Nat) (ops : List Opr) (w : World) (hr : RdO w A ops) :
    Calls Try.prog 22 #[.slice A ops.length c] w fun e w' => e = .returned (.int .i64 (firstBad ops)) ∧ Ext w w' := by
  have HR := As.mk hr
  clear hr
  cases hv : vOps ops with
  | false =>
    have hb : firstBad ops = -2 := by simp [firstBad, hv]
    have HV := As.mk hv
    have HB := As.mk hb
    clear hv hb
    go_enter Try.func22, Try.ntmps22
    go_wp2_with (go_at_call 76; refine (ValidOps_c _ _ _ _ HR.out).mono ?_; rw [HV.out]; rintro e w1 ⟨rfl, he⟩; have HE := As.mk he; clear he)
    go_ret
    exact ⟨by rw [HB.out]; rfl, HE.out⟩
  | true =>
    have HV := As.mk hv
    clear hv
    have hl : ops.length ≤ 300 := by have := HV.out; simp [vOps] at this; exact this.2
    have arm : True := trivial
    rcases bceq ((runP newM ops).2 : Int) ops.length with hn | hn
    · have hb : firstBad ops = -1 := by simp [firstBad, HV.out]; omega
      have HB := As.mk hb
      clear hb
      go_enter Try.func22, Try.ntmps22
      go_wp2_with (first | (go_at_call 76; refine (ValidOps_c _ _ _ _ HR.out).mono ?_; rw [HV.out]; rintro e w1 ⟨rfl, he⟩; have HE := As.mk he; clear he) | (go_at_call 77; refine (running_q FirstBad1_e FirstBad1_c _ _ _ _ (HR.out.ext HE.out) HV.out).mono ?_; rintro e w2 ⟨l, vN, vS, vM, rfl, hmv, _, he⟩; obtain ⟨B3, c3, rfl, _, _⟩ := own_form hmv.nr.1; obtain ⟨B4, c4, rfl, _, _⟩ := own_form hmv.sr; obtain ⟨B5, c5, rfl, _, _⟩ := own_form hmv.me; have HE2 := As.mk (HE.out.trans he); clear he hmv))
      go_ret
      exact ⟨by rw [HB.out]; rfl, HE2.out.al _⟩
    · have hb : firstBad ops = (runP newM ops).2 := by simp at hn; simp [firstBad, HV.out]; omega
      have HB := As.mk hb
      clear hb
      go_enter Try.func22, Try.ntmps22
      go_wp2_with (first | (go_at_call 76; refine (ValidOps_c _ _ _ _ HR.out).mono ?_; rw [HV.out]; rintro e w1 ⟨rfl, he⟩; have HE := As.mk he; clear he) | (go_at_call 77; refine (running_q FirstBad1_e FirstBad1_c _ _ _ _ (HR.out.ext HE.out) HV.out).mono ?_; rintro e w2 ⟨l, vN, vS, vM, rfl, hmv, _, he⟩; obtain ⟨B3, c3, rfl, _, _⟩ := own_form hmv.nr.1; obtain ⟨B4, c4, rfl, _, _⟩ := own_form hmv.sr; obtain ⟨B5, c5, rfl, _, _⟩ := own_form hmv.me; have HE2 := As.mk (HE.out.trans he); clear he hmv))
      go_ret
      exact ⟨by rw [HB.out]; rfl, HE2.out.al _⟩
end Go.Proofs.Ytcodbpjaamggeaa.C
