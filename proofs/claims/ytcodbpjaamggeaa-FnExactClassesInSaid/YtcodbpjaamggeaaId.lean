/- MarksOf: how many marks lie on the stack after each order. -/
import Derived.Test.YtcodbpjaamggeaaIc
set_option linter.unusedVariables false
set_option linter.unusedSimpArgs false
namespace Go.Proofs.Ytcodbpjaamggeaa.C
open Go.RowKit Go.Proofs.Ytcodbpjaamggeaa.W Go.Proofs.Ytcodbpjaamggeaa.P

/-- How many are below zero. -/
def cntN (l : List Int) : Nat := (l.filter (fun x => decide (x < 0))).length
theorem cntN_le (l : List Int) : cntN l ≤ l.length := List.length_filter_le _ _
theorem cntN_nil : cntN [] = 0 := rfl
theorem cntN_y (l : List Int) (k : Nat) (h : k < l.length) (hx : l[k] < 0) : cntN (l.take (k + 1)) = cntN (l.take k) + 1 := by
  rw [List.take_succ_eq_append_getElem h]
  unfold cntN
  rw [List.filter_append, List.length_append, List.filter_cons_of_pos (by simpa using hx)]
  rfl
theorem cntN_n (l : List Int) (k : Nat) (h : k < l.length) (hx : ¬ l[k] < 0) : cntN (l.take (k + 1)) = cntN (l.take k) := by
  rw [List.take_succ_eq_append_getElem h]
  unfold cntN
  rw [List.filter_append, List.length_append, List.filter_cons_of_neg (by simpa using hx)]
  rfl
set_option maxRecDepth 100000 in
theorem marks_c (vN vM : Value) (A : Option Addr) (c : Nat) (l : List Int) (d : Bool) (w : World) (hr : RdI w A l) :
    Calls Try.prog 84 #[.agg #[vN, .slice A l.length c, vM, .bool d]] w fun e w' => e = .returned (.int .i64 (cntN l)) ∧ Ext w w' := by
  have hlen := hr.1
  have HR := As.mk hr
  clear hr
  go_enter Try.func84, Try.ntmps84
  go_upto_region 1 with fail
  have hm := al_new w (.cells #[vN, .slice A l.length c, vM, .bool d] 64)
  have hx := Ext.al (Ext.rf w) (.cells #[vN, .slice A l.length c, vM, .bool d] 64)
  generalize w.alloc (.cells #[vN, .slice A l.length c, vM, .bool d] 64) = w1 at hm hx ⊢
  generalize w.heap.size = gM at hm ⊢
  have m1 := MB.c1 hm
  have HX := As.mk hx
  clear hx hm
  go_wp2_with fail
  go_loopw [3, 9] (fun s i wr => ∃ k : Nat, k ≤ l.length ∧ i = .int .i64 k ∧ s = .int .i64 (cntN (l.take k)) ∧ As (Ext w wr)) (fun _ i _ => l.length - (intOf i).toNat)
  case atStart => exact ⟨0, Nat.zero_le _, rfl, rfl, HX⟩
  case round =>
    obtain ⟨k, hk, rfl, rfl, HE⟩ := hrel
    obtain ⟨q, hq⟩ : ∃ q, q = cntN (l.take k) := ⟨_, rfl⟩
    have hqk : q ≤ k := by rw [hq]; have := cntN_le (l.take k); simp at this; omega
    rw [← hq]
    by_cases hlt : k < l.length
    · obtain ⟨ad, rfl, c1⟩ := (HR.out.ext HE.out).2 k hlt
      obtain ⟨x, hx⟩ : ∃ x, x = l[k] := ⟨_, rfl⟩
      rw [← hx] at c1
      have HQ := As.mk hq
      have HXX := As.mk hx
      have q1 : (k : Int) < l.length := by omega
      by_cases hneg : x < 0
      · have HN := As.mk (cntN_y l k hlt (by rw [← HXX.out]; exact hneg))
        clear hq hx
        go_wp2_with fail
        go_roundw
        case measure => simp only [intOf]; omega
        case rel => exact ⟨k + 1, by omega, by go_num, by rw [HN.out, ← HQ.out]; go_num, HE⟩
      · have HN := As.mk (cntN_n l k hlt (by rw [← HXX.out]; exact hneg))
        clear hq hx
        go_wp2_with fail
        go_roundw
        case measure => simp only [intOf]; omega
        case rel => exact ⟨k + 1, by omega, by go_num, by rw [HN.out, ← HQ.out], HE⟩
    · have hkl : k = l.length := by omega
      subst hkl
      have HQ := As.mk hq
      clear hq
      go_wp2_with fail
      go_ret
      exact ⟨by have := HQ.out; rw [List.take_length] at this; rw [← this]; rfl, HE.out⟩
theorem Marks1_c {gO : Nat} (v : Value) (ds : List Int) (vN vM : Value) (S : Option Addr) (st : List Int) (cS : Nat) (d : Bool) (w : World) (hb : VB w gO v) (hi : IR w v ds) (hl : ds.length ≤ 1000000) (hs : RdI w S st) :
    Calls Try.prog 83 #[.agg #[vN, .slice S st.length cS, vM, .bool d], .pointer (some ⟨gO, 0, none⟩)] w (Push gO v ds (cntN st) w) := by
  have HB := As.mk hb
  have HI := As.mk hi
  have HS := As.mk hs
  obtain ⟨Av, cv, rfl, _, _⟩ := own_form hi
  clear hb hi hs
  go_enter Try.func83, Try.ntmps83
  go_upto_region 1 with fail
  have hm := al_new w (.cells #[vN, .slice S st.length cS, vM, .bool d] 64)
  have hx := Ext.al (Ext.rf w) (.cells #[vN, .slice S st.length cS, vM, .bool d] 64)
  generalize w.alloc (.cells #[vN, .slice S st.length cS, vM, .bool d] 64) = w1 at hm hx ⊢
  generalize w.heap.size = gM at hm ⊢
  have c0 := vb_c0 (show VB w1 gO _ from hx.blk HB.out)
  have m0 := MB.c0 hm
  have m1 := MB.c1 hm
  have m2 := MB.c2 hm
  have m3 := MB.c3 hm
  have HX := As.mk hx
  have HM := As.mk hm
  clear hx hm
  refine region_perm (fun w' => w'.cell? ⟨gO, 0, none⟩ = some (.slice Av ds.length cv) ∧ w'.cell? ⟨gM, 0, none⟩ = some vN ∧ w'.cell? ⟨gM, 1, none⟩ = some (.slice S st.length cS) ∧ w'.cell? ⟨gM, 2, none⟩ = some vM ∧ w'.cell? ⟨gM, 3, none⟩ = some (.bool d)) [5] [(0, 1), (1, 1), (2, 2), (3, 2), (4, 2), (5, 3)] (by kernel_rfl) (by kernel_rfl) rfl (by kernel_rfl) (fun _ _ _ _ h => h) ?_
  have hS := And.intro c0 (And.intro m0 (And.intro m1 (And.intro m2 m3)))
  repeat (first | refine wpP.c0 (h := ?_) | refine wpP.c1 (w := w1.drew) hS (h := ?_))
  have HD : As (Ext w1 w1.drew) := ⟨(Ext.rf _).dr⟩
  generalize w1.drew = w2 at HD ⊢
  refine wpP.ev (h := fun Kv hKv => ?_)
  go_wp2_with (go_at_call 84; refine (marks_c _ _ _ _ _ _ _ ((HS.out.ext HX.out).ext HD.out)).mono ?_; rintro e w3 ⟨rfl, he⟩; have HE := As.mk (HD.out.trans he); clear he)
  refine hKv.out _ _ ⟨HE.out.cellOf c0, HE.out.cellOf m0, HE.out.cellOf m1, HE.out.cellOf m2, HE.out.cellOf m3⟩ ?_
  clear hKv Kv
  refine wpP.ev (h := fun Kv hKv => ?_)
  go_wp2_with fail
  have HE3 := HE.out.al (.cells #[.int .i64 (cntN st)] 3)
  refine hKv.out _ _ ⟨HE3.cellOf c0, HE3.cellOf m0, HE3.cellOf m1, HE3.cellOf m2, HE3.cellOf m3⟩ ?_
  clear hKv Kv HE3
  refine wpP.ev (h := fun Kv hKv => ?_)
  go_wp2_with ((at_builtin; refine app_int rfl _ _ rfl (.slice Av ds.length cv) ds (cntN st) rfl rfl ((HI.out.ext HX.out).ext HE.out) (by omega) ?_; intro gS cS2 w4 hap; have HL := As.mk hap; clear hap))
  have hb4 : VB w4 gO (.slice Av ds.length cv) := HL.out.2.1.blk ((HX.out.trans HE.out).blk HB.out) (fun e => own_ne_blk HI.out HB.out (by decide) e)
  have hm4 : MB w4 gM _ _ _ _ := HL.out.2.1.blk (HE.out.blk HM.out) (fun e => own_ne_blk (HI.out.ext HX.out) HM.out (by decide) e)
  refine hKv.out _ _ ⟨vb_c0 hb4, MB.c0 hm4, MB.c1 hm4, MB.c2 hm4, MB.c3 hm4⟩ ?_
  clear hKv Kv hm4 c0 m0 m1 m2 m3
  refine wpP.last (h := fun Kv hKv => ?_)
  have e0 := vb_c0 hb4
  have f0 := vb_fz hb4 0
  clear hb4
  go_wp2_with fail
  refine hKv.out _ _ (wpP.done ?_)
  clear hKv Kv
  go_wp2_with fail
  go_end0
  exact push_end HB.out HI.out (HX.out.trans HE.out) HL.out _
theorem Marks1_e (args : Array Value) (w : World) : (callFunc 83 args).run Try.prog w = .ok (.enter 83 args) w :=
  call_enter Try.func83 (by kernel_rfl) (by kernel_rfl) args w
def markF (m : Mc) : Int := cntN m.stack
theorem cb_marks {gO base : Nat} {D : Nat → Prop} (hD : D gO) : CB 83 #[.pointer (some ⟨gO, 0, none⟩)] base D (JO gO base D markF) := by
  refine cb_push Marks1_e hD ?_
  intro B g l vN vS vM m w v ds hm hok hb hi hl
  have hsl : m.stack.length ≤ 100000 := by have := hok.sl; omega
  obtain ⟨AS, cS, rfl, _, hrd⟩ := hm.rdS (by omega)
  exact Marks1_c v ds vN vM AS m.stack cS m.done w hb hi (by omega) hrd
theorem MarksOf_c (A : Option Addr) (c : Nat) (ops : List Opr) (w : World) (hr : RdO w A ops) (hA : ∀ ad, A = some ad → ad.block < w.heap.size) :
    Calls Try.prog 36 #[.slice A ops.length c] w (ClonePost (tellOf markF ops) w) := by
  have hlen := hr.1
  have HR := As.mk hr
  have HA := As.mk hA
  clear hr hA
  cases hv : vOps ops with
  | false =>
    have HB : As (tellOf markF ops = []) := ⟨by simp [tellOf, hv]⟩
    have HV := As.mk hv
    clear hv
    go_enter Try.func36, Try.ntmps36
    go_wp2_with (go_at_call 76; refine (ValidOps_c _ _ _ _ HR.out).mono ?_; rw [HV.out]; rintro e w1 ⟨rfl, he⟩; have HE := As.mk he; clear he)
    go_ret
    rw [HB.out]
    exact ⟨none, 0, rfl, IR.nil _, HE.out, by simp [Fresh, Value.ownBlock]⟩
  | true =>
    have HV := As.mk hv
    have HB : As (tellOf markF ops = (trace newM ops).map markF) := ⟨by simp [tellOf, hv]⟩
    have HVV := As.mk (vOps_all hv)
    clear hv
    go_enter Try.func36, Try.ntmps36
    go_upto_region 4 with (go_at_call 76; refine (ValidOps_c _ _ _ _ HR.out).mono ?_; rw [HV.out]; rintro e w1 ⟨rfl, he⟩; have HE := As.mk he; clear he)
    have HI : As (Init w w1 ((w1.alloc (.cells #[] 3)).alloc (.cells #[.slice (some ⟨w1.heap.size, 0, none⟩) 0 0] 32)) (w1.heap.size + 1)) := ⟨init_of HE.out⟩
    generalize ((w1.alloc (.cells #[] 3)).alloc (.cells #[.slice (some ⟨w1.heap.size, 0, none⟩) 0 0] 32)) = w2 at HI ⊢
    obtain ⟨gO, hgO⟩ : ∃ gO, gO = w1.heap.size + 1 := ⟨_, rfl⟩
    rw [← hgO] at HI ⊢
    clear hgO
    go_upto_region 5 with (go_at_call 77; refine (running_c (D := fun k => k = gO ∨ k = w1.heap.size) w2 (cb_marks (.inl rfl)) _ _ _ (HR.out.ext HI.out.e) HVV.out.1 HVV.out.2 (fun ad h => HI.out.far (HA.out ad h)) HI.out.nd (fun w' he => HI.out.start markF he)).mono ?_; rintro e w3 ⟨l, vN, vS, vM, B, rfl, hmv, _, hj, hf⟩; obtain ⟨B3, c3, rfl, _, _⟩ := own_form hmv.nr.1; obtain ⟨B4, c4, rfl, _, _⟩ := own_form hmv.sr; obtain ⟨B5, c5, rfl, _, _⟩ := own_form hmv.me; have HJ := As.mk (HI.out.fin hj hf); clear hmv hj hf)
    obtain ⟨v, hb, hi, he, hfr⟩ := HJ.out
    have c0 := vb_c0 hb
    obtain ⟨Av, cv, rfl, _, _⟩ := own_form hi
    have HP := As.mk (And.intro hi (And.intro he hfr))
    clear HJ hb hi he hfr
    go_wp2_with fail
    go_ret
    rw [HB.out]
    exact ⟨Av, cv, by rw [List.length_map]; rfl, HP.out⟩
end Go.Proofs.Ytcodbpjaamggeaa.C
