/- SafeRun, both sides. -/
import Derived.Test.YtcodbpjaamggeaaJc
import Derived.Test.YtcodbpjaamggeaaIg
set_option linter.unusedVariables false
set_option linter.unusedSimpArgs false
namespace Go.Proofs.Ytcodbpjaamggeaa.C
open Go.RowKit Go.Proofs.Ytcodbpjaamggeaa.W Go.Proofs.Ytcodbpjaamggeaa.P

/-- A machine in a variable; its blocks lie above lo. -/
structure MI (w W : World) (lo g Bd : Nat) (m : Mc) : Prop where
  mm : ∃ (l : List (Nd × Value)) (vN vS vM : Value), MR (fun j => lo < j) W g l vN vS vM m
  ok : okM Bd m
  e : Ext w W
  lo : w.heap.size ≤ lo
theorem MI.ext {w W W' lo g Bd m} (h : MI w W lo g Bd m) (e : Ext W W') : MI w W' lo g Bd m := by
  obtain ⟨l, vN, vS, vM, h1⟩ := h.mm
  exact ⟨⟨l, vN, vS, vM, h1.ext e⟩, h.ok, h.e.trans e, h.lo⟩
theorem MI.step {w W lo g Bd m} (h : MI w W lo g Bd m) (hBd : Bd ≤ 2000000) (o : Opr) (ho : okO o = true) :
    Calls Try.prog 91 #[.pointer (some ⟨g, 0, none⟩), .agg #[.int .i64 o.code, .int .i64 o.arg]] W fun e W' => e = .returned (.bool (stepP m o).isSome) ∧ MI w W' lo g (Bd + 301) ((stepP m o).getD m) ∧ Fr (fun j => lo < j) W W' := by
  obtain ⟨l, vN, vS, vM, h1⟩ := h.mm
  refine (step_m h1 h.ok hBd o ho).mono ?_
  rintro e W' ⟨k1, k2, l', vN', vS', k3⟩
  have hlo := h.lo
  refine ⟨k1, ⟨⟨l', vN', vS', vM, k3⟩, ?_, (Fr.then (S := fun _ => False) (Fr.ofExt h.e) k2 (fun k hk => .inr (by omega))).ext (fun _ h => h.elim), h.lo⟩, k2⟩
  cases hs : stepP m o with
  | none => exact h.ok.mono (by omega)
  | some m' => exact okM_step h.ok ho hs
theorem MR.base {B B' : Nat → Prop} {w g l vN vS vM m} (h : MR B w g l vN vS vM m) (h1 : ∀ k, Foot g l vN vS vM k → B' k) (h2 : ∀ k, w.heap.size ≤ k → B' k) : MR B' w g l vN vS vM m :=
  ⟨h.mb, h.nr, h.ns, h.sr, h.me, h1, h.kk, h.ks, h.km, h.sm, h2⟩
theorem MI.glt {w W lo g Bd m} (h : MI w W lo g Bd m) : lo < g ∧ g < W.heap.size := by
  obtain ⟨l, vN, vS, vM, h1⟩ := h.mm
  exact ⟨h1.lo g (.inl rfl), h1.foot_lt g (.inl rfl)⟩
/-- The order lies in a box of its own. -/
theorem MI.stepB {w W lo g Bd m} (h : MI w W lo g Bd m) (hBd : Bd ≤ 2000000) (o : Opr) (ho : okO o = true) (ob : Obj) :
    Calls Try.prog 91 #[.pointer (some ⟨g, 0, none⟩), .agg #[.int .i64 o.code, .int .i64 o.arg]] (W.alloc ob) fun e W' => e = .returned (.bool (stepP m o).isSome) ∧ MI w W' lo g (Bd + 301) ((stepP m o).getD m) ∧ Fr (fun j => lo < j ∧ j ≠ W.heap.size) (W.alloc ob) W' := by
  obtain ⟨l, vN, vS, vM, h1⟩ := h.mm
  have hgl := h.glt
  have hx : MR (fun j => lo < j ∧ j ≠ W.heap.size) (W.alloc ob) g l vN vS vM m := (h1.ext ((Ext.rf _).al _)).base (fun k hk => ⟨h1.lo k hk, fun e => by have := h1.foot_lt k hk; omega⟩) (fun k hk => by rw [al_size] at hk; exact ⟨by omega, by omega⟩)
  refine (step_m hx h.ok hBd o ho).mono ?_
  rintro e W' ⟨k1, k2, l', vN', vS', k3⟩
  have hlo := h.lo
  have hsz := k2.size
  rw [al_size] at hsz
  refine ⟨k1, ⟨⟨l', vN', vS', vM, k3.base (fun k hk => (k3.lo k hk).1) (fun k hk => by omega)⟩, ?_, (Fr.then (S := fun _ => False) (Fr.ofExt (h.e.al _)) k2 (fun k hk => .inr (by omega))).ext (fun _ h => h.elim), h.lo⟩, k2⟩
  cases hs : stepP m o with
  | none => exact h.ok.mono (by omega)
  | some m' => exact okM_step h.ok ho hs
theorem MI.cells {w W lo g Bd m} (h : MI w W lo g Bd m) : ∃ AN cN AS cS AM cM, W.cell? ⟨g, 0, none⟩ = some (.slice AN m.nodes.length cN) ∧ W.cell? ⟨g, 1, none⟩ = some (.slice AS m.stack.length cS) ∧ W.cell? ⟨g, 2, none⟩ = some (.slice AM m.memo.length cM) ∧ W.cell? ⟨g, 3, none⟩ = some (.bool m.done) ∧ RM W AN AS AM m := by
  obtain ⟨l, vN, vS, vM, h1⟩ := h.mm
  obtain ⟨AN, cN, AS, cS, AM, cM, rfl, rfl, rfl, hr⟩ := h1.rm (by have := h.ok.nl; omega) (by have := h.ok.sl; omega) (by have := h.ok.ml; omega)
  exact ⟨AN, cN, AS, cS, AM, cM, MB.c0 h1.mb, MB.c1 h1.mb, MB.c2 h1.mb, MB.c3 h1.mb, hr⟩
theorem MI.new {w W : World} {lo gM : Nat} (hI : IR W (.slice (some ⟨gM, 0, none⟩) 20 20) newM.memo) (hg : lo < gM) (e : Ext w W) (hlo : w.heap.size ≤ lo) (hls : lo < W.heap.size) :
    MI w (W.alloc (.cells #[.slice none 0 0, .slice none 0 0, .slice (some ⟨gM, 0, none⟩) 20 20, .bool false] 64)) lo W.heap.size 0 newM := by
  refine ⟨⟨[], .slice none 0 0, .slice none 0 0, .slice (some ⟨gM, 0, none⟩) 20 20, ?_⟩, okM_new, e.al _, hlo⟩
  refine ⟨al_new _ _, NR.nil _, rfl, IR.nil _, hI.ext ((Ext.rf _).al _), fun j hj => ?_, List.Pairwise.nil, by simp, by simp, fun j hj => by simp [Value.ownBlock] at hj, fun j hj => by rw [al_size] at hj; show lo < j; omega⟩
  rcases hj with e | e | e | e | ⟨p, hp, e⟩
  · show lo < j; omega
  · simp [Value.ownBlock] at e
  · simp [Value.ownBlock] at e
  · have e : gM = j := by injection e
    show lo < j; omega
  · simp at hp
/-- What impl.SafeRun keeps. -/
def SafeMAt (r : Rl) (A : Option Addr) (c : Nat) (ops : List Opr) (w : World) (gr g : Nat) (k : Nat) (wr : World) : Prop := ∃ m, SafeAt r ops k m ∧ MI w wr gr g (301 * k) m ∧ RuB wr gr r A c
theorem why_5 {r : Rl} {oc oa : Int} {nn ns : Nat} {d : Int} (h1 : d ≤ r.steps) (h2 : ¬ (oc = 13 ∧ r.cls.contains oa = false)) (h3 : (nn : Int) ≤ r.nodes) : why r ⟨oc, oa⟩ nn ns d = if r.deep < ns then 5 else 0 := by
  unfold why
  rw [if_neg (by omega), if_neg h2, if_neg (by omega)]
set_option maxRecDepth 100000 in
set_option maxHeartbeats 2000000 in
theorem SafeRun_c (ad : Addr) (c0 : Nat) (ops : List Opr) (A : Option Addr) (c : Nat) (r : Rl) (w : World) (hr : RdO w (some ad) ops) (hcl : RdI w A r.cls) (hc : r.cls.length ≤ c) :
    Calls Try.prog 46 #[.slice (some ad) ops.length c0, .agg #[.int .i64 r.steps, .int .i64 r.nodes, .int .i64 r.deep, .slice A r.cls.length c]] w fun e w' => e = .returned (.tuple #[.int .i64 (safeR ops r).1, .int .i64 (safeR ops r).2]) ∧ Ext w w' := by
  have hlen := hr.1
  have HR := As.mk hr
  have HCL := As.mk hcl
  have HC := As.mk hc
  clear hr hcl hc
  go_enter Try.func46, Try.ntmps46
  go_upto_region 1 with fail
  have hb := al_new w (.cells #[.int .i64 r.steps, .int .i64 r.nodes, .int .i64 r.deep, .slice A r.cls.length c] 45)
  have HE1 := As.mk ((Ext.rf w).al (.cells #[.int .i64 r.steps, .int .i64 r.nodes, .int .i64 r.deep, .slice A r.cls.length c] 45))
  have hgr : w.heap.size < (w.alloc (.cells #[.int .i64 r.steps, .int .i64 r.nodes, .int .i64 r.deep, .slice A r.cls.length c] 45)).heap.size := by rw [al_size]; omega
  generalize w.alloc (.cells #[.int .i64 r.steps, .int .i64 r.nodes, .int .i64 r.deep, .slice A r.cls.length c] 45) = w0 at hb HE1 hgr ⊢
  obtain ⟨gr, hgre⟩ : ∃ gr, gr = w.heap.size := ⟨_, rfl⟩
  rw [← hgre] at hb hgr ⊢
  have hgr0 : w.heap.size ≤ gr := by omega
  have HB := As.mk hb
  clear hgre
  have b0 := RuB.c0 hb; have b1 := RuB.c1 hb; have b2 := RuB.c2 hb; have b3 := RuB.c3 hb
  clear hb
  cases hv : vOps ops with
  | false =>
    have HS : As (safeR ops r = (-1, -1)) := ⟨by unfold safeR; rw [if_neg (by rw [hv]; simp)]⟩
    have HV := As.mk hv
    clear hv
    go_wp2_with (go_at_call 76; refine (ValidOps_c _ _ _ _ (HR.out.ext HE1.out)).mono ?_; rw [HV.out]; rintro e w1 ⟨rfl, he⟩; have HE := As.mk he; clear he)
    go_ret2
    rw [HS.out]
    exact ⟨rfl, HE1.out.trans HE.out⟩
  | true =>
    have HV := As.mk hv
    clear hv
    cases hvr : vRules r with
    | false =>
      have HS : As (safeR ops r = (-1, -1)) := ⟨by unfold safeR; rw [if_neg (by rw [hvr]; simp)]⟩
      have HVR := As.mk hvr
      clear hvr
      go_wp2_with (first | (go_at_call 76; refine (ValidOps_c _ _ _ _ (HR.out.ext HE1.out)).mono ?_; rw [HV.out]; rintro e w1 ⟨rfl, he⟩; have HE := As.mk he; have b0 := he.cellOf b0; have b1 := he.cellOf b1; have b2 := he.cellOf b2; have b3 := he.cellOf b3; clear he) | (go_at_call 100; refine (ValidRules_c _ _ _ _ (HCL.out.ext (HE1.out.trans HE.out)) HC.out).mono ?_; rw [HVR.out]; rintro e w2 ⟨rfl, he⟩; have HE2 := As.mk he; clear he))
      go_ret2
      rw [HS.out]
      exact ⟨rfl, HE1.out.trans (HE.out.trans HE2.out)⟩
    | true =>
      have HS : As (safeR ops r = (((safeP r newM 0 ops).1 : Int), (safeP r newM 0 ops).2)) := ⟨by unfold safeR; rw [if_pos ⟨HV.out, hvr⟩]⟩
      have HVR := As.mk hvr
      have HALL := As.mk (vOps_all HV.out)
      clear hvr
      go_upto_region 3 with (first | (go_at_call 76; refine (ValidOps_c _ _ _ _ (HR.out.ext HE1.out)).mono ?_; rw [HV.out]; rintro e w1 ⟨rfl, he⟩; have HE := As.mk he; have b0 := he.cellOf b0; have b1 := he.cellOf b1; have b2 := he.cellOf b2; have b3 := he.cellOf b3; clear he) | (go_at_call 100; refine (ValidRules_c _ _ _ _ (HCL.out.ext (HE1.out.trans HE.out)) HC.out).mono ?_; rw [HVR.out]; rintro e w2 ⟨rfl, he⟩; have HE2 := As.mk (HE1.out.trans (HE.out.trans he)); have HX2 := As.mk (HE.out.trans he); clear he))
      have HB2 := As.mk (HX2.out.blk HB.out)
      have hgr2 : gr < w2.heap.size := by have := HX2.out.size; omega
      clear b0 b1 b2 b3 HB HE1 HE HX2 hgr
      go_upto_region 4 with (go_at_call 90; refine (NewMachine_c _).mono ?_; rintro e w3 ⟨gM, rfl, he, hI, hM⟩; have hmi := MI.new (lo := gr) hI (by omega) (HE2.out.trans he) hgr0 (by have := he.size; omega); have HB3 := As.mk (((Ext.rf _).al (.cells #[.slice none 0 0, .slice none 0 0, .slice (some ⟨gM, 0, none⟩) 20 20, .bool false] 64)).blk (he.blk HB2.out)); have HMI := As.mk hmi; clear he hI hM hmi)
      generalize w3.alloc (.cells #[.slice none 0 0, .slice none 0 0, .slice (some ⟨gM, 0, none⟩) 20 20, .bool false] 64) = w4 at HMI HB3 ⊢
      generalize w3.heap.size = g at HMI ⊢
      clear HB2 hgr2 HE2
      go_upto_region 5 with fail
      have HRUN : As (SafeMAt r A c ops w gr g 0 w4) := ⟨⟨newM, SafeAt.new r ops, HMI.out, HB3.out⟩⟩
      clear HMI HB3
      go_loopw [21] (fun i wr => ∃ k : Nat, k ≤ ops.length ∧ i = .int .i64 k ∧ As (SafeMAt r A c ops w gr g k wr)) (fun i _ => ops.length - (intOf i).toNat)
      case atStart => exact ⟨0, Nat.zero_le _, rfl, HRUN⟩
      case round =>
        obtain ⟨k, hk, rfl, hst⟩ := hrel
        obtain ⟨m, h1, h2, h3⟩ := hst.out
        have HSA := As.mk h1
        have HMI := As.mk h2
        have HB := As.mk h3
        clear hst h1 h2 h3 HRUN
        by_cases hlt : k < ops.length
        · obtain ⟨a1, ha1, m1, m2⟩ := (HR.out.ext HMI.out.e).2 k hlt
          injection ha1 with ha1
          subst ha1
          obtain ⟨o, ho⟩ : ∃ o, o = ops[k] := ⟨_, rfl⟩
          rw [← ho] at m1 m2
          have HOO : As (okO o = true) := ⟨by rw [ho]; exact List.all_eq_true.1 HALL.out.1 _ (List.getElem_mem hlt)⟩
          have HO := As.mk ho
          have q1 : (k : Int) < ops.length := by omega
          have hk3 : ops.length ≤ 300 := HALL.out.2
          have HLT := As.mk hlt
          clear ho
          have HBO : As (okO o = true ∧ k < ops.length) := ⟨HOO.out, hlt⟩
          cases hs : stepP m o with
          | none =>
            have HSS := As.mk hs
            clear hs
            go_wp2_with (go_at_call 91; refine (MI.stepB HMI.out (by omega) o HOO.out _).mono ?_; rw [HSS.out]; rintro e w5 ⟨rfl, he, hf⟩; have HE5 := As.mk he; clear he hf)
            go_ret2
            rw [HS.out, HSA.out.bad HLT.out (by rw [← HO.out]; exact HSS.out)]
            exact ⟨rfl, HE5.out.e⟩
          | some m' =>
            have HSS := As.mk hs
            clear hs
            obtain ⟨oc, oa⟩ := o
            go_upto_region 8 with (go_at_call 91; refine (MI.stepB HMI.out (by omega) ⟨oc, oa⟩ HOO.out _).mono ?_; rw [HSS.out]; rintro e w5 ⟨rfl, he, hf⟩; have he : MI w w5 gr g (301 * k + 301) m' := he; have HE5 := As.mk he; have HF5 := As.mk hf; clear he hf)
            have hob : (w5).heap[wr.heap.size]? = some (.cells #[.int .i64 oc, .int .i64 oa] 82 (0, 0)) := HF5.out.blk (al_new _ _) (fun h => h.2 rfl)
            have hbb := HF5.out.blk (((Ext.rf _).al _).blk HB.out) (fun h => Nat.lt_irrefl _ h.1)
            have o0 := OB.c0 hob; have o1 := OB.c1 hob
            have b0 := RuB.c0 hbb; have b1 := RuB.c1 hbb; have b2 := RuB.c2 hbb; have b3 := RuB.c3 hbb
            have HBB := As.mk hbb
            obtain ⟨AN, cN, AS, cS, AM, cM, p0, p1, p2, p3, hrm⟩ := HE5.out.cells
            have hstop : ∀ y : Int, why r ⟨oc, oa⟩ m'.nodes.length m'.stack.length ((k : Int) + 1) = y → y ≠ 0 → safeP r newM 0 ops = (k, y) := fun y hy h0 => by
              have := HSA.out.stop HLT.out (by rw [← HO.out]; exact HSS.out) (by rw [← HO.out, hy]; exact h0)
              rw [this, ← HO.out, hy]
            have hnext : why r ⟨oc, oa⟩ m'.nodes.length m'.stack.length ((k : Int) + 1) = 0 → SafeMAt r A c ops w gr g (k + 1) w5 := fun h0 =>
              ⟨m', HSA.out.next HLT.out (by rw [← HO.out]; exact HOO.out) (by rw [← HO.out]; exact HSS.out) (by rw [← HO.out]; exact h0), by rw [show 301 * (k + 1) = 301 * k + 301 by omega]; exact HE5.out, HBB.out⟩
            have HSTOP := As.mk hstop
            have HNEXT := As.mk hnext
            obtain ⟨nn, hnn⟩ : ∃ nn, nn = m'.nodes.length := ⟨_, rfl⟩
            obtain ⟨ns, hns⟩ : ∃ ns, ns = m'.stack.length := ⟨_, rfl⟩
            rw [← hnn] at p0 HSTOP HNEXT
            rw [← hns] at p1 HSTOP HNEXT
            clear hob hbb hstop hnext hrm hnn hns p2 p3
            rcases (show r.steps < (k : Int) + 1 ∨ (k : Int) + 1 ≤ r.steps by omega) with h1 | h1
            · have HW : As (why r ⟨oc, oa⟩ nn ns ((k : Int) + 1) = 2) := ⟨by unfold why; rw [if_pos h1]⟩
              go_wp2_with fail
              go_ret2
              rw [HS.out, HSTOP.out 2 HW.out (by decide)]
              exact ⟨rfl, HE5.out.e⟩
            · have h1' : ¬ r.steps < (k : Int) + 1 := by omega
              have HW1 : As (why r ⟨oc, oa⟩ nn ns ((k : Int) + 1) = if oc = 13 ∧ r.cls.contains oa = false then 3 else if r.nodes < nn then 4 else if r.deep < ns then 5 else 0) := ⟨by unfold why; rw [if_neg h1']⟩
              clear h1'
              rcases bceq' oc 13 with rfl | q13
              · cases hcn : r.cls.contains oa with
                | false =>
                  have HCN := As.mk hcn
                  have HW : As (why r ⟨13, oa⟩ nn ns ((k : Int) + 1) = 3) := ⟨by rw [HW1.out, if_pos ⟨rfl, hcn⟩]⟩
                  clear hcn
                  go_wp2_with (go_at_call 101; refine (Contains_c _ _ _ _ _ _ (HCL.out.ext HE5.out.e) rfl).mono ?_; rw [HCN.out]; rintro e w6 ⟨rfl, rfl⟩)
                  go_ret2
                  rw [HS.out, HSTOP.out 3 HW.out (by decide)]
                  exact ⟨rfl, HE5.out.e⟩
                | true =>
                  have HCN := As.mk hcn
                  have HW2 : As (why r ⟨13, oa⟩ nn ns ((k : Int) + 1) = if r.nodes < nn then 4 else if r.deep < ns then 5 else 0) := ⟨by rw [HW1.out, if_neg (by rw [hcn]; simp)]⟩
                  clear hcn
                  rcases (show r.nodes < nn ∨ (nn : Int) ≤ r.nodes by omega) with hn | hn
                  · have HW : As (why r ⟨13, oa⟩ nn ns ((k : Int) + 1) = 4) := ⟨by rw [HW2.out, if_pos hn]⟩
                    go_wp2_with (go_at_call 101; refine (Contains_c _ _ _ _ _ _ (HCL.out.ext HE5.out.e) rfl).mono ?_; rw [HCN.out]; rintro e w6 ⟨rfl, rfl⟩)
                    go_ret2
                    rw [HS.out, HSTOP.out 4 HW.out (by decide)]
                    exact ⟨rfl, HE5.out.e⟩
                  · rcases (show r.deep < ns ∨ (ns : Int) ≤ r.deep by omega) with hd | hd
                    · have HW : As (why r ⟨13, oa⟩ nn ns ((k : Int) + 1) = 5) := ⟨by rw [HW2.out, if_neg (by omega), if_pos hd]⟩
                      go_wp2_with (go_at_call 101; refine (Contains_c _ _ _ _ _ _ (HCL.out.ext HE5.out.e) rfl).mono ?_; rw [HCN.out]; rintro e w6 ⟨rfl, rfl⟩)
                      go_ret2
                      rw [HS.out, HSTOP.out 5 HW.out (by decide)]
                      exact ⟨rfl, HE5.out.e⟩
                    · have HW : As (why r ⟨13, oa⟩ nn ns ((k : Int) + 1) = 0) := ⟨by rw [HW2.out, if_neg (by omega), if_neg (by omega)]⟩
                      go_wp2_with (go_at_call 101; refine (Contains_c _ _ _ _ _ _ (HCL.out.ext HE5.out.e) rfl).mono ?_; rw [HCN.out]; rintro e w6 ⟨rfl, rfl⟩)
                      go_roundw
                      case measure => simp only [intOf]; omega
                      case rel => exact ⟨k + 1, by omega, by go_num, ⟨HNEXT.out HW.out⟩⟩
              · have HW2 : As (why r ⟨oc, oa⟩ nn ns ((k : Int) + 1) = if r.nodes < nn then 4 else if r.deep < ns then 5 else 0) := ⟨by rw [HW1.out, if_neg]; simp at q13; simp [q13]⟩
                rcases (show r.nodes < nn ∨ (nn : Int) ≤ r.nodes by omega) with hn | hn
                · have HW : As (why r ⟨oc, oa⟩ nn ns ((k : Int) + 1) = 4) := ⟨by rw [HW2.out, if_pos hn]⟩
                  go_wp2_with fail
                  go_ret2
                  rw [HS.out, HSTOP.out 4 HW.out (by decide)]
                  exact ⟨rfl, HE5.out.e⟩
                · rcases (show r.deep < ns ∨ (ns : Int) ≤ r.deep by omega) with hd | hd
                  · have HW : As (why r ⟨oc, oa⟩ nn ns ((k : Int) + 1) = 5) := ⟨by rw [HW2.out, if_neg (by omega), if_pos hd]⟩
                    go_wp2_with fail
                    go_ret2
                    rw [HS.out, HSTOP.out 5 HW.out (by decide)]
                    exact ⟨rfl, HE5.out.e⟩
                  · have HW : As (why r ⟨oc, oa⟩ nn ns ((k : Int) + 1) = 0) := ⟨by rw [HW2.out, if_neg (by omega), if_neg (by omega)]⟩
                    go_wp2_with fail
                    go_roundw
                    case measure => simp only [intOf]; omega
                    case rel => exact ⟨k + 1, by omega, by go_num, ⟨HNEXT.out HW.out⟩⟩
        · have hkl : k = ops.length := by omega
          subst hkl
          have hend := HSA.out.done (by omega) (by omega)
          have HEND := As.mk hend
          obtain ⟨AN, cN, AS, cS, AM, cM, p0, p1, p2, p3, hrm⟩ := HMI.out.cells
          clear hend hrm
          cases hd : m.done with
          | true =>
            rw [hd] at p3
            have HD := As.mk hd
            clear hd
            go_wp2_with fail
            go_ret2
            rw [HS.out, HEND.out, HD.out]
            exact ⟨rfl, HMI.out.e⟩
          | false =>
            rw [hd] at p3
            have HD := As.mk hd
            clear hd
            go_wp2_with fail
            go_ret2
            rw [HS.out, HEND.out, HD.out]
            exact ⟨rfl, HMI.out.e⟩
end Go.Proofs.Ytcodbpjaamggeaa.C
