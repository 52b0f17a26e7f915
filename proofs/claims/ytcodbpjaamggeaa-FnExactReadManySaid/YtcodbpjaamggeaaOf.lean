/- ReadMany of the program. -/
import Derived.Test.YtcodbpjaamggeaaOe
import Derived.Test.YtcodbpjaamggeaaCp
set_option linter.unusedVariables false
set_option linter.unusedSimpArgs false
namespace Go.Proofs.Ytcodbpjaamggeaa.C
open Go.RowKit Go.Proofs.Ytcodbpjaamggeaa.W Go.Proofs.Ytcodbpjaamggeaa.P

theorem MR.rebase {B B' : Nat → Prop} {w g l vN vS vM m} (h : MR B w g l vN vS vM m) (h1 : ∀ k, Foot g l vN vS vM k → B' k) (h2 : ∀ k, w.heap.size ≤ k → B' k) : MR B' w g l vN vS vM m :=
  ⟨h.mb, h.nr, h.ns, h.sr, h.me, h1, h.kk, h.ks, h.km, h.sm, h2⟩
/-- The machine in its variable, the graph in its, the roots; nothing is shared. -/
structure RJ (w W : World) (g2 g5 g6 Bd : Nat) (m : Mc) (v : Value) (rs : List Int) (l6 : List (Nd × Value)) (a6 : Value) (sv : List Nd) : Prop where
  mm : ∃ B l vN vS vM, MR B W g5 l vN vS vM m ∧ (∀ k, B k → w.heap.size ≤ k ∧ k ≠ g2 ∧ k ≠ g6) ∧ (∀ k, v.ownBlock = some k → ¬ B k) ∧ (∀ k, FG a6 l6 k → ¬ B k)
  ok : okM Bd m
  e : Ext w W
  r : IR W v rs
  rf : Fresh v w
  b2 : GB W g2 (.slice none 0 0) (.int .i64 0)
  b6 : GB W g6 a6 (.int .i64 0)
  n6 : NW (w.heap.size ≤ ·) W l6 a6 sv
  nr : ∀ k, v.ownBlock = some k → ¬ FG a6 l6 k
  g : w.heap.size ≤ g2 ∧ w.heap.size ≤ g6 ∧ g2 ≠ g6
section
variable {w W : World} {g2 g5 g6 Bd : Nat} {m : Mc} {v : Value} {rs : List Int} {l6 : List (Nd × Value)} {a6 : Value} {sv : List Nd}
theorem RJ.ext {W'} (h : RJ w W g2 g5 g6 Bd m v rs l6 a6 sv) (e : Ext W W') : RJ w W' g2 g5 g6 Bd m v rs l6 a6 sv := by
  obtain ⟨B, l, vN, vS, vM, h1, h2, h3, h4⟩ := h.mm
  exact ⟨⟨B, l, vN, vS, vM, h1.ext e, h2, h3, h4⟩, h.ok, h.e.trans e, h.r.ext e, h.rf, e.blk h.b2, e.blk h.b6, h.n6.ext e, h.nr, h.g⟩
theorem RJ.step (h : RJ w W g2 g5 g6 Bd m v rs l6 a6 sv) (hBd : Bd ≤ 2000000) (o : Opr) (ho : okO o = true) (ob : Obj) :
    Calls Try.prog 91 #[.pointer (some ⟨g5, 0, none⟩), .agg #[.int .i64 o.code, .int .i64 o.arg]] (W.alloc ob) fun e W' => e = .returned (.bool (stepP m o).isSome) ∧ RJ w W' g2 g5 g6 (Bd + 301) ((stepP m o).getD m) v rs l6 a6 sv := by
  have hx := h.ext ((Ext.rf W).al ob)
  obtain ⟨B, l, vN, vS, vM, h1, h2, h3, h4⟩ := hx.mm
  refine (step_m h1 h.ok hBd o ho).mono ?_
  rintro e W' ⟨k1, k2, l', vN', vS', k3⟩
  refine ⟨k1, ⟨B, l', vN', vS', vM, k3, h2, h3, h4⟩, ?_, (Fr.then (S := fun _ => False) (Fr.ofExt hx.e) k2 (fun k hk => .inr (h2 k hk).1)).ext (fun _ h => h.elim), hx.r.fr k2 (fun k hk => h3 k hk), h.rf, k2.blk hx.b2 (fun hb => (h2 _ hb).2.1 rfl), k2.blk hx.b6 (fun hb => (h2 _ hb).2.2 rfl), hx.n6.fr k2 (fun k hk => h4 k hk), h.nr, h.g⟩
  cases hs : stepP m o with
  | none => exact h.ok.mono (by omega)
  | some m' => exact okM_step h.ok ho hs
theorem RJ.cells (h : RJ w W g2 g5 g6 Bd m v rs l6 a6 sv) : ∃ AN cN AS cS AM cM, MB W g5 (.slice AN m.nodes.length cN) (.slice AS m.stack.length cS) (.slice AM m.memo.length cM) m.done ∧ RM W AN AS AM m ∧ (∀ ad, AS = some ad → ad.off = 0 ∧ ad.spot = none) := by
  obtain ⟨B, l, vN, vS, vM, h1, _, _, _⟩ := h.mm
  obtain ⟨AN, cN, AS, cS, AM, cM, rfl, rfl, rfl, hr⟩ := h1.rm (by have := h.ok.nl; omega) (by have := h.ok.sl; omega) (by have := h.ok.ml; omega)
  obtain ⟨A', c', hv, _, hz⟩ := own_form h1.sr
  injection hv with hv
  exact ⟨AN, cN, AS, cS, AM, cM, h1.mb, hr, fun ad had => ⟨(hz ad (by rw [← hv]; exact had)).1, (hz ad (by rw [← hv]; exact had)).2.1⟩⟩
theorem RJ.app {W' x gP cP} (h : RJ w W g2 g5 g6 Bd m v rs l6 a6 sv) (hap : AppI v rs (rs ++ [x]) W gP cP W') : RJ w W' g2 g5 g6 Bd m (.slice (some ⟨gP, 0, none⟩) (rs ++ [x]).length cP) (rs ++ [x]) l6 a6 sv := by
  obtain ⟨a1, a2, a3, a4, _⟩ := hap
  obtain ⟨B, l, vN, vS, vM, h1, h2, h3, h4⟩ := h.mm
  have hgp : ∀ k, (Value.slice (some ⟨gP, 0, none⟩) (rs ++ [x]).length cP).ownBlock = some k → gP = k := fun k hk => by injection hk
  have hft : ∀ k, Foot g5 l vN vS vM k → k ≠ gP := fun k hk e => by
    subst e
    rcases a3 with e | e
    · exact h3 _ e (h1.lo _ hk)
    · have := h1.foot_lt _ hk; omega
  have hfg : ∀ k, FG a6 l6 k → k ≠ gP := fun k hk e => by
    subst e
    rcases a3 with e | e
    · exact h.nr _ e hk
    · have := h.n6.lt _ hk; omega
  have h1' : MR (fun k => B k ∧ k ≠ gP) W' g5 l vN vS vM m := (h1.keep a2.size (fun k hk => a2.block k (h1.foot_lt k hk) (fun e => h3 k e (h1.lo k hk)))).rebase (fun k hk => ⟨h1.lo k hk, hft k hk⟩) (fun k hk => ⟨h1.up k (Nat.le_trans a2.size hk), by omega⟩)
  refine ⟨⟨_, l, vN, vS, vM, h1', fun k hk => h2 k hk.1, fun k hk hb => hb.2 (hgp k hk).symm, fun k hk hb => h4 k hk hb.1⟩, h.ok, fr_ext h.e a2 h.rf, a1, fun k hk => ?_, a2.blk h.b2 (fun e => own_ne_blk h.r h.b2 (by decide) e), a2.blk h.b6 (fun e => own_ne_blk h.r h.b6 (by decide) e), h.n6.fr a2 (fun k hk e => h.nr k e hk), fun k hk hf => hfg k hf (hgp k hk).symm, h.g⟩
  have hk := hgp k hk
  subst hk
  rcases a3 with e | e
  · exact h.rf _ e
  · exact Nat.le_trans h.e.size e
/-- The nodes are copied; the copy is the graph's. -/
theorem RJ.copy {W' v'} (h : RJ w W g2 g5 g6 Bd m v rs l6 a6 sv) (hc : CopyAt m.nodes W m.nodes.length v' W') :
    ∃ l', RJ w ((W'.setCell ⟨g6, 0, none⟩ v').setCell ⟨g6, 1, none⟩ (.int .i64 0)) g2 g5 g6 Bd m v rs l' v' m.nodes := by
  obtain ⟨l', n1, n2, n3, n4, n5, n6⟩ := hc
  obtain ⟨B, l, vN, vS, vM, h1, h2, h3, h4⟩ := h.mm
  have hf : Fr (fun k => k = g6) W' ((W'.setCell ⟨g6, 0, none⟩ v').setCell ⟨g6, 1, none⟩ (.int .i64 0)) := (Fr.set (S := fun k => k = g6) W' _ (p := ⟨g6, 0, none⟩) rfl).trans (Fr.set (S := fun k => k = g6) _ _ (p := ⟨g6, 1, none⟩) rfl)
  have hfr : ∀ k, FG v' l' k → W.heap.size ≤ k := fun k hk => hk.elim (n4 k) (fun ⟨p, hp, e⟩ => n5 p hp k e)
  have hnw : NW (W.heap.size ≤ ·) W' l' v' m.nodes := ⟨n1, by rw [n2, List.take_length], hfr, n6⟩
  have h5 := h1.ext n3
  have hb6 := n3.blk h.b6
  have hng : ∀ k, Foot g5 l vN vS vM k → k ≠ g6 := fun k hk e => (h2 k (h1.lo k hk)).2.2 e
  refine ⟨l', ⟨fun k => B k ∧ ¬ FG v' l' k, l, vN, vS, vM, (h5.keep hf.size (fun k hk => hf.block k (h5.foot_lt k hk) (hng k hk))).rebase (fun k hk => ⟨h1.lo k hk, fun e => by have := hfr k e; have := h1.foot_lt k hk; omega⟩) (fun k hk => ⟨h1.up k (Nat.le_trans n3.size (Nat.le_trans hf.size hk)), fun e => by have := hnw.lt k e; have := hf.size; omega⟩), fun k hk => h2 k hk.1, fun k hk hb => h3 k hk hb.1, fun k hk hb => hb.2 hk⟩, h.ok,
    (Fr.then (S := fun _ => False) (Fr.ofExt (h.e.trans n3)) hf (fun i hi => .inr (by have := h.g.2.1; omega))).ext (fun _ h => h.elim), (h.r.ext n3).fr hf (fun k hk e => own_ne_blk h.r h.b6 (by decide) (by rw [← e]; exact hk)), h.rf, hf.blk (n3.blk h.b2) h.g.2.2, gb_all _ _ hb6, (hnw.base (B' := (w.heap.size ≤ ·)) (fun k _ hk => Nat.le_trans h.e.size hk)).fr hf (fun k hk e => hnw.nb hb6 (by rw [← e]; exact hk)), fun k hk e => by have := hfr k e; have := own_lt h.r hk; omega, h.g⟩
/-- The machine is begun anew. -/
theorem RJ.stop (h : RJ w W g2 g5 g6 Bd m v rs l6 a6 sv) : RJ w ((W.setCell ⟨g5, 1, none⟩ (.slice none 0 0)).setCell ⟨g5, 3, none⟩ (.bool false)) g2 g5 g6 Bd (stopM m) v rs l6 a6 sv := by
  obtain ⟨B, l, vN, vS, vM, h1, h2, h3, h4⟩ := h.mm
  have hf : Fr (fun k => k = g5) W ((W.setCell ⟨g5, 1, none⟩ (.slice none 0 0)).setCell ⟨g5, 3, none⟩ (.bool false)) := (Fr.set (S := fun k => k = g5) W _ (p := ⟨g5, 1, none⟩) rfl).trans (Fr.set (S := fun k => k = g5) _ _ (p := ⟨g5, 3, none⟩) rfl)
  have hg5 := h2 g5 (h1.lo g5 (.inl rfl))
  have hne : ∀ k, (vN.ownBlock = some k ∨ vM.ownBlock = some k ∨ ∃ p ∈ l, p.2.ownBlock = some k) → ((W.setCell ⟨g5, 1, none⟩ (.slice none 0 0)).setCell ⟨g5, 3, none⟩ (.bool false)).heap[k]? = W.heap[k]? := by
    intro k hk
    refine hf.block k ?_ ?_
    · rcases hk with e | e | ⟨p, hp, e⟩
      · exact own_lt h1.nr.1 e
      · exact own_lt h1.me e
      · exact own_lt (h1.nr.2 p hp).1 e
    · intro e9
      rw [e9] at hk
      rcases hk with e | e | ⟨p, hp, e⟩
      · exact own_ne_blk h1.nr.1 h1.mb (by decide) e
      · exact own_ne_blk h1.me h1.mb (by decide) e
      · exact own_ne_blk (h1.nr.2 p hp).1 h1.mb (by decide) e
  have h1' : MR B ((W.setCell ⟨g5, 1, none⟩ (.slice none 0 0)).setCell ⟨g5, 3, none⟩ (.bool false)) g5 l vN (.slice none 0 0) vM (stopM m) := by
    refine ⟨(h1.mb.set.2.1 _).set.2.2 false, h1.nr.keep (fun k hk => hne k (hk.elim .inl (fun e => .inr (.inr e)))), h1.ns, IR.nil _, h1.me.keep (fun k hk => hne k (.inr (.inl hk))), fun k hk => ?_, h1.kk, fun p hp k hk e => by simp [Value.ownBlock] at e, h1.km, fun k hk => by simp [Value.ownBlock] at hk, fun k hk => h1.up k (Nat.le_trans hf.size hk)⟩
    rcases hk with e | e | e | e | e
    · exact h1.lo k (.inl e)
    · exact h1.lo k (.inr (.inl e))
    · simp [Value.ownBlock] at e
    · exact h1.lo k (.inr (.inr (.inr (.inl e))))
    · exact h1.lo k (.inr (.inr (.inr (.inr e))))
  exact ⟨⟨B, l, vN, _, vM, h1', h2, h3, h4⟩, stop_ok h.ok, (Fr.then (S := fun _ => False) (Fr.ofExt h.e) hf (fun i hi => .inr (by have := hg5.1; omega))).ext (fun _ h => h.elim), h.r.fr hf (fun k hk e => h3 k hk (by rw [e]; exact h1.lo g5 (.inl rfl))), h.rf, hf.blk h.b2 (fun e => hg5.2.1 e.symm), hf.blk h.b6 (fun e => hg5.2.2 e.symm), h.n6.fr hf (fun k hk e => h4 k hk (by rw [e]; exact h1.lo g5 (.inl rfl))), h.nr, h.g⟩
end
def RmQ (ops : List Opr) (w : World) (g2 g5 g6 k : Nat) (v en : Value) (wr : World) : Prop :=
  ∃ s l6 A6 c6 R cR, v = .slice R s.rs.length cR ∧ en = .int .i64 s.en ∧ MyAt ops k s ∧ RJ w wr g2 g5 g6 (301 * k) s.m (.slice R s.rs.length cR) s.rs l6 (.slice A6 s.sv.nodes.length c6) s.sv.nodes
theorem rmQ_of {ops : List Opr} {w : World} {g2 g5 g6 k : Nat} {s : Mst} {l6 a6 R cR} {wr : World} (h : MyAt ops k s) (hq : RJ w wr g2 g5 g6 (301 * k) s.m (.slice R s.rs.length cR) s.rs l6 a6 s.sv.nodes) : RmQ ops w g2 g5 g6 k (.slice R s.rs.length cR) (.int .i64 s.en) wr := by
  obtain ⟨A6, c6, hv, _, _⟩ := own_form hq.n6.nr.1
  have hl : l6.length = s.sv.nodes.length := by rw [← hq.n6.ns, List.length_map]
  rw [hl] at hv
  rw [hv] at hq
  exact ⟨s, l6, A6, c6, R, cR, rfl, rfl, h, hq⟩
theorem RJ.res {w W : World} {g2 g5 g6 Bd : Nat} {s : Mst} {l6 A6 c6 R cR} (h : RJ w W g2 g5 g6 Bd s.m (.slice R s.rs.length cR) s.rs l6 (.slice A6 s.sv.nodes.length c6) s.sv.nodes) :
    RdMV s.sv.nodes s.rs s.en w (.returned (.tuple #[.agg #[.slice A6 s.sv.nodes.length c6, .int .i64 0], .slice R s.rs.length cR, .int .i64 s.en])) ((W.setCell ⟨g2, 0, none⟩ (.slice A6 s.sv.nodes.length c6)).setCell ⟨g2, 1, none⟩ (.int .i64 0)) := by
  have hf : Fr (fun k => k = g2) W ((W.setCell ⟨g2, 0, none⟩ (.slice A6 s.sv.nodes.length c6)).setCell ⟨g2, 1, none⟩ (.int .i64 0)) := (Fr.set (S := fun k => k = g2) W _ (p := ⟨g2, 0, none⟩) rfl).trans (Fr.set (S := fun k => k = g2) _ _ (p := ⟨g2, 1, none⟩) rfl)
  exact ⟨l6, _, _, _, _, rfl, h.n6.fr hf (fun k hk e => h.n6.nb h.b2 (by rw [← e]; exact hk)), h.r.fr hf (fun k hk e => own_ne_blk h.r h.b2 (by decide) (by rw [← e]; exact hk)), h.rf, h.nr, (Fr.then (S := fun _ => False) (Fr.ofExt h.e) hf (fun i hi => .inr (by have := h.g.1; omega))).ext (fun _ h => h.elim)⟩
set_option maxRecDepth 100000 in
set_option maxHeartbeats 4000000 in
theorem ReadMany_c (A : Option Addr) (c : Nat) (ops : List Opr) (w : World) (hr : RdO w A ops) :
    Calls Try.prog 68 #[.slice A ops.length c] w (RdMV (rdmN ops) (rdmS ops) (rdmE ops) w) := by
  have hlen := hr.1
  have HR := As.mk hr
  clear hr
  have hB0 : GB (w.alloc (.cells #[.slice none 0 0, .int .i64 0] 58 (0, 0))) w.heap.size (.slice none 0 0) (.int .i64 0) := al_new _ _
  have HB0 := As.mk hB0
  have HX0 := As.mk ((Ext.rf w).al (.cells #[.slice none 0 0, .int .i64 0] 58 (0, 0)))
  clear hB0
  cases hv : vOps ops with
  | false =>
    have HV := As.mk hv
    have HN := As.mk (show rdmN ops = [] ∧ rdmS ops = [] ∧ rdmE ops = -1 by unfold rdmN rdmS rdmE; rw [hv]; simp)
    clear hv
    go_enter Try.func68, Try.ntmps68
    go_upto_region 2 with (go_at_call 76; refine (ValidOps_c _ _ _ _ (HR.out.ext ((Ext.rf _).al _))).mono ?_; rw [HV.out]; rintro e w1 ⟨rfl, he⟩; have HE := As.mk he; clear he)
    have HB : As (GB w1 w.heap.size (.slice none 0 0) (.int .i64 0)) := ⟨HE.out.blk HB0.out⟩
    have HX : As (Ext w w1) := ⟨HX0.out.trans HE.out⟩
    have b0 := gb_c0 HB.out
    have b1 := gb_c1 HB.out
    have f0 := gb_fz HB.out 0
    have f1 := gb_fz HB.out 1
    clear HE
    go_wp2_with fail
    refine bodyPost_ret (results_cell2 rfl _ _ w.heap.size _ rfl (loadG (gb_all _ _ HB.out))) rfl ?_
    rw [HN.out.1, HN.out.2.1, HN.out.2.2]
    exact rdmv_nil (noG_end HX.out _ _ (Nat.le_refl _) HB.out _ _) _
  | true =>
    have HV := As.mk hv
    have HVA := As.mk (vOps_all hv)
    have hol := (vOps_all hv).2
    have HN := As.mk (show rdmN ops = (manyR ops).sv.nodes ∧ rdmS ops = (manyR ops).rs ∧ rdmE ops = ((manyR ops).en : Int) by unfold rdmN rdmS rdmE; rw [if_pos hv, if_pos hv, if_pos hv]; exact ⟨rfl, rfl, rfl⟩)
    rw [HN.out.1, HN.out.2.1, HN.out.2.2]
    clear hv
    go_enter Try.func68, Try.ntmps68
    go_upto_region 3 with (go_at_call 76; refine (ValidOps_c _ _ _ _ (HR.out.ext ((Ext.rf _).al _))).mono ?_; rw [HV.out]; rintro e w1 ⟨rfl, he⟩; have HE1 := As.mk (HX0.out.trans he); have HB1 : As (GB w1 w.heap.size (.slice none 0 0) (.int .i64 0)) := ⟨he.blk HB0.out⟩; clear he)
    obtain ⟨g2, hg2⟩ : ∃ g2, g2 = w.heap.size := ⟨_, rfl⟩
    have HG2 : As (w.heap.size ≤ g2 ∧ g2 < w1.heap.size) := ⟨by have := (Array.getElem?_eq_some_iff.1 HB1.out).1; omega⟩
    rw [← hg2] at HB1 ⊢
    clear hg2
    go_upto_region 4 with (go_at_call 90; refine (NewMachine_c _).mono ?_; rintro e w3 ⟨gM, rfl, he, hI, hM⟩; have HX3 := As.mk he; have HI3 := As.mk (And.intro hI hM); clear he hI hM)
    go_upto_region 5 with fail
    have HQ0 : As (RmQ ops w g2 (w3.heap.size) (w3.heap.size + 1 + 1) 0 (.slice (some ⟨w3.heap.size + 1, 0, none⟩) 0 0) (.int .i64 ((0 : Nat) : Int)) (((w3.alloc (.cells #[.slice none 0 0, .slice none 0 0, .slice (some ⟨gM, 0, none⟩) 20 20, .bool false] 64)).alloc (.cells #[] 3)).alloc (.cells #[.slice none 0 0, .int .i64 0] 58))) := ⟨by
      obtain ⟨hI, hM⟩ := HI3.out
      have hgM := own_lt hI (k := gM) rfl
      have hs1 := HX3.out.size
      have hg := HG2.out
      have hx4 : Ext w3 (w3.alloc (.cells #[.slice none 0 0, .slice none 0 0, .slice (some ⟨gM, 0, none⟩) 20 20, .bool false] 64)) := (Ext.rf _).al _
      have hx5 : Ext (w3.alloc (.cells #[.slice none 0 0, .slice none 0 0, .slice (some ⟨gM, 0, none⟩) 20 20, .bool false] 64)) (((w3.alloc (.cells #[.slice none 0 0, .slice none 0 0, .slice (some ⟨gM, 0, none⟩) 20 20, .bool false] 64)).alloc (.cells #[] 3)).alloc (.cells #[.slice none 0 0, .int .i64 0] 58)) := ((Ext.rf _).al _).al _
      have hmb : MB (w3.alloc (.cells #[.slice none 0 0, .slice none 0 0, .slice (some ⟨gM, 0, none⟩) 20 20, .bool false] 64)) w3.heap.size (.slice none 0 0) (.slice none 0 0) (.slice (some ⟨gM, 0, none⟩) 20 20) false := al_new _ _
      have hir : IR ((w3.alloc (.cells #[.slice none 0 0, .slice none 0 0, .slice (some ⟨gM, 0, none⟩) 20 20, .bool false] 64)).alloc (.cells #[] 3)) (.slice (some ⟨w3.heap.size + 1, 0, none⟩) 0 0) [] := by
        have := World.ownsRow_lit (base := 0) (e := 3) (size := 1) (w3.alloc (.cells #[.slice none 0 0, .slice none 0 0, .slice (some ⟨gM, 0, none⟩) 20 20, .bool false] 64)) #[] 0 (Nat.zero_le _) (by simp) rfl
        rw [al_size] at this; exact this
      have hgb : GB (((w3.alloc (.cells #[.slice none 0 0, .slice none 0 0, .slice (some ⟨gM, 0, none⟩) 20 20, .bool false] 64)).alloc (.cells #[] 3)).alloc (.cells #[.slice none 0 0, .int .i64 0] 58)) (w3.heap.size + 1 + 1) (.slice none 0 0) (.int .i64 0) := by
        have := al_new ((w3.alloc (.cells #[.slice none 0 0, .slice none 0 0, .slice (some ⟨gM, 0, none⟩) 20 20, .bool false] 64)).alloc (.cells #[] 3)) (.cells #[.slice none 0 0, .int .i64 0] 58)
        rw [al_size, al_size] at this; exact this
      have hsz : (((w3.alloc (.cells #[.slice none 0 0, .slice none 0 0, .slice (some ⟨gM, 0, none⟩) 20 20, .bool false] 64)).alloc (.cells #[] 3)).alloc (.cells #[.slice none 0 0, .int .i64 0] 58)).heap.size = w3.heap.size + 3 := by rw [al_size, al_size, al_size]
      have hob : ∀ k, (Value.slice (some ⟨w3.heap.size + 1, 0, none⟩) 0 0).ownBlock = some k → k = w3.heap.size + 1 := fun k hk => (show w3.heap.size + 1 = k by injection hk).symm
      have hww := HE1.out.size
      refine rmQ_of (s := ⟨newM, newM, [], 0⟩) (MyAt.new ops) (l6 := []) (a6 := .slice none 0 0) ⟨⟨fun k => w1.heap.size ≤ k ∧ k ≠ w3.heap.size + 1 + 1 ∧ k ≠ w3.heap.size + 1, [], .slice none 0 0, .slice none 0 0, .slice (some ⟨gM, 0, none⟩) 20 20, ⟨hx5.blk hmb, NR.nil _, rfl, IR.nil _, (hI.ext hx4).ext hx5, fun k hk => ?_, List.Pairwise.nil, by simp, by simp, fun j hj => by simp [Value.ownBlock] at hj, fun k hk => ?_⟩, fun k hk => ⟨by have h9 : w1.heap.size ≤ k := hk.1; omega, by have h9 : w1.heap.size ≤ k := hk.1; omega, hk.2.1⟩, fun k hk hb => hb.2.2 (hob k hk), fun k hk => ?_⟩, okM_new, (HE1.out.trans HX3.out).trans (hx4.trans hx5), hir.ext ((Ext.rf _).al _), fun k hk => by have := hob k hk; omega, (HX3.out.trans (hx4.trans hx5)).blk HB1.out, hgb, NW.nil _ _, fun k hk hf => ?_, by omega, by omega, by omega⟩
      · rcases hk with e | e | e | e | ⟨p, hp, _⟩
        · show w1.heap.size ≤ k ∧ _
          omega
        · simp [Value.ownBlock] at e
        · simp [Value.ownBlock] at e
        · have e : gM = k := by injection e
          show w1.heap.size ≤ k ∧ _
          omega
        · simp at hp
      · rw [hsz] at hk
        show w1.heap.size ≤ k ∧ _
        omega
      · rcases hk with e | ⟨p, hp, _⟩
        · simp [Value.ownBlock] at e
        · simp at hp
      · rcases hf with e | ⟨p, hp, _⟩
        · simp [Value.ownBlock] at e
        · simp at hp⟩
    generalize (((w3.alloc (.cells #[.slice none 0 0, .slice none 0 0, .slice (some ⟨gM, 0, none⟩) 20 20, .bool false] 64)).alloc (.cells #[] 3)).alloc (.cells #[.slice none 0 0, .int .i64 0] 58)) = w6 at HQ0 ⊢
    generalize w3.heap.size + 1 + 1 = g6 at HQ0 ⊢
    generalize w3.heap.size + 1 = gR at HQ0 ⊢
    generalize w3.heap.size = g5 at HQ0 ⊢
    clear HX3 HI3 HB1 HE1
    go_upto_region 6 with fail
    go_loopw [7, 8, 20] (fun v en i wr => ∃ k : Nat, k ≤ ops.length ∧ i = .int .i64 k ∧ As (RmQ ops w g2 g5 g6 k v en wr)) (fun _ _ i _ => ops.length - (intOf i).toNat)
    case atStart => exact ⟨0, Nat.zero_le _, rfl, HQ0⟩
    case round =>
      obtain ⟨k, hk, rfl, hst⟩ := hrel
      obtain ⟨s, l6, A6, c6, R, cR, rfl, rfl, hat, hq⟩ := hst.out
      have HAT := As.mk hat
      have HQ := As.mk hq
      have hrl := hat.rl
      clear hst hat hq HQ0
      by_cases hlt : k < ops.length
      · obtain ⟨ad, rfl, m1, m2⟩ := (HR.out.ext HQ.out.e).2 k hlt
        have HOO : As (okO ops[k] = true) := ⟨List.all_eq_true.1 HVA.out.1 _ (List.getElem_mem hlt)⟩
        obtain ⟨o, ho⟩ : ∃ o, o = ops[k] := ⟨_, rfl⟩
        rw [← ho] at m1 m2
        have HO := As.mk ho
        have HLT := As.mk hlt
        have q1 : (k : Int) < ops.length := by omega
        have HOK : As (okO o = true) := ⟨by rw [ho]; exact HOO.out⟩
        clear ho
        obtain ⟨r, hr⟩ : ∃ r, stepP s.m o = r := ⟨_, rfl⟩
        have HRR := As.mk hr
        clear hr
        cases r with
        | none =>
          have HMR := As.mk (HAT.out.stop HLT.out (by rw [← HO.out]; exact HRR.out))
          go_upto_region 14 with (go_at_call 91; refine (RJ.step HQ.out (by omega) o HOK.out _).mono ?_; rw [HRR.out]; rintro e w8 ⟨rfl, hj⟩; have HJ := As.mk hj; clear hj)
          have u0 := gb_c0 HJ.out.b6; have u1 := gb_c1 HJ.out.b6
          have d0 := gb_c0 HJ.out.b2; have d1 := gb_c1 HJ.out.b2
          have f0 := gb_fz HJ.out.b2 0; have f1 := gb_fz HJ.out.b2 1
          go_wp2_with fail
          refine bodyPost_ret (results_cell2 rfl _ _ g2 _ rfl (loadG (gb_all _ _ HJ.out.b2))) rfl ?_
          rw [HMR.out]
          exact HJ.out.res
        | some m' =>
          have HSS := As.mk (show stepP s.m ops[k] = some m' by rw [← HO.out]; exact HRR.out)
          go_upto_region 9 with (go_at_call 91; refine (RJ.step HQ.out (by omega) o HOK.out _).mono ?_; rw [HRR.out]; rintro e w8 ⟨rfl, hj⟩; have hj : RJ w w8 g2 g5 g6 (301 * k + 301) m' (.slice R s.rs.length cR) s.rs l6 (.slice A6 s.sv.nodes.length c6) s.sv.nodes := hj; have HJ := As.mk hj; clear hj)
          obtain ⟨AN, cN, AS, cS, AM, cM, hmb, hrm, hz⟩ := HJ.out.cells
          have HMB := As.mk hmb
          have HRM := As.mk hrm
          clear hmb hrm HQ m1 m2
          have hd : m'.done = true ∨ m'.done = false := by cases m'.done <;> simp
          rcases hd with hd | hd
          · have HD := As.mk hd
            obtain ⟨x, hx1, hx2, hx3⟩ := step_one HAT.out.ok HAT.out.kk HOO.out HSS.out hd
            have HX2 := As.mk hx2
            have hst : ∃ gS, AS = some ⟨gS, 0, none⟩ ∧ w8.cell? ⟨gS, 0, none⟩ = some (.int .i64 x) := by
              obtain ⟨a3, e7, e8⟩ := HRM.out.s.2 0 (by rw [hx1]; simp)
              obtain ⟨z1, z2⟩ := hz a3 e7
              obtain ⟨gS, o, sp⟩ := a3
              simp only at z1 z2
              subst z1 z2
              refine ⟨gS, e7, ?_⟩
              have e9 : m'.stack[0]'(by rw [hx1]; simp) = x := by simp [hx1]
              rw [e9] at e8
              simpa [Addr.add] using e8
            obtain ⟨gS, rfl, hs0⟩ := hst
            have hmb1 := HMB.out
            rw [hd, hx1] at hmb1
            have HB5 : As (MB w8 g5 (.slice AN m'.nodes.length cN) (.slice (some ⟨gS, 0, none⟩) 1 cS) (.slice AM m'.memo.length cM) true) := ⟨hmb1⟩
            have k1 := MB.c1 HB5.out; have k3 := MB.c3 HB5.out
            clear hd hx1 hx2 hx3 hmb1 hz HMB HRM
            go_upto_region 11 with ((at_builtin; refine app_int rfl _ _ rfl (.slice R s.rs.length cR) s.rs x rfl rfl HJ.out.r (by omega) ?_; intro gP cP w7 hap; have HAP := As.mk hap; clear hap))
            have HQ7 := As.mk (HJ.out.app HAP.out)
            clear k1 k3 hs0 HAP HB5 HJ
            obtain ⟨AN', cN', AS', cS', AM', cM', hmb, hrm, -⟩ := HQ7.out.cells
            have HMB := As.mk hmb
            have HRM := As.mk hrm
            have hnl := HQ7.out.ok.nl
            clear hmb hrm
            have k0 := MB.c0 HMB.out
            go_upto_region 12 with (go_at_call 119; refine (copyNodes_c _ _ _ _ HRM.out.n (by omega)).mono ?_; rintro e w9 ⟨v9, rfl, hc⟩; obtain ⟨A9, n9, c9, rfl⟩ := sl_form (show World.ownsRow w9 0 96 3 v9 _ _ from hc.choose_spec.1.1); have HC := As.mk hc; clear hc; have b0 := gb_c0 (HC.out.choose_spec.2.2.1.blk HQ7.out.b6); have b1 := gb_c1 (HC.out.choose_spec.2.2.1.blk HQ7.out.b6); have f0 := gb_fz (HC.out.choose_spec.2.2.1.blk HQ7.out.b6) 0; have f1 := gb_fz (HC.out.choose_spec.2.2.1.blk HQ7.out.b6) 1)
            clear k0 b0 b1 f0 f1
            obtain ⟨l9, hj9⟩ := HQ7.out.copy HC.out
            have HJ9 := As.mk hj9
            clear hj9 HC HQ7 HMB HRM
            generalize ((w9.setCell ⟨g6, 0, none⟩ (.slice A9 n9 c9)).setCell ⟨g6, 1, none⟩ (.int .i64 0)) = wA at HJ9 ⊢
            obtain ⟨AN2, cN2, AS2, cS2, AM2, cM2, hmb, -, -⟩ := HJ9.out.cells
            have k1 := MB.c1 hmb; have k3 := MB.c3 hmb; have f1 := MB.fz hmb 1; have f3 := MB.fz hmb 3
            clear hmb
            have hn := rmQ_of (s := ⟨stopM m', stopM m', s.rs ++ [x], k + 1⟩) (HAT.out.root HLT.out HOO.out HSS.out HD.out HX2.out) HJ9.out.stop
            have hen : ((k + 1 : Nat) : Int) = (k : Int) + 1 := rfl
            have hrl2 : (s.rs ++ [x]).length = s.rs.length + 1 := by simp
            simp only [hrl2, hen] at hn
            have HN := As.mk hn
            clear hn hen hrl2 HJ9
            go_wp2_with fail
            go_roundw
            case measure => simp only [intOf]; omega
            case rel => exact ⟨k + 1, by omega, by go_num, HN⟩
          · have HD := As.mk hd
            have k3 := MB.c3 HMB.out
            rw [hd] at k3
            have HN := As.mk (rmQ_of (s := { s with m := m' }) (HAT.out.go HLT.out HOO.out HSS.out HD.out) HJ.out)
            clear hd HJ hz HMB HRM
            go_wp2_with fail
            go_roundw
            case measure => simp only [intOf]; omega
            case rel => exact ⟨k + 1, by omega, by go_num, HN⟩
      · have HMR := As.mk (HAT.out.done (by omega))
        have q1 : ¬ (k : Int) < ops.length := by omega
        have u0 := gb_c0 HQ.out.b6; have u1 := gb_c1 HQ.out.b6
        have d0 := gb_c0 HQ.out.b2; have d1 := gb_c1 HQ.out.b2
        have f0 := gb_fz HQ.out.b2 0; have f1 := gb_fz HQ.out.b2 1
        go_wp2_with fail
        refine bodyPost_ret (results_cell2 rfl _ _ g2 _ rfl (loadG (gb_all _ _ HQ.out.b2))) rfl ?_
        rw [HMR.out]
        exact HQ.out.res
end Go.Proofs.Ytcodbpjaamggeaa.C
