/- ShapesOf, both sides. -/
import Derived.Test.YtcodbpjaamggeaaCr
import Derived.Test.YtcodbpjaamggeaaCz
import Derived.Test.YtcodbpjaamggeaaSa
import Derived.Test.YtcodbpjaamggeaaPv
set_option linter.unusedVariables false
set_option linter.unusedSimpArgs false
namespace Go.Proofs.Ytcodbpjaamggeaa.C
open Go.RowKit Go.Proofs.Ytcodbpjaamggeaa.W Go.Proofs.Ytcodbpjaamggeaa.P

def noS : Sh := ⟨[], [], [], [], false⟩
def shapesOf (ops : List Opr) : Sh := if vOps ops = true then shp (runP newM ops).1 else noS
def shapesN (ops : List Opr) : Int := if vOps ops = true then ((runP newM ops).2 : Int) else -1
/-- Fresh shapes and a number are returned. -/
def OwnS (s : Sh) (n : Int) (w : World) (e : Ending) (w' : World) : Prop :=
  ∃ vK vF vS vM, e = .returned (.tuple #[.agg #[vK, vF, vS, vM, .bool s.done], .int .i64 n]) ∧ SV w' vK vF vS vM s ∧ Ext w w' ∧ (∀ k, SF vK vF vS vM k → w.heap.size ≤ k)
theorem noS_sv (w : World) : SV w (.slice none 0 0) (.slice none 0 0) (.slice none 0 0) (.slice none 0 0) noS := by
  refine ⟨IR.nil w, BR.nil w, IR.nil w, IR.nil w, ?_, ?_, ?_⟩ <;> intro k hk <;> simp [Value.ownBlock] at hk
theorem noS_sf (k : Nat) : ¬ SF (.slice none 0 0) (.slice none 0 0) (.slice none 0 0) (.slice none 0 0) k := by
  intro h
  rcases h with h | h | h | h <;> simp [Value.ownBlock] at h
/-- The result variable was stored. -/
theorem ownS_end {w W : World} {a b c d : Value} {x : Bool} {vK vF vS vM : Value} {s : Sh} {n : Int} (hE : Ext w W) (hb : SB W w.heap.size a b c d x) (hs : SV W vK vF vS vM s) (hf : ∀ k, SF vK vF vS vM k → w.heap.size ≤ k) (y : Bool) (hy : y = s.done) :
    OwnS s n w (.returned (.tuple #[.agg #[vK, vF, vS, vM, .bool y], .int .i64 n])) (((((W.setCell ⟨w.heap.size, 0, none⟩ vK).setCell ⟨w.heap.size, 1, none⟩ vF).setCell ⟨w.heap.size, 2, none⟩ vS).setCell ⟨w.heap.size, 3, none⟩ vM).setCell ⟨w.heap.size, 4, none⟩ (.bool y)) := by
  subst hy
  have h5 := Fr.set5 (S := fun k => k = w.heap.size) (w := W) (g := w.heap.size) rfl vK vF vS vM (.bool s.done)
  exact ⟨_, _, _, _, rfl, hs.fr h5 (fun k hk e => hs.nb hb (by rw [← e]; exact hk)), (Fr.then (S := fun _ => False) (Fr.ofExt hE) h5 (fun k hk => .inr (by omega))).ext (fun _ h => h.elim), hf⟩
set_option maxRecDepth 100000 in
set_option maxHeartbeats 1000000 in
theorem sShapesOf_c (A : Option Addr) (c : Nat) (ops : List Opr) (w : World) (hr : RdO w A ops) :
    Calls Try.prog 48 #[.slice A ops.length c] w (OwnS (shapesOf ops) (shapesN ops) w) := by
  have hlen := hr.1
  have HR := As.mk hr
  have hb0 : SB (w.alloc (.cells #[.slice none 0 0, .slice none 0 0, .slice none 0 0, .slice none 0 0, .bool false] 51)) w.heap.size (.slice none 0 0) (.slice none 0 0) (.slice none 0 0) (.slice none 0 0) false := al_new _ _
  have HB0 := As.mk hb0
  have HX0 := As.mk ((Ext.rf w).al (.cells #[.slice none 0 0, .slice none 0 0, .slice none 0 0, .slice none 0 0, .bool false] 51))
  clear hr hb0
  cases hv : vOps ops with
  | false =>
    have HB : As (shapesOf ops = noS ∧ shapesN ops = -1) := ⟨by simp [shapesOf, shapesN, hv]⟩
    have HV := As.mk hv
    clear hv
    go_enter Try.func48, Try.ntmps48
    go_upto_region 2 with (go_at_call 74; refine (validOps_c _ _ _ _ (HR.out.ext HX0.out)).mono ?_; rw [HV.out]; rintro e w1 ⟨rfl, he⟩; have HE := As.mk he; clear he)
    have HB1 := HE.out.blk HB0.out
    have HX1 := HX0.out.trans HE.out
    have b0 := SB.c0 HB1; have b1 := SB.c1 HB1; have b2 := SB.c2 HB1; have b3 := SB.c3 HB1; have b4 := SB.c4 HB1
    have f0 := SB.fz HB1 0; have f1 := SB.fz HB1 1; have f2 := SB.fz HB1 2; have f3 := SB.fz HB1 3; have f4 := SB.fz HB1 4
    go_wp2_with fail
    refine bodyPost_ret (results_cellt rfl _ _ w.heap.size _ rfl (loadS (SB.all _ _ _ _ _ HB1))) rfl ?_
    rw [HB.out.1, HB.out.2]
    exact ownS_end HX1 HB1 (noS_sv _) (fun k hk => (noS_sf k hk).elim) false rfl
  | true =>
    have HB : As (shapesOf ops = shp (runP newM ops).1 ∧ shapesN ops = (runP newM ops).2) := ⟨by simp [shapesOf, shapesN, hv]⟩
    have HV := As.mk hv
    have hall := vOps_all hv
    have HALL := As.mk hall
    have HRUN := As.mk (runS_new hall.1)
    clear hv hall
    go_enter Try.func48, Try.ntmps48
    go_upto_region 3 with (go_at_call 74; refine (validOps_c _ _ _ _ (HR.out.ext HX0.out)).mono ?_; rw [HV.out]; rintro e w1 ⟨rfl, he⟩; have HE := As.mk he; clear he)
    have HB1 := As.mk (HE.out.blk HB0.out)
    have HX1 := As.mk (HX0.out.trans HE.out)
    clear HE
    go_wp2_with (go_at_call 75; refine (runShapes_c _ _ _ _ (HR.out.ext HX1.out) HALL.out.1).mono ?_; rw [HRUN.out]; rintro e w2 ⟨vK, vF, vS, vM, rfl, hsv, he, hsf, _⟩; have HB2 := he.blk HB1.out; obtain ⟨A1, c1, A2, c2, A3, c3, A4, c4, rfl, rfl, rfl, rfl⟩ := hsv.forms; have b0 := SB.c0 HB2; have b1 := SB.c1 HB2; have b2 := SB.c2 HB2; have b3 := SB.c3 HB2; have b4 := SB.c4 HB2; have f0 := SB.fz HB2 0; have f1 := SB.fz HB2 1; have f2 := SB.fz HB2 2; have f3 := SB.fz HB2 3; have f4 := SB.fz HB2 4; have HSV := As.mk hsv; have HSF := As.mk hsf; have HE2 := As.mk he; clear hsv hsf he)
    refine bodyPost_ret (results_cellt rfl _ _ w.heap.size _ rfl (loadS (SB.all _ _ _ _ _ HB2))) rfl ?_
    rw [HB.out.1, HB.out.2]
    exact ownS_end (HX1.out.trans HE2.out) HB2 HSV.out (fun k hk => Nat.le_trans HX1.out.size (HSF.out k hk)) _ rfl
/-! ### impl -/
theorem ShapesOf1_c (vN vS vM : Value) (d : Bool) (w : World) : Calls Try.prog 102 #[.agg #[vN, vS, vM, .bool d]] w fun e w' => (∃ v, e = .returned v) ∧ Ext w w' := by
  go_enter Try.func102, Try.ntmps102
  go_wp2_with fail
  go_end0
  exact ⟨⟨_, rfl⟩, (Ext.rf w).al _⟩
theorem ShapesOf1_e (args : Array Value) (w : World) : (callFunc 102 args).run Try.prog w = .ok (.enter 102 args) w :=
  call_enter Try.func102 (by kernel_rfl) (by kernel_rfl) args w
def fullOf (n : Nd) : Bool := n.kind == 5 && !n.kids.isEmpty
def pK (m : Mc) (k : Nat) : List Int := (shp m).kinds.take k
def pF (m : Mc) (k : Nat) : List Bool := (shp m).full.take k
/-- The out variable after k nodes. -/
structure SAt (m : Mc) (g6 : Nat) (vS vM : Value) (w3 : World) (k j : Nat) (vK vF : Value) (W : World) : Prop where
  b : SB W g6 vK vF vS vM m.done
  rk : IR W vK (pK m k)
  rf : BR W vF (pF m j)
  e : Ext w3 W
  fk : Fresh vK w3
  ff : Fresh vF w3
  lt : w3.heap.size ≤ g6
def SSt (m : Mc) (g6 : Nat) (vS vM : Value) (w3 : World) (k : Nat) (W : World) : Prop := ∃ vK vF, SAt m g6 vS vM w3 k k vK vF W
theorem sat_k {m : Mc} {g6 : Nat} {vS vM : Value} {w3 : World} {k j : Nat} {vK vF : Value} {W W' : World} {kd : Int} {gP cP : Nat} (h : SAt m g6 vS vM w3 k j vK vF W) (hk : pK m (k + 1) = pK m k ++ [kd])
    (hap : AppI vK (pK m k) (pK m k ++ [kd]) W gP cP W') :
    SAt m g6 vS vM w3 (k + 1) j (.slice (some ⟨gP, 0, none⟩) ((pK m k).length + 1) cP) vF (W'.setCell ⟨g6, 0, none⟩ (.slice (some ⟨gP, 0, none⟩) ((pK m k).length + 1) cP)) ∧
    Fr (fun q => vK.ownBlock = some q ∨ q = g6) W (W'.setCell ⟨g6, 0, none⟩ (.slice (some ⟨gP, 0, none⟩) ((pK m k).length + 1) cP)) := by
  obtain ⟨a1, a2, a3, a4, a5⟩ := hap
  have hb' : SB W' g6 vK vF vS vM m.done := a2.blk h.b (fun e => own_ne_blk h.rk h.b (by decide) e)
  have hs : (pK m k ++ [kd]).length = (pK m k).length + 1 := by simp
  rw [hs] at a1
  have hst := Fr.set (S := fun q => q = g6) W' (.slice (some ⟨gP, 0, none⟩) ((pK m k).length + 1) cP) (p := ⟨g6, 0, none⟩) rfl
  have hfr : Fr (fun q => vK.ownBlock = some q ∨ q = g6) W (W'.setCell ⟨g6, 0, none⟩ (.slice (some ⟨gP, 0, none⟩) ((pK m k).length + 1) cP)) := (a2.mono (fun q hq => Or.inl hq)).trans (hst.mono (fun q hq => Or.inr hq))
  refine ⟨⟨(SB.set hb').1 _, ?_, ?_, ?_, ?_, h.ff, h.lt⟩, hfr⟩
  · rw [hk]; exact a1.fr hst (fun q hq e => own_ne_blk a1 hb' (by decide) (by rw [← e]; exact hq))
  · exact h.rf.fr hfr (fun q hq e => e.elim (fun e => own_ne_type h.rk h.rf (by decide) e hq) (fun e => own_ne_blk h.rf h.b (by decide) (by rw [← e]; exact hq)))
  · exact (Fr.then (S := fun _ => False) (Fr.ofExt h.e) hfr (fun q hq => .inr (hq.elim (h.fk q) (fun e => by have := h.lt; omega)))).ext (fun _ h => h.elim)
  · intro q hq
    simp [Value.ownBlock] at hq
    rcases a3 with e | e
    · exact h.fk q (by rw [e, hq])
    · have := h.e.size; omega
theorem sat_f {m : Mc} {g6 : Nat} {vS vM : Value} {w3 : World} {k j : Nat} {vK vF : Value} {W W' : World} {y : Bool} {gP cP : Nat} (h : SAt m g6 vS vM w3 k j vK vF W) (hk : pF m (j + 1) = pF m j ++ [y])
    (hap : AppB vF (pF m j) (pF m j ++ [y]) W gP cP W') :
    SAt m g6 vS vM w3 k (j + 1) vK (.slice (some ⟨gP, 0, none⟩) ((pF m j).length + 1) cP) (W'.setCell ⟨g6, 1, none⟩ (.slice (some ⟨gP, 0, none⟩) ((pF m j).length + 1) cP)) := by
  obtain ⟨a1, a2, a3, a4, a5⟩ := hap
  have hb' : SB W' g6 vK vF vS vM m.done := a2.blk h.b (fun e => own_ne_blk h.rf h.b (by decide) e)
  have hs : (pF m j ++ [y]).length = (pF m j).length + 1 := by simp
  rw [hs] at a1
  have hst := Fr.set (S := fun q => q = g6) W' (.slice (some ⟨gP, 0, none⟩) ((pF m j).length + 1) cP) (p := ⟨g6, 1, none⟩) rfl
  have hfr : Fr (fun q => vF.ownBlock = some q ∨ q = g6) W (W'.setCell ⟨g6, 1, none⟩ (.slice (some ⟨gP, 0, none⟩) ((pF m j).length + 1) cP)) := (a2.mono (fun q hq => Or.inl hq)).trans (hst.mono (fun q hq => Or.inr hq))
  refine ⟨(SB.set hb').2.1 _, ?_, ?_, ?_, h.fk, ?_, h.lt⟩
  · exact h.rk.fr hfr (fun q hq e => e.elim (fun e => own_ne_type h.rk h.rf (by decide) hq e) (fun e => own_ne_blk h.rk h.b (by decide) (by rw [← e]; exact hq)))
  · rw [hk]; exact a1.fr hst (fun q hq e => own_ne_blk a1 hb' (by decide) (by rw [← e]; exact hq))
  · exact (Fr.then (S := fun _ => False) (Fr.ofExt h.e) hfr (fun q hq => .inr (hq.elim (h.ff q) (fun e => by have := h.lt; omega)))).ext (fun _ h => h.elim)
  · intro q hq
    simp [Value.ownBlock] at hq
    rcases a3 with e | e
    · exact h.ff q (by rw [e, hq])
    · have := h.e.size; omega
theorem sat_ext {m : Mc} {g6 : Nat} {vS vM : Value} {w3 : World} {k j : Nat} {vK vF : Value} {W W' : World} (h : SAt m g6 vS vM w3 k j vK vF W) (e : Ext W W') : SAt m g6 vS vM w3 k j vK vF W' :=
  ⟨e.blk h.b, h.rk.ext e, h.rf.ext e, h.e.trans e, h.fk, h.ff, h.lt⟩
theorem shp_kinds_at (m : Mc) (k : Nat) (h : k < m.nodes.length) : pK m (k + 1) = pK m k ++ [m.nodes[k].kind] := by
  have h' : k < (shp m).kinds.length := by simpa [shp] using h
  unfold pK
  rw [List.take_succ_eq_append_getElem h']
  simp [shp]
theorem shp_full_at (m : Mc) (k : Nat) (h : k < m.nodes.length) : pF m (k + 1) = pF m k ++ [fullOf m.nodes[k]] := by
  have h' : k < (shp m).full.length := by simpa [shp] using h
  unfold pF
  rw [List.take_succ_eq_append_getElem h']
  simp [shp, fullOf]
theorem shp_kl (m : Mc) (k : Nat) (h : k ≤ m.nodes.length) : (pK m k).length = k ∧ (pF m k).length = k := by
  simp [pK, pF, shp]; omega
set_option maxRecDepth 100000 in
set_option maxHeartbeats 2000000 in
theorem ShapesOf_c (A : Option Addr) (c : Nat) (ops : List Opr) (w : World) (hr : RdO w A ops) :
    Calls Try.prog 49 #[.slice A ops.length c] w (OwnS (shapesOf ops) (shapesN ops) w) := by
  have hlen := hr.1
  have HR := As.mk hr
  have hb0 : SB (w.alloc (.cells #[.slice none 0 0, .slice none 0 0, .slice none 0 0, .slice none 0 0, .bool false] 51)) w.heap.size (.slice none 0 0) (.slice none 0 0) (.slice none 0 0) (.slice none 0 0) false := al_new _ _
  have HB0 := As.mk hb0
  have HX0 := As.mk ((Ext.rf w).al (.cells #[.slice none 0 0, .slice none 0 0, .slice none 0 0, .slice none 0 0, .bool false] 51))
  clear hr hb0
  cases hv : vOps ops with
  | false =>
    have HB : As (shapesOf ops = noS ∧ shapesN ops = -1) := ⟨by simp [shapesOf, shapesN, hv]⟩
    have HV := As.mk hv
    clear hv
    go_enter Try.func49, Try.ntmps49
    go_upto_region 2 with (go_at_call 76; refine (ValidOps_c _ _ _ _ (HR.out.ext HX0.out)).mono ?_; rw [HV.out]; rintro e w1 ⟨rfl, he⟩; have HE := As.mk he; clear he)
    have HB1 := HE.out.blk HB0.out
    have HX1 := HX0.out.trans HE.out
    have b0 := SB.c0 HB1; have b1 := SB.c1 HB1; have b2 := SB.c2 HB1; have b3 := SB.c3 HB1; have b4 := SB.c4 HB1
    have f0 := SB.fz HB1 0; have f1 := SB.fz HB1 1; have f2 := SB.fz HB1 2; have f3 := SB.fz HB1 3; have f4 := SB.fz HB1 4
    go_wp2_with fail
    refine bodyPost_ret (results_cellt rfl _ _ w.heap.size _ rfl (loadS (SB.all _ _ _ _ _ HB1))) rfl ?_
    rw [HB.out.1, HB.out.2]
    exact ownS_end HX1 HB1 (noS_sv _) (fun k hk => (noS_sf k hk).elim) false rfl
  | true =>
    have HB : As (shapesOf ops = shp (runP newM ops).1 ∧ shapesN ops = (runP newM ops).2) := ⟨by simp [shapesOf, shapesN, hv]⟩
    have HV := As.mk hv
    clear hv
    go_enter Try.func49, Try.ntmps49
    go_upto_region 3 with (go_at_call 76; refine (ValidOps_c _ _ _ _ (HR.out.ext HX0.out)).mono ?_; rw [HV.out]; rintro e w1 ⟨rfl, he⟩; have HE := As.mk he; clear he)
    have HB1 := As.mk (HE.out.blk HB0.out)
    have HX1 := As.mk (HX0.out.trans HE.out)
    clear HE
    go_upto_region 4 with (go_at_call 77; refine (running_q ShapesOf1_e ShapesOf1_c _ _ _ _ (HR.out.ext HX1.out) HV.out).mono ?_; rintro e w2 ⟨l, vN, vS, vM, rfl, hmv, hok, he⟩; obtain ⟨B3, c3, rfl, _, _⟩ := own_form hmv.nr.1; obtain ⟨B4, c4, rfl, _, _⟩ := own_form hmv.sr; obtain ⟨B5, c5, rfl, _, _⟩ := own_form hmv.me; have HMV := As.mk hmv; have HOK := As.mk hok; have HX2 := As.mk he; clear he hmv hok)
    have hm := al_new w2 (.cells #[.slice B3 l.length c3, .slice B4 (runP newM ops).1.stack.length c4, .slice B5 (runP newM ops).1.memo.length c5, .bool (runP newM ops).1.done] 64)
    have HX3 : As (Ext w2 (w2.alloc (.cells #[.slice B3 l.length c3, .slice B4 (runP newM ops).1.stack.length c4, .slice B5 (runP newM ops).1.memo.length c5, .bool (runP newM ops).1.done] 64))) := ⟨(Ext.rf _).al _⟩
    generalize w2.alloc (.cells #[.slice B3 l.length c3, .slice B4 (runP newM ops).1.stack.length c4, .slice B5 (runP newM ops).1.memo.length c5, .bool (runP newM ops).1.done] 64) = w3 at hm HX3 ⊢
    generalize w2.heap.size = g4 at hm ⊢
    obtain ⟨m, hmm⟩ : ∃ m, m = (runP newM ops).1 := ⟨_, rfl⟩
    rw [← hmm] at hm HMV HOK HB ⊢
    obtain ⟨n, hn⟩ : ∃ n, n = (runP newM ops).2 := ⟨_, rfl⟩
    rw [← hn] at HB ⊢
    clear hmm hn
    have HW : As (Ext w w3 ∧ MV w1.heap.size w3 l (.slice B3 l.length c3) (.slice B4 m.stack.length c4) (.slice B5 m.memo.length c5) m ∧ SB w3 w.heap.size (.slice none 0 0) (.slice none 0 0) (.slice none 0 0) (.slice none 0 0) false ∧ w.heap.size < w1.heap.size) :=
      ⟨⟨(HX1.out.trans HX2.out).trans HX3.out, HMV.out.ext HX3.out, (HX2.out.trans HX3.out).blk HB1.out, SB.lt HB1.out⟩⟩
    have HMB := As.mk hm
    clear HMV HX3 HX2 HX1 HB1 hm
    have p0 := MB.c0 HMB.out; have p1 := MB.c1 HMB.out; have p2 := MB.c2 HMB.out; have p3 := MB.c3 HMB.out
    go_upto_region 5 with fail
    have hs6 : SAt m w3.heap.size (.slice B4 m.stack.length c4) (.slice B5 m.memo.length c5) w3 0 0 (.slice none 0 0) (.slice none 0 0) (w3.alloc (.cells #[.slice none 0 0, .slice none 0 0, .slice B4 m.stack.length c4, .slice B5 m.memo.length c5, .bool m.done] 51)) :=
      ⟨al_new _ _, IR.nil _, BR.nil _, (Ext.rf _).al _, by simp [Fresh, Value.ownBlock], by simp [Fresh, Value.ownBlock], Nat.le_refl _⟩
    have HS6 := As.mk hs6
    clear hs6
    have HXA := As.mk ((Ext.rf w3).al (.cells #[.slice none 0 0, .slice none 0 0, .slice B4 m.stack.length c4, .slice B5 m.memo.length c5, .bool m.done] 51))
    generalize w3.alloc (.cells #[.slice none 0 0, .slice none 0 0, .slice B4 m.stack.length c4, .slice B5 m.memo.length c5, .bool m.done] 51) = w4 at HS6 HXA ⊢
    generalize w3.heap.size = g6 at HS6 ⊢
    have r0 := HXA.out.cellOf p0
    have hnl : l.length = m.nodes.length := by rw [← HW.out.2.1.ns, List.length_map]
    have hnm : m.nodes.length ≤ 300 := HOK.out.nl
    have HNL := As.mk hnl
    have hlm : l.length ≤ 300 := by omega
    clear hnl hnm
    clear p0 p1 p2 p3
    go_wp2_with fail
    go_loopw [28] (fun i wr => ∃ k : Nat, k ≤ l.length ∧ i = .int .i64 k ∧ As (SSt m g6 (.slice B4 m.stack.length c4) (.slice B5 m.memo.length c5) w3 k wr)) (fun i _ => l.length - (intOf i).toNat)
    case atStart => exact ⟨0, Nat.zero_le _, rfl, ⟨⟨_, _, HS6.out⟩⟩⟩
    case round =>
      obtain ⟨k, hk, rfl, hst⟩ := hrel
      obtain ⟨vK, vF, hs⟩ := hst.out
      clear hst HS6 HXA r0
      by_cases hlt : k < l.length
      · have hrn : RdN w3 B3 m.nodes := by
          obtain ⟨A', c', hv, _, hr⟩ := HW.out.2.1.nr.rd (by have := HNL.out; omega)
          injection hv with h1 _ _
          subst h1
          rw [HW.out.2.1.ns] at hr
          exact hr
        have hkm : k < m.nodes.length := by have := HNL.out; omega
        obtain ⟨ad, K, cK, rfl, k0, k1, k2, hcK, hrK⟩ := (hrn.ext hs.e).2 k hkm
        obtain ⟨kd, hkd⟩ : ∃ kd, kd = m.nodes[k].kind := ⟨_, rfl⟩
        obtain ⟨vl, hvl⟩ : ∃ vl, vl = m.nodes[k].val := ⟨_, rfl⟩
        obtain ⟨ks, hks⟩ : ∃ ks, ks = m.nodes[k].kids := ⟨_, rfl⟩
        rw [← hkd] at k0
        rw [← hvl] at k1
        rw [← hks] at k2 hcK
        have HFU : As (fullOf m.nodes[k] = (kd == 5 && !ks.isEmpty)) := ⟨by rw [hkd, hks]; rfl⟩
        have HKD := As.mk hkd
        have HKM := As.mk hkm
        have hksl := hrK.1
        rw [← hks] at hksl
        clear hkd hvl hks hrn hrK
        obtain ⟨hkl1, hkl2⟩ := shp_kl m k (by have := HNL.out; omega)
        obtain ⟨vKA, vKc, rfl, _, _⟩ := own_form hs.rk
        obtain ⟨vFA, vFc, rfl, _, _⟩ := own_form hs.rf
        have HS := As.mk hs
        have HKL := As.mk hkl1
        have HFL := As.mk hkl2
        clear hs hkl1 hkl2
        go_upto_region 8 with fail
        have hx : Ext wr (wr.alloc (.cells #[.int .i64 kd, .int .i64 vl, .slice K ks.length cK] 96)) := (Ext.rf _).al _
        have n0 : (wr.alloc (.cells #[.int .i64 kd, .int .i64 vl, .slice K ks.length cK] 96)).cell? ⟨wr.heap.size, 0, none⟩ = some (.int .i64 kd) := World.cell?_alloc_new ..
        have n2 : (wr.alloc (.cells #[.int .i64 kd, .int .i64 vl, .slice K ks.length cK] 96)).cell? ⟨wr.heap.size, 2, none⟩ = some (.slice K ks.length cK) := World.cell?_alloc_new ..
        have hgl : g6 < wr.heap.size := HS.out.b.lt
        generalize wr.alloc (.cells #[.int .i64 kd, .int .i64 vl, .slice K ks.length cK] 96) = w5 at hx n0 n2 ⊢
        generalize hgN : wr.heap.size = gN at n0 n2 hgl ⊢
        have HX5 := As.mk hx
        have HN0 := As.mk n0
        have HN2 := As.mk n2
        have HS5 := As.mk (sat_ext HS.out hx)
        have HGK : As (∀ q, (Value.slice vKA (pK m k).length vKc).ownBlock = some q ∨ q = g6 → q ≠ gN) := ⟨fun q hq e => hq.elim (fun h => by have := own_lt HS.out.rk h; omega) (fun h => by omega)⟩
        have e0 := SB.c0 HS5.out.b
        clear hx k0 k1 k2 hgl n2 hgN
        go_upto_region 9 with (at_builtin; go_loud (refine app_int rfl _ _ rfl (.slice vKA (pK m k).length vKc) (pK m k) kd rfl rfl HS5.out.rk (by have := HKL.out; omega) ?_; intro gP cP w6 hap; have HP := As.mk hap; have hb6 := hap.2.1.blk HS5.out.b (fun e => own_ne_blk HS5.out.rk HS5.out.b (by decide) e); clear hap e0; have e0 := SB.c0 hb6; have f0 := SB.fz hb6 0; clear hb6))
        have hsk := sat_k HS5.out (show pK m (k + 1) = pK m k ++ [kd] by rw [shp_kinds_at m k hkm, HKD.out]) HP.out
        have HFA := As.mk (shp_full_at m k hkm)
        have HS7 := As.mk hsk.1
        have n0 := hsk.2.cell HN0.out (fun h => HGK.out gN h rfl)
        have n2 := hsk.2.cell HN2.out (fun h => HGK.out gN h rfl)
        have HK7 := As.mk (shp_kl m (k + 1) hkm)
        clear hsk e0 f0 HS5 HP HN0 HN2 HGK
        generalize w6.setCell ⟨g6, 0, none⟩ (.slice (some ⟨gP, 0, none⟩) ((pK m k).length + 1) cP) = w7 at HS7 n0 n2 ⊢
        have e1 := SB.c1 HS7.out.b
        rcases bceq kd 5 with h5 | h5
        · subst h5
          cases ks with
          | nil =>
            go_wp2_with ((at_builtin; refine app_bool rfl _ _ rfl (.slice vFA (pF m k).length vFc) (pF m k) false rfl rfl HS7.out.rf (by have := HFL.out; omega) ?_; intro gQ cQ w8 hap; have HQ := As.mk hap; have hb8 := hap.2.1.blk HS7.out.b (fun e => own_ne_blk HS7.out.rf HS7.out.b (by decide) e); clear hap e1; have e1 := SB.c1 hb8; have f1 := SB.fz hb8 1; clear hb8))
            go_roundw
            case measure => first | (simp only [intOf]; omega) | (simp [intOf]; omega)
            case rel =>
              have hfin := sat_f HS7.out (show pF m (k + 1) = pF m k ++ [false] by rw [HFA.out, HFU.out]; rfl) HQ.out
              exact ⟨k + 1, by omega, by go_num, ⟨⟨_, _, hfin⟩⟩⟩
          | cons k0 kr =>
            have hk0 : (0 : Int) < (kr.length : Int) + 1 := by omega
            go_wp2_with ((at_builtin; refine app_bool rfl _ _ rfl (.slice vFA (pF m k).length vFc) (pF m k) true rfl rfl HS7.out.rf (by have := HFL.out; omega) ?_; intro gQ cQ w8 hap; have HQ := As.mk hap; have hb8 := hap.2.1.blk HS7.out.b (fun e => own_ne_blk HS7.out.rf HS7.out.b (by decide) e); clear hap e1; have e1 := SB.c1 hb8; have f1 := SB.fz hb8 1; clear hb8))
            go_roundw
            case measure => first | (simp only [intOf]; omega) | (simp [intOf]; omega)
            case rel =>
              have hfin := sat_f HS7.out (show pF m (k + 1) = pF m k ++ [true] by rw [HFA.out, HFU.out]; rfl) HQ.out
              exact ⟨k + 1, by omega, by go_num, ⟨⟨_, _, hfin⟩⟩⟩
        · have h5' : (kd == 5) = false := by simpa using h5
          go_wp2_with ((at_builtin; refine app_bool rfl _ _ rfl (.slice vFA (pF m k).length vFc) (pF m k) false rfl rfl HS7.out.rf (by have := HFL.out; omega) ?_; intro gQ cQ w8 hap; have HQ := As.mk hap; have hb8 := hap.2.1.blk HS7.out.b (fun e => own_ne_blk HS7.out.rf HS7.out.b (by decide) e); clear hap e1; have e1 := SB.c1 hb8; have f1 := SB.fz hb8 1; clear hb8))
          go_roundw
          case measure => first | (simp only [intOf]; omega) | (simp [intOf]; omega)
          case rel =>
            have hfin := sat_f HS7.out (show pF m (k + 1) = pF m k ++ [false] by rw [HFA.out, HFU.out]; rw [h5']; rfl) HQ.out
            exact ⟨k + 1, by omega, by go_num, ⟨⟨_, _, hfin⟩⟩⟩
      · have hkl : k = l.length := by omega
        subst hkl
        have hbr := hs.e.blk HW.out.2.2.1
        have s0 := SB.c0 hs.b; have s1 := SB.c1 hs.b; have s2 := SB.c2 hs.b; have s3 := SB.c3 hs.b; have s4 := SB.c4 hs.b
        have b0 := SB.c0 hbr; have b1 := SB.c1 hbr; have b2 := SB.c2 hbr; have b3 := SB.c3 hbr; have b4 := SB.c4 hbr
        have f0 := SB.fz hbr 0; have f1 := SB.fz hbr 1; have f2 := SB.fz hbr 2; have f3 := SB.fz hbr 3; have f4 := SB.fz hbr 4
        obtain ⟨vKA, vKc, rfl, _, _⟩ := own_form hs.rk
        obtain ⟨vFA, vFc, rfl, _, _⟩ := own_form hs.rf
        have HS := As.mk hs
        have HBR := As.mk hbr
        clear hs hbr
        go_wp2_with fail
        refine bodyPost_ret (results_cellt rfl _ _ w.heap.size _ rfl (loadS (SB.all _ _ _ _ _ HBR.out))) rfl ?_
        rw [HB.out.1, HB.out.2]
        have hs := HS.out
        obtain ⟨hw1, hmv, _, hw4⟩ := HW.out
        have hlm2 := HNL.out
        have hk1 : pK m l.length = (shp m).kinds := by unfold pK; rw [hlm2]; exact List.take_of_length_le (by simp [shp])
        have hk2 : pF m l.length = (shp m).full := by unfold pF; rw [hlm2]; exact List.take_of_length_le (by simp [shp])
        have hf3 : ∀ {v : Value} {q : Nat}, Fresh v w3 → v.ownBlock = some q → w.heap.size ≤ q := fun hf hq => Nat.le_trans hw1.size (hf _ hq)
        have hv : SV wr (.slice vKA (pK m l.length).length vKc) (.slice vFA (pF m l.length).length vFc) (.slice B4 m.stack.length c4) (.slice B5 m.memo.length c5) (shp m) :=
          ⟨hk1 ▸ hs.rk, hk2 ▸ hs.rf, hmv.sr.ext hs.e, hmv.me.ext hs.e, (Apart.fresh (fun q hq => own_lt hmv.sr hq) hs.fk).symm, (Apart.fresh (fun q hq => own_lt hmv.me hq) hs.fk).symm, hmv.sm⟩
        refine ownS_end (hw1.trans hs.e) HBR.out hv (fun q hq => ?_) m.done rfl
        rcases hq with h | h | h | h
        · exact hf3 hs.fk h
        · exact hf3 hs.ff h
        · exact Nat.le_trans (Nat.le_of_lt hw4) (hmv.loS q h)
        · exact Nat.le_trans (Nat.le_of_lt hw4) (hmv.loM q h)
end Go.Proofs.Ytcodbpjaamggeaa.C
