/- The reference's machine: one order. -/
import Derived.Test.YtcodbpjaamggeaaMe
set_option linter.unusedVariables false
set_option linter.unusedSimpArgs false
namespace Go.Proofs.Ytcodbpjaamggeaa.C
open Go.RowKit Go.Proofs.Ytcodbpjaamggeaa.W Go.Proofs.Ytcodbpjaamggeaa.P

/-- The bounds of a machine. -/
def fitM (m : Mc) : Option Mc := if m.nodes.length ≤ 300 ∧ m.stack.length ≤ 300 then some m else none
theorem stepX_some {B m' w e w'} (h : StepX B (some m') w e w') : ∃ l AN nN cN AS nS cS AM nM cM, e = .returned (.tuple #[.agg #[.slice AN nN cN, .slice AS nS cS, .slice AM nM cM, .bool m'.done], .bool true]) ∧ MW B w' l (.slice AN nN cN) (.slice AS nS cS) (.slice AM nM cM) m' ∧ Fr B w w' := by
  obtain ⟨AN, nN, cN, AS, nS, cS, AM, nM, cM, x, rfl, hf, hm⟩ := h
  obtain ⟨rfl, l, hv⟩ := hm _ rfl
  exact ⟨l, AN, nN, cN, AS, nS, cS, AM, nM, cM, rfl, hv, hf⟩
theorem stepX_none {B w e w'} (h : StepX B none w e w') : ∃ AN nN cN AS nS cS AM nM cM x, e = .returned (.tuple #[.agg #[.slice AN nN cN, .slice AS nS cS, .slice AM nM cM, .bool x], .bool false]) ∧ Fr B w w' := by
  obtain ⟨AN, nN, cN, AS, nS, cS, AM, nM, cM, x, rfl, hf, _⟩ := h
  exact ⟨AN, nN, cN, AS, nS, cS, AM, nM, cM, x, rfl, hf⟩
theorem mx_lens {B X w0 w g g2 l AN nN cN AS nS cS vM m} (h : MX B X w0 w g g2 l (.slice AN nN cN) (.slice AS nS cS) vM m) : nN = m.nodes.length ∧ nS = m.stack.length := by
  obtain ⟨A, c, h1, _, _⟩ := own_form h.a.nr.1
  obtain ⟨A', c', h2, _, _⟩ := own_form h.a.sr
  injection h1 with _ h1
  injection h2 with _ h2
  exact ⟨by rw [h1, h.a.nl], h2⟩
set_option maxRecDepth 100000 in
set_option maxHeartbeats 4000000 in
theorem mstep_0 {B Bd w l vN vS vM m} (h : MW B w l vN vS vM m) (hok : okM Bd m) (hd : m.done = false) (arg : Int) :
    Calls Try.prog 123 #[.agg #[vN, vS, vM, .bool m.done], .agg #[.int .i64 0, .int .i64 arg]] w (StepX B (fitM (pushN m 0 arg [])) w) := by
  obtain ⟨AN, cN, AS, cS, AM, cM, rfl, rfl, rfl, hrm, hcS⟩ := h.rm (by have := hok.nl; omega) (by have := hok.sl; omega) (by have := hok.ml; omega)
  have HX := As.mk (h.box (W := ((w.alloc (.cells #[.slice AN m.nodes.length cN, .slice AS m.stack.length cS, .slice AM m.memo.length cM, .bool m.done] 64)).alloc (.cells #[.int .i64 0, .int .i64 arg] 82)).alloc (.cells #[.slice none 0 0, .slice none 0 0, .slice none 0 0, .bool false] 64)) (fun k => k = w.heap.size ∨ k = w.heap.size + 1 ∨ k = w.heap.size + 1 + 1) (g := w.heap.size) (g2 := w.heap.size + 1 + 1) ((((Ext.rf w).al _).al _).al _) (((((Ext.rf _).al _)).al _).blk (al_new _ _)) (by have := al_new ((w.alloc (.cells #[.slice AN m.nodes.length cN, .slice AS m.stack.length cS, .slice AM m.memo.length cM, .bool m.done] 64)).alloc (.cells #[.int .i64 0, .int .i64 arg] 82)) (.cells #[.slice none 0 0, .slice none 0 0, .slice none 0 0, .bool false] 64); rw [al_size, al_size] at this; exact this) (.inl rfl) (.inr (.inr rfl)) (by omega) (fun k hk => by rw [al_size, al_size, al_size]; omega))
  have HO := As.mk (show (((w.alloc (.cells #[.slice AN m.nodes.length cN, .slice AS m.stack.length cS, .slice AM m.memo.length cM, .bool m.done] 64)).alloc (.cells #[.int .i64 0, .int .i64 arg] 82)).alloc (.cells #[.slice none 0 0, .slice none 0 0, .slice none 0 0, .bool false] 64)).heap[w.heap.size + 1]? = some (.cells #[.int .i64 0, .int .i64 arg] 82 (0, 0)) from by have := ((Ext.rf _).al (.cells #[.slice none 0 0, .slice none 0 0, .slice none 0 0, .bool false] 64)).blk (al_new (w.alloc (.cells #[.slice AN m.nodes.length cN, .slice AS m.stack.length cS, .slice AM m.memo.length cM, .bool m.done] 64)) (.cells #[.int .i64 0, .int .i64 arg] 82)); rw [al_size] at this; exact this)
  have HOK := As.mk hok
  have q1 := hok.nl
  have q2 := hok.sl
  have q3 : m.memo.length ≤ 1000000 := by have := hok.ml; omega
  have HD0 := As.mk hd
  clear hd
  obtain ⟨r, hr⟩ : ∃ r, r = fitM (pushN m 0 arg []) := ⟨_, rfl⟩
  have HR := As.mk hr
  rw [← hr]
  clear hr
  clear h hrm hok
  go_enter Try.func123, Try.ntmps123
  go_upto_region 1 with fail
  obtain ⟨w1, hw1⟩ : ∃ w1, w1 = ((w.alloc (.cells #[.slice AN m.nodes.length cN, .slice AS m.stack.length cS, .slice AM m.memo.length cM, .bool m.done] 64)).alloc (.cells #[.int .i64 0, .int .i64 arg] 82)).alloc (.cells #[.slice none 0 0, .slice none 0 0, .slice none 0 0, .bool false] 64) := ⟨_, rfl⟩
  rw [← hw1] at HX HO ⊢
  clear hw1
  obtain ⟨g, hg⟩ : ∃ g, g = w.heap.size := ⟨_, rfl⟩
  rw [← hg] at HX HO ⊢
  clear hg
  have c0 := MB.c0 HX.out.a.mb; have c1 := MB.c1 HX.out.a.mb; have c2 := MB.c2 HX.out.a.mb; have c3 := MB.c3 HX.out.a.mb
  have o0 : w1.cell? ⟨g + 1, 0, none⟩ = some (.int .i64 0) := by simp [World.cell?, HO.out]
  have o1 : w1.cell? ⟨g + 1, 1, none⟩ = some (.int .i64 arg) := by simp [World.cell?, HO.out]
  rw [HD0.out] at c3
  go_upto_region 34 with (go_at_call 147; have hc := spush_c HX.out.mw 0 arg (.slice none 0 0) [] (IR.nil _) (by simp) (fun k hk => by simp [Value.ownBlock] at hk) (fun p hp k h1 h2 => by simp [Value.ownBlock] at h2) (fun k h1 _ => by simp [Value.ownBlock] at h1) (fun k h1 _ => by simp [Value.ownBlock] at h1) (by omega) (by omega) q3; rw [HD0.out] at hc; refine hc.mono ?_; rintro e w5 hr; obtain ⟨l5, BN, nN, cN', BS, nS, cS', BM, nM, cM', rfl, hv, hf⟩ := machS_of hr; have HV := As.mk hv; have HF := As.mk hf; have hb := hf.blk HX.out.a.mb (fun e => e.2 HX.out.xg); have e0 := MB.c0 hb; have e1 := MB.c1 hb; have e2 := MB.c2 hb; have e3 := MB.c3 hb; have b0 := MB.fz hb 0; have b1 := MB.fz hb 1; have b2 := MB.fz hb 2; have b3 := MB.fz hb 3; clear hr hv hf hb hc)
  have hz := HX.out.put HV.out HF.out
  clear HV HF HX e0 e1 e2 e3 b0 b1 b2 b3 o0 o1
  have HZ := As.mk hz
  clear hz
  generalize ((((w5.setCell ⟨g, 0, none⟩ (.slice BN nN cN')).setCell ⟨g, 1, none⟩ (.slice BS nS cS')).setCell ⟨g, 2, none⟩ (.slice BM nM cM')).setCell ⟨g, 3, none⟩ (.bool (pushN m 0 arg []).done)) = wZ at HZ ⊢
  clear c0 c1 c2 c3
  have c0 := MB.c0 HZ.out.a.mb; have c1 := MB.c1 HZ.out.a.mb; have c2 := MB.c2 HZ.out.a.mb; have c3 := MB.c3 HZ.out.a.mb
  have d0 := MB.c0 HZ.out.r; have d1 := MB.c1 HZ.out.r; have d2 := MB.c2 HZ.out.r; have d3 := MB.c3 HZ.out.r
  have f0 := MB.fz HZ.out.r 0; have f1 := MB.fz HZ.out.r 1; have f2 := MB.fz HZ.out.r 2; have f3 := MB.fz HZ.out.r 3
  have HL := As.mk (mx_lens HZ.out)
  rcases Nat.lt_or_ge 300 nN with hnn | hnn
  · have q5 : ¬ ((nN : Int) ≤ 300) := by omega
    refine region_perm (fun w' => w'.cell? ⟨g, 0, none⟩ = some (.slice BN nN cN') ∧ w'.cell? ⟨g, 1, none⟩ = some (.slice BS nS cS') ∧ w'.cell? ⟨g, 2, none⟩ = some (.slice BM nM cM') ∧ w'.cell? ⟨g, 3, none⟩ = some (.bool (pushN m 0 arg []).done)) [] [(0, 1), (1, 0), (2, 1), (3, 0), (4, 0), (5, 0), (6, 0), (7, 1), (8, 0), (9, 0), (10, 0), (11, 2), (12, 0)] (by kernel_rfl) (by kernel_rfl) rfl (by kernel_rfl) (fun _ _ _ _ h => h) ?_
    have hS := And.intro c0 (And.intro c1 (And.intro c2 c3))
    repeat (first | refine wpP.c0 (h := ?_) | refine wpP.c1 (w := wZ.drew) hS (h := ?_) | refine wpP.c0off (h := ?_) | refine wpP.c1off (w := wZ.drew) hS (h := ?_))
    refine wpP.ev (h := fun Kv hKv => ?_)
    go_wp2_with fail
    have hf4 := Fr.set4 (S := fun k => k = g + 1 + 1) (w := wZ) (g := g + 1 + 1) rfl (.slice BN nN cN') (.slice BS nS cS') (.slice BM nM cM') (.bool (pushN m 0 arg []).done)
    refine hKv.out _ _ ⟨(Ext.rf _).dr.cellOf (hf4.cell c0 (by show ¬ g = g + 1 + 1; omega)), (Ext.rf _).dr.cellOf (hf4.cell c1 (by show ¬ g = g + 1 + 1; omega)), (Ext.rf _).dr.cellOf (hf4.cell c2 (by show ¬ g = g + 1 + 1; omega)), (Ext.rf _).dr.cellOf (hf4.cell c3 (by show ¬ g = g + 1 + 1; omega))⟩ ?_
    clear hf4
    repeat (first | refine wpP.c0 (h := ?_))
    refine wpP.done ?_
    clear hKv Kv hS
    go_wp2_with fail
    have ho := HZ.out.out
    refine bodyPost_ret (results_cellt rfl _ _ (g + 1 + 1) _ rfl (loadM ((Ext.rf _).dr.blk ho.2.2))) rfl ?_
    rw [HR.out]
    have HD : fitM (pushN m 0 arg []) = none := by
      have := HL.out.1
      unfold fitM
      rw [if_neg (by omega)]
    rw [HD]
    exact ⟨_, _, _, _, _, _, _, _, _, _, rfl, ho.2.1.trans (Fr.ofExt ((Ext.rf _).dr)), fun _ hm => nomatch hm⟩
  · have q5 : (nN : Int) ≤ 300 := by omega
    refine region_perm (fun w' => w'.cell? ⟨g, 0, none⟩ = some (.slice BN nN cN') ∧ w'.cell? ⟨g, 1, none⟩ = some (.slice BS nS cS') ∧ w'.cell? ⟨g, 2, none⟩ = some (.slice BM nM cM') ∧ w'.cell? ⟨g, 3, none⟩ = some (.bool (pushN m 0 arg []).done)) [] [(0, 1), (1, 0), (2, 1), (3, 0), (4, 0), (5, 0), (6, 0), (7, 1), (8, 0), (9, 0), (10, 0), (11, 2), (12, 0)] (by kernel_rfl) (by kernel_rfl) rfl (by kernel_rfl) (fun _ _ _ _ h => h) ?_
    have hS := And.intro c0 (And.intro c1 (And.intro c2 c3))
    repeat (first | refine wpP.c0 (h := ?_) | refine wpP.c1 (w := wZ.drew) hS (h := ?_) | refine wpP.c0off (h := ?_) | refine wpP.c1off (w := wZ.drew) hS (h := ?_))
    refine wpP.ev (h := fun Kv hKv => ?_)
    go_wp2_with fail
    have hf4 := Fr.set4 (S := fun k => k = g + 1 + 1) (w := wZ) (g := g + 1 + 1) rfl (.slice BN nN cN') (.slice BS nS cS') (.slice BM nM cM') (.bool (pushN m 0 arg []).done)
    refine hKv.out _ _ ⟨(Ext.rf _).dr.cellOf (hf4.cell c0 (by show ¬ g = g + 1 + 1; omega)), (Ext.rf _).dr.cellOf (hf4.cell c1 (by show ¬ g = g + 1 + 1; omega)), (Ext.rf _).dr.cellOf (hf4.cell c2 (by show ¬ g = g + 1 + 1; omega)), (Ext.rf _).dr.cellOf (hf4.cell c3 (by show ¬ g = g + 1 + 1; omega))⟩ ?_
    clear hf4
    repeat (first | refine wpP.c0 (h := ?_))
    refine wpP.done ?_
    clear hKv Kv hS
    go_wp2_with fail
    have ho := HZ.out.out
    refine bodyPost_ret (results_cellt rfl _ _ (g + 1 + 1) _ rfl (loadM ((Ext.rf _).dr.blk ho.2.2))) rfl ?_
    rw [HR.out]
    have HD : (fitM (pushN m 0 arg [])).isSome = decide ((nS : Int) ≤ 300) := by
      have h1 := HL.out.1
      have h2 := HL.out.2
      unfold fitM
      by_cases hl : (pushN m 0 arg []).stack.length ≤ 300
      · rw [if_pos ⟨by omega, hl⟩]; symm; simp; omega
      · rw [if_neg (by omega)]; symm; simp; omega
    unfold StepX
    rw [HD]
    refine ⟨_, _, _, _, _, _, _, _, _, _, rfl, ho.2.1.trans (Fr.ofExt ((Ext.rf _).dr)), fun m' hm => ?_⟩
    unfold fitM at hm
    split at hm
    · injection hm with hm
      subst hm
      exact ⟨rfl, _, ho.1.ext ((Ext.rf _).dr)⟩
    · exact nomatch hm
set_option maxRecDepth 100000 in
set_option maxHeartbeats 4000000 in
theorem mstep_1 {B Bd w l vN vS vM m} (h : MW B w l vN vS vM m) (hok : okM Bd m) (hd : m.done = false) (arg : Int) :
    Calls Try.prog 123 #[.agg #[vN, vS, vM, .bool m.done], .agg #[.int .i64 1, .int .i64 arg]] w (StepX B (fitM (pushN m 1 arg [])) w) := by
  obtain ⟨AN, cN, AS, cS, AM, cM, rfl, rfl, rfl, hrm, hcS⟩ := h.rm (by have := hok.nl; omega) (by have := hok.sl; omega) (by have := hok.ml; omega)
  have HX := As.mk (h.box (W := ((w.alloc (.cells #[.slice AN m.nodes.length cN, .slice AS m.stack.length cS, .slice AM m.memo.length cM, .bool m.done] 64)).alloc (.cells #[.int .i64 1, .int .i64 arg] 82)).alloc (.cells #[.slice none 0 0, .slice none 0 0, .slice none 0 0, .bool false] 64)) (fun k => k = w.heap.size ∨ k = w.heap.size + 1 ∨ k = w.heap.size + 1 + 1) (g := w.heap.size) (g2 := w.heap.size + 1 + 1) ((((Ext.rf w).al _).al _).al _) (((((Ext.rf _).al _)).al _).blk (al_new _ _)) (by have := al_new ((w.alloc (.cells #[.slice AN m.nodes.length cN, .slice AS m.stack.length cS, .slice AM m.memo.length cM, .bool m.done] 64)).alloc (.cells #[.int .i64 1, .int .i64 arg] 82)) (.cells #[.slice none 0 0, .slice none 0 0, .slice none 0 0, .bool false] 64); rw [al_size, al_size] at this; exact this) (.inl rfl) (.inr (.inr rfl)) (by omega) (fun k hk => by rw [al_size, al_size, al_size]; omega))
  have HO := As.mk (show (((w.alloc (.cells #[.slice AN m.nodes.length cN, .slice AS m.stack.length cS, .slice AM m.memo.length cM, .bool m.done] 64)).alloc (.cells #[.int .i64 1, .int .i64 arg] 82)).alloc (.cells #[.slice none 0 0, .slice none 0 0, .slice none 0 0, .bool false] 64)).heap[w.heap.size + 1]? = some (.cells #[.int .i64 1, .int .i64 arg] 82 (0, 0)) from by have := ((Ext.rf _).al (.cells #[.slice none 0 0, .slice none 0 0, .slice none 0 0, .bool false] 64)).blk (al_new (w.alloc (.cells #[.slice AN m.nodes.length cN, .slice AS m.stack.length cS, .slice AM m.memo.length cM, .bool m.done] 64)) (.cells #[.int .i64 1, .int .i64 arg] 82)); rw [al_size] at this; exact this)
  have HOK := As.mk hok
  have q1 := hok.nl
  have q2 := hok.sl
  have q3 : m.memo.length ≤ 1000000 := by have := hok.ml; omega
  have HD0 := As.mk hd
  clear hd
  obtain ⟨r, hr⟩ : ∃ r, r = fitM (pushN m 1 arg []) := ⟨_, rfl⟩
  have HR := As.mk hr
  rw [← hr]
  clear hr
  clear h hrm hok
  go_enter Try.func123, Try.ntmps123
  go_upto_region 1 with fail
  obtain ⟨w1, hw1⟩ : ∃ w1, w1 = ((w.alloc (.cells #[.slice AN m.nodes.length cN, .slice AS m.stack.length cS, .slice AM m.memo.length cM, .bool m.done] 64)).alloc (.cells #[.int .i64 1, .int .i64 arg] 82)).alloc (.cells #[.slice none 0 0, .slice none 0 0, .slice none 0 0, .bool false] 64) := ⟨_, rfl⟩
  rw [← hw1] at HX HO ⊢
  clear hw1
  obtain ⟨g, hg⟩ : ∃ g, g = w.heap.size := ⟨_, rfl⟩
  rw [← hg] at HX HO ⊢
  clear hg
  have c0 := MB.c0 HX.out.a.mb; have c1 := MB.c1 HX.out.a.mb; have c2 := MB.c2 HX.out.a.mb; have c3 := MB.c3 HX.out.a.mb
  have o0 : w1.cell? ⟨g + 1, 0, none⟩ = some (.int .i64 1) := by simp [World.cell?, HO.out]
  have o1 : w1.cell? ⟨g + 1, 1, none⟩ = some (.int .i64 arg) := by simp [World.cell?, HO.out]
  rw [HD0.out] at c3
  go_upto_region 34 with (go_at_call 147; have hc := spush_c HX.out.mw 1 arg (.slice none 0 0) [] (IR.nil _) (by simp) (fun k hk => by simp [Value.ownBlock] at hk) (fun p hp k h1 h2 => by simp [Value.ownBlock] at h2) (fun k h1 _ => by simp [Value.ownBlock] at h1) (fun k h1 _ => by simp [Value.ownBlock] at h1) (by omega) (by omega) q3; rw [HD0.out] at hc; refine hc.mono ?_; rintro e w5 hr; obtain ⟨l5, BN, nN, cN', BS, nS, cS', BM, nM, cM', rfl, hv, hf⟩ := machS_of hr; have HV := As.mk hv; have HF := As.mk hf; have hb := hf.blk HX.out.a.mb (fun e => e.2 HX.out.xg); have e0 := MB.c0 hb; have e1 := MB.c1 hb; have e2 := MB.c2 hb; have e3 := MB.c3 hb; have b0 := MB.fz hb 0; have b1 := MB.fz hb 1; have b2 := MB.fz hb 2; have b3 := MB.fz hb 3; clear hr hv hf hb hc)
  have hz := HX.out.put HV.out HF.out
  clear HV HF HX e0 e1 e2 e3 b0 b1 b2 b3 o0 o1
  have HZ := As.mk hz
  clear hz
  generalize ((((w5.setCell ⟨g, 0, none⟩ (.slice BN nN cN')).setCell ⟨g, 1, none⟩ (.slice BS nS cS')).setCell ⟨g, 2, none⟩ (.slice BM nM cM')).setCell ⟨g, 3, none⟩ (.bool (pushN m 1 arg []).done)) = wZ at HZ ⊢
  clear c0 c1 c2 c3
  have c0 := MB.c0 HZ.out.a.mb; have c1 := MB.c1 HZ.out.a.mb; have c2 := MB.c2 HZ.out.a.mb; have c3 := MB.c3 HZ.out.a.mb
  have d0 := MB.c0 HZ.out.r; have d1 := MB.c1 HZ.out.r; have d2 := MB.c2 HZ.out.r; have d3 := MB.c3 HZ.out.r
  have f0 := MB.fz HZ.out.r 0; have f1 := MB.fz HZ.out.r 1; have f2 := MB.fz HZ.out.r 2; have f3 := MB.fz HZ.out.r 3
  have HL := As.mk (mx_lens HZ.out)
  rcases Nat.lt_or_ge 300 nN with hnn | hnn
  · have q5 : ¬ ((nN : Int) ≤ 300) := by omega
    refine region_perm (fun w' => w'.cell? ⟨g, 0, none⟩ = some (.slice BN nN cN') ∧ w'.cell? ⟨g, 1, none⟩ = some (.slice BS nS cS') ∧ w'.cell? ⟨g, 2, none⟩ = some (.slice BM nM cM') ∧ w'.cell? ⟨g, 3, none⟩ = some (.bool (pushN m 1 arg []).done)) [] [(0, 1), (1, 0), (2, 1), (3, 0), (4, 0), (5, 0), (6, 0), (7, 1), (8, 0), (9, 0), (10, 0), (11, 2), (12, 0)] (by kernel_rfl) (by kernel_rfl) rfl (by kernel_rfl) (fun _ _ _ _ h => h) ?_
    have hS := And.intro c0 (And.intro c1 (And.intro c2 c3))
    repeat (first | refine wpP.c0 (h := ?_) | refine wpP.c1 (w := wZ.drew) hS (h := ?_) | refine wpP.c0off (h := ?_) | refine wpP.c1off (w := wZ.drew) hS (h := ?_))
    refine wpP.ev (h := fun Kv hKv => ?_)
    go_wp2_with fail
    have hf4 := Fr.set4 (S := fun k => k = g + 1 + 1) (w := wZ) (g := g + 1 + 1) rfl (.slice BN nN cN') (.slice BS nS cS') (.slice BM nM cM') (.bool (pushN m 1 arg []).done)
    refine hKv.out _ _ ⟨(Ext.rf _).dr.cellOf (hf4.cell c0 (by show ¬ g = g + 1 + 1; omega)), (Ext.rf _).dr.cellOf (hf4.cell c1 (by show ¬ g = g + 1 + 1; omega)), (Ext.rf _).dr.cellOf (hf4.cell c2 (by show ¬ g = g + 1 + 1; omega)), (Ext.rf _).dr.cellOf (hf4.cell c3 (by show ¬ g = g + 1 + 1; omega))⟩ ?_
    clear hf4
    repeat (first | refine wpP.c0 (h := ?_))
    refine wpP.done ?_
    clear hKv Kv hS
    go_wp2_with fail
    have ho := HZ.out.out
    refine bodyPost_ret (results_cellt rfl _ _ (g + 1 + 1) _ rfl (loadM ((Ext.rf _).dr.blk ho.2.2))) rfl ?_
    rw [HR.out]
    have HD : fitM (pushN m 1 arg []) = none := by
      have := HL.out.1
      unfold fitM
      rw [if_neg (by omega)]
    rw [HD]
    exact ⟨_, _, _, _, _, _, _, _, _, _, rfl, ho.2.1.trans (Fr.ofExt ((Ext.rf _).dr)), fun _ hm => nomatch hm⟩
  · have q5 : (nN : Int) ≤ 300 := by omega
    refine region_perm (fun w' => w'.cell? ⟨g, 0, none⟩ = some (.slice BN nN cN') ∧ w'.cell? ⟨g, 1, none⟩ = some (.slice BS nS cS') ∧ w'.cell? ⟨g, 2, none⟩ = some (.slice BM nM cM') ∧ w'.cell? ⟨g, 3, none⟩ = some (.bool (pushN m 1 arg []).done)) [] [(0, 1), (1, 0), (2, 1), (3, 0), (4, 0), (5, 0), (6, 0), (7, 1), (8, 0), (9, 0), (10, 0), (11, 2), (12, 0)] (by kernel_rfl) (by kernel_rfl) rfl (by kernel_rfl) (fun _ _ _ _ h => h) ?_
    have hS := And.intro c0 (And.intro c1 (And.intro c2 c3))
    repeat (first | refine wpP.c0 (h := ?_) | refine wpP.c1 (w := wZ.drew) hS (h := ?_) | refine wpP.c0off (h := ?_) | refine wpP.c1off (w := wZ.drew) hS (h := ?_))
    refine wpP.ev (h := fun Kv hKv => ?_)
    go_wp2_with fail
    have hf4 := Fr.set4 (S := fun k => k = g + 1 + 1) (w := wZ) (g := g + 1 + 1) rfl (.slice BN nN cN') (.slice BS nS cS') (.slice BM nM cM') (.bool (pushN m 1 arg []).done)
    refine hKv.out _ _ ⟨(Ext.rf _).dr.cellOf (hf4.cell c0 (by show ¬ g = g + 1 + 1; omega)), (Ext.rf _).dr.cellOf (hf4.cell c1 (by show ¬ g = g + 1 + 1; omega)), (Ext.rf _).dr.cellOf (hf4.cell c2 (by show ¬ g = g + 1 + 1; omega)), (Ext.rf _).dr.cellOf (hf4.cell c3 (by show ¬ g = g + 1 + 1; omega))⟩ ?_
    clear hf4
    repeat (first | refine wpP.c0 (h := ?_))
    refine wpP.done ?_
    clear hKv Kv hS
    go_wp2_with fail
    have ho := HZ.out.out
    refine bodyPost_ret (results_cellt rfl _ _ (g + 1 + 1) _ rfl (loadM ((Ext.rf _).dr.blk ho.2.2))) rfl ?_
    rw [HR.out]
    have HD : (fitM (pushN m 1 arg [])).isSome = decide ((nS : Int) ≤ 300) := by
      have h1 := HL.out.1
      have h2 := HL.out.2
      unfold fitM
      by_cases hl : (pushN m 1 arg []).stack.length ≤ 300
      · rw [if_pos ⟨by omega, hl⟩]; symm; simp; omega
      · rw [if_neg (by omega)]; symm; simp; omega
    unfold StepX
    rw [HD]
    refine ⟨_, _, _, _, _, _, _, _, _, _, rfl, ho.2.1.trans (Fr.ofExt ((Ext.rf _).dr)), fun m' hm => ?_⟩
    unfold fitM at hm
    split at hm
    · injection hm with hm
      subst hm
      exact ⟨rfl, _, ho.1.ext ((Ext.rf _).dr)⟩
    · exact nomatch hm
set_option maxRecDepth 100000 in
set_option maxHeartbeats 4000000 in
theorem mstep_13 {B Bd w l vN vS vM m} (h : MW B w l vN vS vM m) (hok : okM Bd m) (hd : m.done = false) (arg : Int) :
    Calls Try.prog 123 #[.agg #[vN, vS, vM, .bool m.done], .agg #[.int .i64 13, .int .i64 arg]] w (StepX B (fitM (pushN m 5 arg [])) w) := by
  obtain ⟨AN, cN, AS, cS, AM, cM, rfl, rfl, rfl, hrm, hcS⟩ := h.rm (by have := hok.nl; omega) (by have := hok.sl; omega) (by have := hok.ml; omega)
  have HX := As.mk (h.box (W := ((w.alloc (.cells #[.slice AN m.nodes.length cN, .slice AS m.stack.length cS, .slice AM m.memo.length cM, .bool m.done] 64)).alloc (.cells #[.int .i64 13, .int .i64 arg] 82)).alloc (.cells #[.slice none 0 0, .slice none 0 0, .slice none 0 0, .bool false] 64)) (fun k => k = w.heap.size ∨ k = w.heap.size + 1 ∨ k = w.heap.size + 1 + 1) (g := w.heap.size) (g2 := w.heap.size + 1 + 1) ((((Ext.rf w).al _).al _).al _) (((((Ext.rf _).al _)).al _).blk (al_new _ _)) (by have := al_new ((w.alloc (.cells #[.slice AN m.nodes.length cN, .slice AS m.stack.length cS, .slice AM m.memo.length cM, .bool m.done] 64)).alloc (.cells #[.int .i64 13, .int .i64 arg] 82)) (.cells #[.slice none 0 0, .slice none 0 0, .slice none 0 0, .bool false] 64); rw [al_size, al_size] at this; exact this) (.inl rfl) (.inr (.inr rfl)) (by omega) (fun k hk => by rw [al_size, al_size, al_size]; omega))
  have HO := As.mk (show (((w.alloc (.cells #[.slice AN m.nodes.length cN, .slice AS m.stack.length cS, .slice AM m.memo.length cM, .bool m.done] 64)).alloc (.cells #[.int .i64 13, .int .i64 arg] 82)).alloc (.cells #[.slice none 0 0, .slice none 0 0, .slice none 0 0, .bool false] 64)).heap[w.heap.size + 1]? = some (.cells #[.int .i64 13, .int .i64 arg] 82 (0, 0)) from by have := ((Ext.rf _).al (.cells #[.slice none 0 0, .slice none 0 0, .slice none 0 0, .bool false] 64)).blk (al_new (w.alloc (.cells #[.slice AN m.nodes.length cN, .slice AS m.stack.length cS, .slice AM m.memo.length cM, .bool m.done] 64)) (.cells #[.int .i64 13, .int .i64 arg] 82)); rw [al_size] at this; exact this)
  have HOK := As.mk hok
  have q1 := hok.nl
  have q2 := hok.sl
  have q3 : m.memo.length ≤ 1000000 := by have := hok.ml; omega
  have HD0 := As.mk hd
  clear hd
  obtain ⟨r, hr⟩ : ∃ r, r = fitM (pushN m 5 arg []) := ⟨_, rfl⟩
  have HR := As.mk hr
  rw [← hr]
  clear hr
  clear h hrm hok
  go_enter Try.func123, Try.ntmps123
  go_upto_region 1 with fail
  obtain ⟨w1, hw1⟩ : ∃ w1, w1 = ((w.alloc (.cells #[.slice AN m.nodes.length cN, .slice AS m.stack.length cS, .slice AM m.memo.length cM, .bool m.done] 64)).alloc (.cells #[.int .i64 13, .int .i64 arg] 82)).alloc (.cells #[.slice none 0 0, .slice none 0 0, .slice none 0 0, .bool false] 64) := ⟨_, rfl⟩
  rw [← hw1] at HX HO ⊢
  clear hw1
  obtain ⟨g, hg⟩ : ∃ g, g = w.heap.size := ⟨_, rfl⟩
  rw [← hg] at HX HO ⊢
  clear hg
  have c0 := MB.c0 HX.out.a.mb; have c1 := MB.c1 HX.out.a.mb; have c2 := MB.c2 HX.out.a.mb; have c3 := MB.c3 HX.out.a.mb
  have o0 : w1.cell? ⟨g + 1, 0, none⟩ = some (.int .i64 13) := by simp [World.cell?, HO.out]
  have o1 : w1.cell? ⟨g + 1, 1, none⟩ = some (.int .i64 arg) := by simp [World.cell?, HO.out]
  rw [HD0.out] at c3
  go_upto_region 34 with (go_at_call 147; have hc := spush_c HX.out.mw 5 arg (.slice none 0 0) [] (IR.nil _) (by simp) (fun k hk => by simp [Value.ownBlock] at hk) (fun p hp k h1 h2 => by simp [Value.ownBlock] at h2) (fun k h1 _ => by simp [Value.ownBlock] at h1) (fun k h1 _ => by simp [Value.ownBlock] at h1) (by omega) (by omega) q3; rw [HD0.out] at hc; refine hc.mono ?_; rintro e w5 hr; obtain ⟨l5, BN, nN, cN', BS, nS, cS', BM, nM, cM', rfl, hv, hf⟩ := machS_of hr; have HV := As.mk hv; have HF := As.mk hf; have hb := hf.blk HX.out.a.mb (fun e => e.2 HX.out.xg); have e0 := MB.c0 hb; have e1 := MB.c1 hb; have e2 := MB.c2 hb; have e3 := MB.c3 hb; have b0 := MB.fz hb 0; have b1 := MB.fz hb 1; have b2 := MB.fz hb 2; have b3 := MB.fz hb 3; clear hr hv hf hb hc)
  have hz := HX.out.put HV.out HF.out
  clear HV HF HX e0 e1 e2 e3 b0 b1 b2 b3 o0 o1
  have HZ := As.mk hz
  clear hz
  generalize ((((w5.setCell ⟨g, 0, none⟩ (.slice BN nN cN')).setCell ⟨g, 1, none⟩ (.slice BS nS cS')).setCell ⟨g, 2, none⟩ (.slice BM nM cM')).setCell ⟨g, 3, none⟩ (.bool (pushN m 5 arg []).done)) = wZ at HZ ⊢
  clear c0 c1 c2 c3
  have c0 := MB.c0 HZ.out.a.mb; have c1 := MB.c1 HZ.out.a.mb; have c2 := MB.c2 HZ.out.a.mb; have c3 := MB.c3 HZ.out.a.mb
  have d0 := MB.c0 HZ.out.r; have d1 := MB.c1 HZ.out.r; have d2 := MB.c2 HZ.out.r; have d3 := MB.c3 HZ.out.r
  have f0 := MB.fz HZ.out.r 0; have f1 := MB.fz HZ.out.r 1; have f2 := MB.fz HZ.out.r 2; have f3 := MB.fz HZ.out.r 3
  have HL := As.mk (mx_lens HZ.out)
  rcases Nat.lt_or_ge 300 nN with hnn | hnn
  · have q5 : ¬ ((nN : Int) ≤ 300) := by omega
    refine region_perm (fun w' => w'.cell? ⟨g, 0, none⟩ = some (.slice BN nN cN') ∧ w'.cell? ⟨g, 1, none⟩ = some (.slice BS nS cS') ∧ w'.cell? ⟨g, 2, none⟩ = some (.slice BM nM cM') ∧ w'.cell? ⟨g, 3, none⟩ = some (.bool (pushN m 5 arg []).done)) [] [(0, 1), (1, 0), (2, 1), (3, 0), (4, 0), (5, 0), (6, 0), (7, 1), (8, 0), (9, 0), (10, 0), (11, 2), (12, 0)] (by kernel_rfl) (by kernel_rfl) rfl (by kernel_rfl) (fun _ _ _ _ h => h) ?_
    have hS := And.intro c0 (And.intro c1 (And.intro c2 c3))
    repeat (first | refine wpP.c0 (h := ?_) | refine wpP.c1 (w := wZ.drew) hS (h := ?_) | refine wpP.c0off (h := ?_) | refine wpP.c1off (w := wZ.drew) hS (h := ?_))
    refine wpP.ev (h := fun Kv hKv => ?_)
    go_wp2_with fail
    have hf4 := Fr.set4 (S := fun k => k = g + 1 + 1) (w := wZ) (g := g + 1 + 1) rfl (.slice BN nN cN') (.slice BS nS cS') (.slice BM nM cM') (.bool (pushN m 5 arg []).done)
    refine hKv.out _ _ ⟨(Ext.rf _).dr.cellOf (hf4.cell c0 (by show ¬ g = g + 1 + 1; omega)), (Ext.rf _).dr.cellOf (hf4.cell c1 (by show ¬ g = g + 1 + 1; omega)), (Ext.rf _).dr.cellOf (hf4.cell c2 (by show ¬ g = g + 1 + 1; omega)), (Ext.rf _).dr.cellOf (hf4.cell c3 (by show ¬ g = g + 1 + 1; omega))⟩ ?_
    clear hf4
    repeat (first | refine wpP.c0 (h := ?_))
    refine wpP.done ?_
    clear hKv Kv hS
    go_wp2_with fail
    have ho := HZ.out.out
    refine bodyPost_ret (results_cellt rfl _ _ (g + 1 + 1) _ rfl (loadM ((Ext.rf _).dr.blk ho.2.2))) rfl ?_
    rw [HR.out]
    have HD : fitM (pushN m 5 arg []) = none := by
      have := HL.out.1
      unfold fitM
      rw [if_neg (by omega)]
    rw [HD]
    exact ⟨_, _, _, _, _, _, _, _, _, _, rfl, ho.2.1.trans (Fr.ofExt ((Ext.rf _).dr)), fun _ hm => nomatch hm⟩
  · have q5 : (nN : Int) ≤ 300 := by omega
    refine region_perm (fun w' => w'.cell? ⟨g, 0, none⟩ = some (.slice BN nN cN') ∧ w'.cell? ⟨g, 1, none⟩ = some (.slice BS nS cS') ∧ w'.cell? ⟨g, 2, none⟩ = some (.slice BM nM cM') ∧ w'.cell? ⟨g, 3, none⟩ = some (.bool (pushN m 5 arg []).done)) [] [(0, 1), (1, 0), (2, 1), (3, 0), (4, 0), (5, 0), (6, 0), (7, 1), (8, 0), (9, 0), (10, 0), (11, 2), (12, 0)] (by kernel_rfl) (by kernel_rfl) rfl (by kernel_rfl) (fun _ _ _ _ h => h) ?_
    have hS := And.intro c0 (And.intro c1 (And.intro c2 c3))
    repeat (first | refine wpP.c0 (h := ?_) | refine wpP.c1 (w := wZ.drew) hS (h := ?_) | refine wpP.c0off (h := ?_) | refine wpP.c1off (w := wZ.drew) hS (h := ?_))
    refine wpP.ev (h := fun Kv hKv => ?_)
    go_wp2_with fail
    have hf4 := Fr.set4 (S := fun k => k = g + 1 + 1) (w := wZ) (g := g + 1 + 1) rfl (.slice BN nN cN') (.slice BS nS cS') (.slice BM nM cM') (.bool (pushN m 5 arg []).done)
    refine hKv.out _ _ ⟨(Ext.rf _).dr.cellOf (hf4.cell c0 (by show ¬ g = g + 1 + 1; omega)), (Ext.rf _).dr.cellOf (hf4.cell c1 (by show ¬ g = g + 1 + 1; omega)), (Ext.rf _).dr.cellOf (hf4.cell c2 (by show ¬ g = g + 1 + 1; omega)), (Ext.rf _).dr.cellOf (hf4.cell c3 (by show ¬ g = g + 1 + 1; omega))⟩ ?_
    clear hf4
    repeat (first | refine wpP.c0 (h := ?_))
    refine wpP.done ?_
    clear hKv Kv hS
    go_wp2_with fail
    have ho := HZ.out.out
    refine bodyPost_ret (results_cellt rfl _ _ (g + 1 + 1) _ rfl (loadM ((Ext.rf _).dr.blk ho.2.2))) rfl ?_
    rw [HR.out]
    have HD : (fitM (pushN m 5 arg [])).isSome = decide ((nS : Int) ≤ 300) := by
      have h1 := HL.out.1
      have h2 := HL.out.2
      unfold fitM
      by_cases hl : (pushN m 5 arg []).stack.length ≤ 300
      · rw [if_pos ⟨by omega, hl⟩]; symm; simp; omega
      · rw [if_neg (by omega)]; symm; simp; omega
    unfold StepX
    rw [HD]
    refine ⟨_, _, _, _, _, _, _, _, _, _, rfl, ho.2.1.trans (Fr.ofExt ((Ext.rf _).dr)), fun m' hm => ?_⟩
    unfold fitM at hm
    split at hm
    · injection hm with hm
      subst hm
      exact ⟨rfl, _, ho.1.ext ((Ext.rf _).dr)⟩
    · exact nomatch hm
set_option maxRecDepth 100000 in
set_option maxHeartbeats 4000000 in
theorem mstep_4 {B Bd w l vN vS vM m} (h : MW B w l vN vS vM m) (hok : okM Bd m) (hd : m.done = false) (arg : Int) :
    Calls Try.prog 123 #[.agg #[vN, vS, vM, .bool m.done], .agg #[.int .i64 4, .int .i64 arg]] w (StepX B (fitM (pushN m 2 0 [])) w) := by
  obtain ⟨AN, cN, AS, cS, AM, cM, rfl, rfl, rfl, hrm, hcS⟩ := h.rm (by have := hok.nl; omega) (by have := hok.sl; omega) (by have := hok.ml; omega)
  have HX := As.mk (h.box (W := ((w.alloc (.cells #[.slice AN m.nodes.length cN, .slice AS m.stack.length cS, .slice AM m.memo.length cM, .bool m.done] 64)).alloc (.cells #[.int .i64 4, .int .i64 arg] 82)).alloc (.cells #[.slice none 0 0, .slice none 0 0, .slice none 0 0, .bool false] 64)) (fun k => k = w.heap.size ∨ k = w.heap.size + 1 ∨ k = w.heap.size + 1 + 1) (g := w.heap.size) (g2 := w.heap.size + 1 + 1) ((((Ext.rf w).al _).al _).al _) (((((Ext.rf _).al _)).al _).blk (al_new _ _)) (by have := al_new ((w.alloc (.cells #[.slice AN m.nodes.length cN, .slice AS m.stack.length cS, .slice AM m.memo.length cM, .bool m.done] 64)).alloc (.cells #[.int .i64 4, .int .i64 arg] 82)) (.cells #[.slice none 0 0, .slice none 0 0, .slice none 0 0, .bool false] 64); rw [al_size, al_size] at this; exact this) (.inl rfl) (.inr (.inr rfl)) (by omega) (fun k hk => by rw [al_size, al_size, al_size]; omega))
  have HO := As.mk (show (((w.alloc (.cells #[.slice AN m.nodes.length cN, .slice AS m.stack.length cS, .slice AM m.memo.length cM, .bool m.done] 64)).alloc (.cells #[.int .i64 4, .int .i64 arg] 82)).alloc (.cells #[.slice none 0 0, .slice none 0 0, .slice none 0 0, .bool false] 64)).heap[w.heap.size + 1]? = some (.cells #[.int .i64 4, .int .i64 arg] 82 (0, 0)) from by have := ((Ext.rf _).al (.cells #[.slice none 0 0, .slice none 0 0, .slice none 0 0, .bool false] 64)).blk (al_new (w.alloc (.cells #[.slice AN m.nodes.length cN, .slice AS m.stack.length cS, .slice AM m.memo.length cM, .bool m.done] 64)) (.cells #[.int .i64 4, .int .i64 arg] 82)); rw [al_size] at this; exact this)
  have HOK := As.mk hok
  have q1 := hok.nl
  have q2 := hok.sl
  have q3 : m.memo.length ≤ 1000000 := by have := hok.ml; omega
  have HD0 := As.mk hd
  clear hd
  obtain ⟨r, hr⟩ : ∃ r, r = fitM (pushN m 2 0 []) := ⟨_, rfl⟩
  have HR := As.mk hr
  rw [← hr]
  clear hr
  clear h hrm hok
  go_enter Try.func123, Try.ntmps123
  go_upto_region 1 with fail
  obtain ⟨w1, hw1⟩ : ∃ w1, w1 = ((w.alloc (.cells #[.slice AN m.nodes.length cN, .slice AS m.stack.length cS, .slice AM m.memo.length cM, .bool m.done] 64)).alloc (.cells #[.int .i64 4, .int .i64 arg] 82)).alloc (.cells #[.slice none 0 0, .slice none 0 0, .slice none 0 0, .bool false] 64) := ⟨_, rfl⟩
  rw [← hw1] at HX HO ⊢
  clear hw1
  obtain ⟨g, hg⟩ : ∃ g, g = w.heap.size := ⟨_, rfl⟩
  rw [← hg] at HX HO ⊢
  clear hg
  have c0 := MB.c0 HX.out.a.mb; have c1 := MB.c1 HX.out.a.mb; have c2 := MB.c2 HX.out.a.mb; have c3 := MB.c3 HX.out.a.mb
  have o0 : w1.cell? ⟨g + 1, 0, none⟩ = some (.int .i64 4) := by simp [World.cell?, HO.out]
  have o1 : w1.cell? ⟨g + 1, 1, none⟩ = some (.int .i64 arg) := by simp [World.cell?, HO.out]
  rw [HD0.out] at c3
  go_upto_region 34 with (go_at_call 147; have hc := spush_c HX.out.mw 2 0 (.slice none 0 0) [] (IR.nil _) (by simp) (fun k hk => by simp [Value.ownBlock] at hk) (fun p hp k h1 h2 => by simp [Value.ownBlock] at h2) (fun k h1 _ => by simp [Value.ownBlock] at h1) (fun k h1 _ => by simp [Value.ownBlock] at h1) (by omega) (by omega) q3; rw [HD0.out] at hc; refine hc.mono ?_; rintro e w5 hr; obtain ⟨l5, BN, nN, cN', BS, nS, cS', BM, nM, cM', rfl, hv, hf⟩ := machS_of hr; have HV := As.mk hv; have HF := As.mk hf; have hb := hf.blk HX.out.a.mb (fun e => e.2 HX.out.xg); have e0 := MB.c0 hb; have e1 := MB.c1 hb; have e2 := MB.c2 hb; have e3 := MB.c3 hb; have b0 := MB.fz hb 0; have b1 := MB.fz hb 1; have b2 := MB.fz hb 2; have b3 := MB.fz hb 3; clear hr hv hf hb hc)
  have hz := HX.out.put HV.out HF.out
  clear HV HF HX e0 e1 e2 e3 b0 b1 b2 b3 o0 o1
  have HZ := As.mk hz
  clear hz
  generalize ((((w5.setCell ⟨g, 0, none⟩ (.slice BN nN cN')).setCell ⟨g, 1, none⟩ (.slice BS nS cS')).setCell ⟨g, 2, none⟩ (.slice BM nM cM')).setCell ⟨g, 3, none⟩ (.bool (pushN m 2 0 []).done)) = wZ at HZ ⊢
  clear c0 c1 c2 c3
  have c0 := MB.c0 HZ.out.a.mb; have c1 := MB.c1 HZ.out.a.mb; have c2 := MB.c2 HZ.out.a.mb; have c3 := MB.c3 HZ.out.a.mb
  have d0 := MB.c0 HZ.out.r; have d1 := MB.c1 HZ.out.r; have d2 := MB.c2 HZ.out.r; have d3 := MB.c3 HZ.out.r
  have f0 := MB.fz HZ.out.r 0; have f1 := MB.fz HZ.out.r 1; have f2 := MB.fz HZ.out.r 2; have f3 := MB.fz HZ.out.r 3
  have HL := As.mk (mx_lens HZ.out)
  rcases Nat.lt_or_ge 300 nN with hnn | hnn
  · have q5 : ¬ ((nN : Int) ≤ 300) := by omega
    refine region_perm (fun w' => w'.cell? ⟨g, 0, none⟩ = some (.slice BN nN cN') ∧ w'.cell? ⟨g, 1, none⟩ = some (.slice BS nS cS') ∧ w'.cell? ⟨g, 2, none⟩ = some (.slice BM nM cM') ∧ w'.cell? ⟨g, 3, none⟩ = some (.bool (pushN m 2 0 []).done)) [] [(0, 1), (1, 0), (2, 1), (3, 0), (4, 0), (5, 0), (6, 0), (7, 1), (8, 0), (9, 0), (10, 0), (11, 2), (12, 0)] (by kernel_rfl) (by kernel_rfl) rfl (by kernel_rfl) (fun _ _ _ _ h => h) ?_
    have hS := And.intro c0 (And.intro c1 (And.intro c2 c3))
    repeat (first | refine wpP.c0 (h := ?_) | refine wpP.c1 (w := wZ.drew) hS (h := ?_) | refine wpP.c0off (h := ?_) | refine wpP.c1off (w := wZ.drew) hS (h := ?_))
    refine wpP.ev (h := fun Kv hKv => ?_)
    go_wp2_with fail
    have hf4 := Fr.set4 (S := fun k => k = g + 1 + 1) (w := wZ) (g := g + 1 + 1) rfl (.slice BN nN cN') (.slice BS nS cS') (.slice BM nM cM') (.bool (pushN m 2 0 []).done)
    refine hKv.out _ _ ⟨(Ext.rf _).dr.cellOf (hf4.cell c0 (by show ¬ g = g + 1 + 1; omega)), (Ext.rf _).dr.cellOf (hf4.cell c1 (by show ¬ g = g + 1 + 1; omega)), (Ext.rf _).dr.cellOf (hf4.cell c2 (by show ¬ g = g + 1 + 1; omega)), (Ext.rf _).dr.cellOf (hf4.cell c3 (by show ¬ g = g + 1 + 1; omega))⟩ ?_
    clear hf4
    repeat (first | refine wpP.c0 (h := ?_))
    refine wpP.done ?_
    clear hKv Kv hS
    go_wp2_with fail
    have ho := HZ.out.out
    refine bodyPost_ret (results_cellt rfl _ _ (g + 1 + 1) _ rfl (loadM ((Ext.rf _).dr.blk ho.2.2))) rfl ?_
    rw [HR.out]
    have HD : fitM (pushN m 2 0 []) = none := by
      have := HL.out.1
      unfold fitM
      rw [if_neg (by omega)]
    rw [HD]
    exact ⟨_, _, _, _, _, _, _, _, _, _, rfl, ho.2.1.trans (Fr.ofExt ((Ext.rf _).dr)), fun _ hm => nomatch hm⟩
  · have q5 : (nN : Int) ≤ 300 := by omega
    refine region_perm (fun w' => w'.cell? ⟨g, 0, none⟩ = some (.slice BN nN cN') ∧ w'.cell? ⟨g, 1, none⟩ = some (.slice BS nS cS') ∧ w'.cell? ⟨g, 2, none⟩ = some (.slice BM nM cM') ∧ w'.cell? ⟨g, 3, none⟩ = some (.bool (pushN m 2 0 []).done)) [] [(0, 1), (1, 0), (2, 1), (3, 0), (4, 0), (5, 0), (6, 0), (7, 1), (8, 0), (9, 0), (10, 0), (11, 2), (12, 0)] (by kernel_rfl) (by kernel_rfl) rfl (by kernel_rfl) (fun _ _ _ _ h => h) ?_
    have hS := And.intro c0 (And.intro c1 (And.intro c2 c3))
    repeat (first | refine wpP.c0 (h := ?_) | refine wpP.c1 (w := wZ.drew) hS (h := ?_) | refine wpP.c0off (h := ?_) | refine wpP.c1off (w := wZ.drew) hS (h := ?_))
    refine wpP.ev (h := fun Kv hKv => ?_)
    go_wp2_with fail
    have hf4 := Fr.set4 (S := fun k => k = g + 1 + 1) (w := wZ) (g := g + 1 + 1) rfl (.slice BN nN cN') (.slice BS nS cS') (.slice BM nM cM') (.bool (pushN m 2 0 []).done)
    refine hKv.out _ _ ⟨(Ext.rf _).dr.cellOf (hf4.cell c0 (by show ¬ g = g + 1 + 1; omega)), (Ext.rf _).dr.cellOf (hf4.cell c1 (by show ¬ g = g + 1 + 1; omega)), (Ext.rf _).dr.cellOf (hf4.cell c2 (by show ¬ g = g + 1 + 1; omega)), (Ext.rf _).dr.cellOf (hf4.cell c3 (by show ¬ g = g + 1 + 1; omega))⟩ ?_
    clear hf4
    repeat (first | refine wpP.c0 (h := ?_))
    refine wpP.done ?_
    clear hKv Kv hS
    go_wp2_with fail
    have ho := HZ.out.out
    refine bodyPost_ret (results_cellt rfl _ _ (g + 1 + 1) _ rfl (loadM ((Ext.rf _).dr.blk ho.2.2))) rfl ?_
    rw [HR.out]
    have HD : (fitM (pushN m 2 0 [])).isSome = decide ((nS : Int) ≤ 300) := by
      have h1 := HL.out.1
      have h2 := HL.out.2
      unfold fitM
      by_cases hl : (pushN m 2 0 []).stack.length ≤ 300
      · rw [if_pos ⟨by omega, hl⟩]; symm; simp; omega
      · rw [if_neg (by omega)]; symm; simp; omega
    unfold StepX
    rw [HD]
    refine ⟨_, _, _, _, _, _, _, _, _, _, rfl, ho.2.1.trans (Fr.ofExt ((Ext.rf _).dr)), fun m' hm => ?_⟩
    unfold fitM at hm
    split at hm
    · injection hm with hm
      subst hm
      exact ⟨rfl, _, ho.1.ext ((Ext.rf _).dr)⟩
    · exact nomatch hm
set_option maxRecDepth 100000 in
set_option maxHeartbeats 4000000 in
theorem mstep_7 {B Bd w l vN vS vM m} (h : MW B w l vN vS vM m) (hok : okM Bd m) (hd : m.done = false) (arg : Int) :
    Calls Try.prog 123 #[.agg #[vN, vS, vM, .bool m.done], .agg #[.int .i64 7, .int .i64 arg]] w (StepX B (fitM (pushN m 3 0 [])) w) := by
  obtain ⟨AN, cN, AS, cS, AM, cM, rfl, rfl, rfl, hrm, hcS⟩ := h.rm (by have := hok.nl; omega) (by have := hok.sl; omega) (by have := hok.ml; omega)
  have HX := As.mk (h.box (W := ((w.alloc (.cells #[.slice AN m.nodes.length cN, .slice AS m.stack.length cS, .slice AM m.memo.length cM, .bool m.done] 64)).alloc (.cells #[.int .i64 7, .int .i64 arg] 82)).alloc (.cells #[.slice none 0 0, .slice none 0 0, .slice none 0 0, .bool false] 64)) (fun k => k = w.heap.size ∨ k = w.heap.size + 1 ∨ k = w.heap.size + 1 + 1) (g := w.heap.size) (g2 := w.heap.size + 1 + 1) ((((Ext.rf w).al _).al _).al _) (((((Ext.rf _).al _)).al _).blk (al_new _ _)) (by have := al_new ((w.alloc (.cells #[.slice AN m.nodes.length cN, .slice AS m.stack.length cS, .slice AM m.memo.length cM, .bool m.done] 64)).alloc (.cells #[.int .i64 7, .int .i64 arg] 82)) (.cells #[.slice none 0 0, .slice none 0 0, .slice none 0 0, .bool false] 64); rw [al_size, al_size] at this; exact this) (.inl rfl) (.inr (.inr rfl)) (by omega) (fun k hk => by rw [al_size, al_size, al_size]; omega))
  have HO := As.mk (show (((w.alloc (.cells #[.slice AN m.nodes.length cN, .slice AS m.stack.length cS, .slice AM m.memo.length cM, .bool m.done] 64)).alloc (.cells #[.int .i64 7, .int .i64 arg] 82)).alloc (.cells #[.slice none 0 0, .slice none 0 0, .slice none 0 0, .bool false] 64)).heap[w.heap.size + 1]? = some (.cells #[.int .i64 7, .int .i64 arg] 82 (0, 0)) from by have := ((Ext.rf _).al (.cells #[.slice none 0 0, .slice none 0 0, .slice none 0 0, .bool false] 64)).blk (al_new (w.alloc (.cells #[.slice AN m.nodes.length cN, .slice AS m.stack.length cS, .slice AM m.memo.length cM, .bool m.done] 64)) (.cells #[.int .i64 7, .int .i64 arg] 82)); rw [al_size] at this; exact this)
  have HOK := As.mk hok
  have q1 := hok.nl
  have q2 := hok.sl
  have q3 : m.memo.length ≤ 1000000 := by have := hok.ml; omega
  have HD0 := As.mk hd
  clear hd
  obtain ⟨r, hr⟩ : ∃ r, r = fitM (pushN m 3 0 []) := ⟨_, rfl⟩
  have HR := As.mk hr
  rw [← hr]
  clear hr
  clear h hrm hok
  go_enter Try.func123, Try.ntmps123
  go_upto_region 1 with fail
  obtain ⟨w1, hw1⟩ : ∃ w1, w1 = ((w.alloc (.cells #[.slice AN m.nodes.length cN, .slice AS m.stack.length cS, .slice AM m.memo.length cM, .bool m.done] 64)).alloc (.cells #[.int .i64 7, .int .i64 arg] 82)).alloc (.cells #[.slice none 0 0, .slice none 0 0, .slice none 0 0, .bool false] 64) := ⟨_, rfl⟩
  rw [← hw1] at HX HO ⊢
  clear hw1
  obtain ⟨g, hg⟩ : ∃ g, g = w.heap.size := ⟨_, rfl⟩
  rw [← hg] at HX HO ⊢
  clear hg
  have c0 := MB.c0 HX.out.a.mb; have c1 := MB.c1 HX.out.a.mb; have c2 := MB.c2 HX.out.a.mb; have c3 := MB.c3 HX.out.a.mb
  have o0 : w1.cell? ⟨g + 1, 0, none⟩ = some (.int .i64 7) := by simp [World.cell?, HO.out]
  have o1 : w1.cell? ⟨g + 1, 1, none⟩ = some (.int .i64 arg) := by simp [World.cell?, HO.out]
  rw [HD0.out] at c3
  go_upto_region 34 with (go_at_call 147; have hc := spush_c HX.out.mw 3 0 (.slice none 0 0) [] (IR.nil _) (by simp) (fun k hk => by simp [Value.ownBlock] at hk) (fun p hp k h1 h2 => by simp [Value.ownBlock] at h2) (fun k h1 _ => by simp [Value.ownBlock] at h1) (fun k h1 _ => by simp [Value.ownBlock] at h1) (by omega) (by omega) q3; rw [HD0.out] at hc; refine hc.mono ?_; rintro e w5 hr; obtain ⟨l5, BN, nN, cN', BS, nS, cS', BM, nM, cM', rfl, hv, hf⟩ := machS_of hr; have HV := As.mk hv; have HF := As.mk hf; have hb := hf.blk HX.out.a.mb (fun e => e.2 HX.out.xg); have e0 := MB.c0 hb; have e1 := MB.c1 hb; have e2 := MB.c2 hb; have e3 := MB.c3 hb; have b0 := MB.fz hb 0; have b1 := MB.fz hb 1; have b2 := MB.fz hb 2; have b3 := MB.fz hb 3; clear hr hv hf hb hc)
  have hz := HX.out.put HV.out HF.out
  clear HV HF HX e0 e1 e2 e3 b0 b1 b2 b3 o0 o1
  have HZ := As.mk hz
  clear hz
  generalize ((((w5.setCell ⟨g, 0, none⟩ (.slice BN nN cN')).setCell ⟨g, 1, none⟩ (.slice BS nS cS')).setCell ⟨g, 2, none⟩ (.slice BM nM cM')).setCell ⟨g, 3, none⟩ (.bool (pushN m 3 0 []).done)) = wZ at HZ ⊢
  clear c0 c1 c2 c3
  have c0 := MB.c0 HZ.out.a.mb; have c1 := MB.c1 HZ.out.a.mb; have c2 := MB.c2 HZ.out.a.mb; have c3 := MB.c3 HZ.out.a.mb
  have d0 := MB.c0 HZ.out.r; have d1 := MB.c1 HZ.out.r; have d2 := MB.c2 HZ.out.r; have d3 := MB.c3 HZ.out.r
  have f0 := MB.fz HZ.out.r 0; have f1 := MB.fz HZ.out.r 1; have f2 := MB.fz HZ.out.r 2; have f3 := MB.fz HZ.out.r 3
  have HL := As.mk (mx_lens HZ.out)
  rcases Nat.lt_or_ge 300 nN with hnn | hnn
  · have q5 : ¬ ((nN : Int) ≤ 300) := by omega
    refine region_perm (fun w' => w'.cell? ⟨g, 0, none⟩ = some (.slice BN nN cN') ∧ w'.cell? ⟨g, 1, none⟩ = some (.slice BS nS cS') ∧ w'.cell? ⟨g, 2, none⟩ = some (.slice BM nM cM') ∧ w'.cell? ⟨g, 3, none⟩ = some (.bool (pushN m 3 0 []).done)) [] [(0, 1), (1, 0), (2, 1), (3, 0), (4, 0), (5, 0), (6, 0), (7, 1), (8, 0), (9, 0), (10, 0), (11, 2), (12, 0)] (by kernel_rfl) (by kernel_rfl) rfl (by kernel_rfl) (fun _ _ _ _ h => h) ?_
    have hS := And.intro c0 (And.intro c1 (And.intro c2 c3))
    repeat (first | refine wpP.c0 (h := ?_) | refine wpP.c1 (w := wZ.drew) hS (h := ?_) | refine wpP.c0off (h := ?_) | refine wpP.c1off (w := wZ.drew) hS (h := ?_))
    refine wpP.ev (h := fun Kv hKv => ?_)
    go_wp2_with fail
    have hf4 := Fr.set4 (S := fun k => k = g + 1 + 1) (w := wZ) (g := g + 1 + 1) rfl (.slice BN nN cN') (.slice BS nS cS') (.slice BM nM cM') (.bool (pushN m 3 0 []).done)
    refine hKv.out _ _ ⟨(Ext.rf _).dr.cellOf (hf4.cell c0 (by show ¬ g = g + 1 + 1; omega)), (Ext.rf _).dr.cellOf (hf4.cell c1 (by show ¬ g = g + 1 + 1; omega)), (Ext.rf _).dr.cellOf (hf4.cell c2 (by show ¬ g = g + 1 + 1; omega)), (Ext.rf _).dr.cellOf (hf4.cell c3 (by show ¬ g = g + 1 + 1; omega))⟩ ?_
    clear hf4
    repeat (first | refine wpP.c0 (h := ?_))
    refine wpP.done ?_
    clear hKv Kv hS
    go_wp2_with fail
    have ho := HZ.out.out
    refine bodyPost_ret (results_cellt rfl _ _ (g + 1 + 1) _ rfl (loadM ((Ext.rf _).dr.blk ho.2.2))) rfl ?_
    rw [HR.out]
    have HD : fitM (pushN m 3 0 []) = none := by
      have := HL.out.1
      unfold fitM
      rw [if_neg (by omega)]
    rw [HD]
    exact ⟨_, _, _, _, _, _, _, _, _, _, rfl, ho.2.1.trans (Fr.ofExt ((Ext.rf _).dr)), fun _ hm => nomatch hm⟩
  · have q5 : (nN : Int) ≤ 300 := by omega
    refine region_perm (fun w' => w'.cell? ⟨g, 0, none⟩ = some (.slice BN nN cN') ∧ w'.cell? ⟨g, 1, none⟩ = some (.slice BS nS cS') ∧ w'.cell? ⟨g, 2, none⟩ = some (.slice BM nM cM') ∧ w'.cell? ⟨g, 3, none⟩ = some (.bool (pushN m 3 0 []).done)) [] [(0, 1), (1, 0), (2, 1), (3, 0), (4, 0), (5, 0), (6, 0), (7, 1), (8, 0), (9, 0), (10, 0), (11, 2), (12, 0)] (by kernel_rfl) (by kernel_rfl) rfl (by kernel_rfl) (fun _ _ _ _ h => h) ?_
    have hS := And.intro c0 (And.intro c1 (And.intro c2 c3))
    repeat (first | refine wpP.c0 (h := ?_) | refine wpP.c1 (w := wZ.drew) hS (h := ?_) | refine wpP.c0off (h := ?_) | refine wpP.c1off (w := wZ.drew) hS (h := ?_))
    refine wpP.ev (h := fun Kv hKv => ?_)
    go_wp2_with fail
    have hf4 := Fr.set4 (S := fun k => k = g + 1 + 1) (w := wZ) (g := g + 1 + 1) rfl (.slice BN nN cN') (.slice BS nS cS') (.slice BM nM cM') (.bool (pushN m 3 0 []).done)
    refine hKv.out _ _ ⟨(Ext.rf _).dr.cellOf (hf4.cell c0 (by show ¬ g = g + 1 + 1; omega)), (Ext.rf _).dr.cellOf (hf4.cell c1 (by show ¬ g = g + 1 + 1; omega)), (Ext.rf _).dr.cellOf (hf4.cell c2 (by show ¬ g = g + 1 + 1; omega)), (Ext.rf _).dr.cellOf (hf4.cell c3 (by show ¬ g = g + 1 + 1; omega))⟩ ?_
    clear hf4
    repeat (first | refine wpP.c0 (h := ?_))
    refine wpP.done ?_
    clear hKv Kv hS
    go_wp2_with fail
    have ho := HZ.out.out
    refine bodyPost_ret (results_cellt rfl _ _ (g + 1 + 1) _ rfl (loadM ((Ext.rf _).dr.blk ho.2.2))) rfl ?_
    rw [HR.out]
    have HD : (fitM (pushN m 3 0 [])).isSome = decide ((nS : Int) ≤ 300) := by
      have h1 := HL.out.1
      have h2 := HL.out.2
      unfold fitM
      by_cases hl : (pushN m 3 0 []).stack.length ≤ 300
      · rw [if_pos ⟨by omega, hl⟩]; symm; simp; omega
      · rw [if_neg (by omega)]; symm; simp; omega
    unfold StepX
    rw [HD]
    refine ⟨_, _, _, _, _, _, _, _, _, _, rfl, ho.2.1.trans (Fr.ofExt ((Ext.rf _).dr)), fun m' hm => ?_⟩
    unfold fitM at hm
    split at hm
    · injection hm with hm
      subst hm
      exact ⟨rfl, _, ho.1.ext ((Ext.rf _).dr)⟩
    · exact nomatch hm
set_option maxRecDepth 100000 in
set_option maxHeartbeats 4000000 in
theorem mstep_10 {B Bd w l vN vS vM m} (h : MW B w l vN vS vM m) (hok : okM Bd m) (hd : m.done = false) (arg : Int) :
    Calls Try.prog 123 #[.agg #[vN, vS, vM, .bool m.done], .agg #[.int .i64 10, .int .i64 arg]] w (StepX B (fitM (pushN m 4 0 [])) w) := by
  obtain ⟨AN, cN, AS, cS, AM, cM, rfl, rfl, rfl, hrm, hcS⟩ := h.rm (by have := hok.nl; omega) (by have := hok.sl; omega) (by have := hok.ml; omega)
  have HX := As.mk (h.box (W := ((w.alloc (.cells #[.slice AN m.nodes.length cN, .slice AS m.stack.length cS, .slice AM m.memo.length cM, .bool m.done] 64)).alloc (.cells #[.int .i64 10, .int .i64 arg] 82)).alloc (.cells #[.slice none 0 0, .slice none 0 0, .slice none 0 0, .bool false] 64)) (fun k => k = w.heap.size ∨ k = w.heap.size + 1 ∨ k = w.heap.size + 1 + 1) (g := w.heap.size) (g2 := w.heap.size + 1 + 1) ((((Ext.rf w).al _).al _).al _) (((((Ext.rf _).al _)).al _).blk (al_new _ _)) (by have := al_new ((w.alloc (.cells #[.slice AN m.nodes.length cN, .slice AS m.stack.length cS, .slice AM m.memo.length cM, .bool m.done] 64)).alloc (.cells #[.int .i64 10, .int .i64 arg] 82)) (.cells #[.slice none 0 0, .slice none 0 0, .slice none 0 0, .bool false] 64); rw [al_size, al_size] at this; exact this) (.inl rfl) (.inr (.inr rfl)) (by omega) (fun k hk => by rw [al_size, al_size, al_size]; omega))
  have HO := As.mk (show (((w.alloc (.cells #[.slice AN m.nodes.length cN, .slice AS m.stack.length cS, .slice AM m.memo.length cM, .bool m.done] 64)).alloc (.cells #[.int .i64 10, .int .i64 arg] 82)).alloc (.cells #[.slice none 0 0, .slice none 0 0, .slice none 0 0, .bool false] 64)).heap[w.heap.size + 1]? = some (.cells #[.int .i64 10, .int .i64 arg] 82 (0, 0)) from by have := ((Ext.rf _).al (.cells #[.slice none 0 0, .slice none 0 0, .slice none 0 0, .bool false] 64)).blk (al_new (w.alloc (.cells #[.slice AN m.nodes.length cN, .slice AS m.stack.length cS, .slice AM m.memo.length cM, .bool m.done] 64)) (.cells #[.int .i64 10, .int .i64 arg] 82)); rw [al_size] at this; exact this)
  have HOK := As.mk hok
  have q1 := hok.nl
  have q2 := hok.sl
  have q3 : m.memo.length ≤ 1000000 := by have := hok.ml; omega
  have HD0 := As.mk hd
  clear hd
  obtain ⟨r, hr⟩ : ∃ r, r = fitM (pushN m 4 0 []) := ⟨_, rfl⟩
  have HR := As.mk hr
  rw [← hr]
  clear hr
  clear h hrm hok
  go_enter Try.func123, Try.ntmps123
  go_upto_region 1 with fail
  obtain ⟨w1, hw1⟩ : ∃ w1, w1 = ((w.alloc (.cells #[.slice AN m.nodes.length cN, .slice AS m.stack.length cS, .slice AM m.memo.length cM, .bool m.done] 64)).alloc (.cells #[.int .i64 10, .int .i64 arg] 82)).alloc (.cells #[.slice none 0 0, .slice none 0 0, .slice none 0 0, .bool false] 64) := ⟨_, rfl⟩
  rw [← hw1] at HX HO ⊢
  clear hw1
  obtain ⟨g, hg⟩ : ∃ g, g = w.heap.size := ⟨_, rfl⟩
  rw [← hg] at HX HO ⊢
  clear hg
  have c0 := MB.c0 HX.out.a.mb; have c1 := MB.c1 HX.out.a.mb; have c2 := MB.c2 HX.out.a.mb; have c3 := MB.c3 HX.out.a.mb
  have o0 : w1.cell? ⟨g + 1, 0, none⟩ = some (.int .i64 10) := by simp [World.cell?, HO.out]
  have o1 : w1.cell? ⟨g + 1, 1, none⟩ = some (.int .i64 arg) := by simp [World.cell?, HO.out]
  rw [HD0.out] at c3
  go_upto_region 34 with (go_at_call 147; have hc := spush_c HX.out.mw 4 0 (.slice none 0 0) [] (IR.nil _) (by simp) (fun k hk => by simp [Value.ownBlock] at hk) (fun p hp k h1 h2 => by simp [Value.ownBlock] at h2) (fun k h1 _ => by simp [Value.ownBlock] at h1) (fun k h1 _ => by simp [Value.ownBlock] at h1) (by omega) (by omega) q3; rw [HD0.out] at hc; refine hc.mono ?_; rintro e w5 hr; obtain ⟨l5, BN, nN, cN', BS, nS, cS', BM, nM, cM', rfl, hv, hf⟩ := machS_of hr; have HV := As.mk hv; have HF := As.mk hf; have hb := hf.blk HX.out.a.mb (fun e => e.2 HX.out.xg); have e0 := MB.c0 hb; have e1 := MB.c1 hb; have e2 := MB.c2 hb; have e3 := MB.c3 hb; have b0 := MB.fz hb 0; have b1 := MB.fz hb 1; have b2 := MB.fz hb 2; have b3 := MB.fz hb 3; clear hr hv hf hb hc)
  have hz := HX.out.put HV.out HF.out
  clear HV HF HX e0 e1 e2 e3 b0 b1 b2 b3 o0 o1
  have HZ := As.mk hz
  clear hz
  generalize ((((w5.setCell ⟨g, 0, none⟩ (.slice BN nN cN')).setCell ⟨g, 1, none⟩ (.slice BS nS cS')).setCell ⟨g, 2, none⟩ (.slice BM nM cM')).setCell ⟨g, 3, none⟩ (.bool (pushN m 4 0 []).done)) = wZ at HZ ⊢
  clear c0 c1 c2 c3
  have c0 := MB.c0 HZ.out.a.mb; have c1 := MB.c1 HZ.out.a.mb; have c2 := MB.c2 HZ.out.a.mb; have c3 := MB.c3 HZ.out.a.mb
  have d0 := MB.c0 HZ.out.r; have d1 := MB.c1 HZ.out.r; have d2 := MB.c2 HZ.out.r; have d3 := MB.c3 HZ.out.r
  have f0 := MB.fz HZ.out.r 0; have f1 := MB.fz HZ.out.r 1; have f2 := MB.fz HZ.out.r 2; have f3 := MB.fz HZ.out.r 3
  have HL := As.mk (mx_lens HZ.out)
  rcases Nat.lt_or_ge 300 nN with hnn | hnn
  · have q5 : ¬ ((nN : Int) ≤ 300) := by omega
    refine region_perm (fun w' => w'.cell? ⟨g, 0, none⟩ = some (.slice BN nN cN') ∧ w'.cell? ⟨g, 1, none⟩ = some (.slice BS nS cS') ∧ w'.cell? ⟨g, 2, none⟩ = some (.slice BM nM cM') ∧ w'.cell? ⟨g, 3, none⟩ = some (.bool (pushN m 4 0 []).done)) [] [(0, 1), (1, 0), (2, 1), (3, 0), (4, 0), (5, 0), (6, 0), (7, 1), (8, 0), (9, 0), (10, 0), (11, 2), (12, 0)] (by kernel_rfl) (by kernel_rfl) rfl (by kernel_rfl) (fun _ _ _ _ h => h) ?_
    have hS := And.intro c0 (And.intro c1 (And.intro c2 c3))
    repeat (first | refine wpP.c0 (h := ?_) | refine wpP.c1 (w := wZ.drew) hS (h := ?_) | refine wpP.c0off (h := ?_) | refine wpP.c1off (w := wZ.drew) hS (h := ?_))
    refine wpP.ev (h := fun Kv hKv => ?_)
    go_wp2_with fail
    have hf4 := Fr.set4 (S := fun k => k = g + 1 + 1) (w := wZ) (g := g + 1 + 1) rfl (.slice BN nN cN') (.slice BS nS cS') (.slice BM nM cM') (.bool (pushN m 4 0 []).done)
    refine hKv.out _ _ ⟨(Ext.rf _).dr.cellOf (hf4.cell c0 (by show ¬ g = g + 1 + 1; omega)), (Ext.rf _).dr.cellOf (hf4.cell c1 (by show ¬ g = g + 1 + 1; omega)), (Ext.rf _).dr.cellOf (hf4.cell c2 (by show ¬ g = g + 1 + 1; omega)), (Ext.rf _).dr.cellOf (hf4.cell c3 (by show ¬ g = g + 1 + 1; omega))⟩ ?_
    clear hf4
    repeat (first | refine wpP.c0 (h := ?_))
    refine wpP.done ?_
    clear hKv Kv hS
    go_wp2_with fail
    have ho := HZ.out.out
    refine bodyPost_ret (results_cellt rfl _ _ (g + 1 + 1) _ rfl (loadM ((Ext.rf _).dr.blk ho.2.2))) rfl ?_
    rw [HR.out]
    have HD : fitM (pushN m 4 0 []) = none := by
      have := HL.out.1
      unfold fitM
      rw [if_neg (by omega)]
    rw [HD]
    exact ⟨_, _, _, _, _, _, _, _, _, _, rfl, ho.2.1.trans (Fr.ofExt ((Ext.rf _).dr)), fun _ hm => nomatch hm⟩
  · have q5 : (nN : Int) ≤ 300 := by omega
    refine region_perm (fun w' => w'.cell? ⟨g, 0, none⟩ = some (.slice BN nN cN') ∧ w'.cell? ⟨g, 1, none⟩ = some (.slice BS nS cS') ∧ w'.cell? ⟨g, 2, none⟩ = some (.slice BM nM cM') ∧ w'.cell? ⟨g, 3, none⟩ = some (.bool (pushN m 4 0 []).done)) [] [(0, 1), (1, 0), (2, 1), (3, 0), (4, 0), (5, 0), (6, 0), (7, 1), (8, 0), (9, 0), (10, 0), (11, 2), (12, 0)] (by kernel_rfl) (by kernel_rfl) rfl (by kernel_rfl) (fun _ _ _ _ h => h) ?_
    have hS := And.intro c0 (And.intro c1 (And.intro c2 c3))
    repeat (first | refine wpP.c0 (h := ?_) | refine wpP.c1 (w := wZ.drew) hS (h := ?_) | refine wpP.c0off (h := ?_) | refine wpP.c1off (w := wZ.drew) hS (h := ?_))
    refine wpP.ev (h := fun Kv hKv => ?_)
    go_wp2_with fail
    have hf4 := Fr.set4 (S := fun k => k = g + 1 + 1) (w := wZ) (g := g + 1 + 1) rfl (.slice BN nN cN') (.slice BS nS cS') (.slice BM nM cM') (.bool (pushN m 4 0 []).done)
    refine hKv.out _ _ ⟨(Ext.rf _).dr.cellOf (hf4.cell c0 (by show ¬ g = g + 1 + 1; omega)), (Ext.rf _).dr.cellOf (hf4.cell c1 (by show ¬ g = g + 1 + 1; omega)), (Ext.rf _).dr.cellOf (hf4.cell c2 (by show ¬ g = g + 1 + 1; omega)), (Ext.rf _).dr.cellOf (hf4.cell c3 (by show ¬ g = g + 1 + 1; omega))⟩ ?_
    clear hf4
    repeat (first | refine wpP.c0 (h := ?_))
    refine wpP.done ?_
    clear hKv Kv hS
    go_wp2_with fail
    have ho := HZ.out.out
    refine bodyPost_ret (results_cellt rfl _ _ (g + 1 + 1) _ rfl (loadM ((Ext.rf _).dr.blk ho.2.2))) rfl ?_
    rw [HR.out]
    have HD : (fitM (pushN m 4 0 [])).isSome = decide ((nS : Int) ≤ 300) := by
      have h1 := HL.out.1
      have h2 := HL.out.2
      unfold fitM
      by_cases hl : (pushN m 4 0 []).stack.length ≤ 300
      · rw [if_pos ⟨by omega, hl⟩]; symm; simp; omega
      · rw [if_neg (by omega)]; symm; simp; omega
    unfold StepX
    rw [HD]
    refine ⟨_, _, _, _, _, _, _, _, _, _, rfl, ho.2.1.trans (Fr.ofExt ((Ext.rf _).dr)), fun m' hm => ?_⟩
    unfold fitM at hm
    split at hm
    · injection hm with hm
      subst hm
      exact ⟨rfl, _, ho.1.ext ((Ext.rf _).dr)⟩
    · exact nomatch hm
set_option maxRecDepth 100000 in
set_option maxHeartbeats 4000000 in
theorem mstep_2 {B Bd w l vN vS vM m} (h : MW B w l vN vS vM m) (hok : okM Bd m) (hd : m.done = false) (arg : Int) :
    Calls Try.prog 123 #[.agg #[vN, vS, vM, .bool m.done], .agg #[.int .i64 2, .int .i64 arg]] w (StepX B (fitM (addS m (-1))) w) := by
  obtain ⟨AN, cN, AS, cS, AM, cM, rfl, rfl, rfl, hrm, hcS⟩ := h.rm (by have := hok.nl; omega) (by have := hok.sl; omega) (by have := hok.ml; omega)
  have HX := As.mk (h.box (W := ((w.alloc (.cells #[.slice AN m.nodes.length cN, .slice AS m.stack.length cS, .slice AM m.memo.length cM, .bool m.done] 64)).alloc (.cells #[.int .i64 2, .int .i64 arg] 82)).alloc (.cells #[.slice none 0 0, .slice none 0 0, .slice none 0 0, .bool false] 64)) (fun k => k = w.heap.size ∨ k = w.heap.size + 1 ∨ k = w.heap.size + 1 + 1) (g := w.heap.size) (g2 := w.heap.size + 1 + 1) ((((Ext.rf w).al _).al _).al _) (((((Ext.rf _).al _)).al _).blk (al_new _ _)) (by have := al_new ((w.alloc (.cells #[.slice AN m.nodes.length cN, .slice AS m.stack.length cS, .slice AM m.memo.length cM, .bool m.done] 64)).alloc (.cells #[.int .i64 2, .int .i64 arg] 82)) (.cells #[.slice none 0 0, .slice none 0 0, .slice none 0 0, .bool false] 64); rw [al_size, al_size] at this; exact this) (.inl rfl) (.inr (.inr rfl)) (by omega) (fun k hk => by rw [al_size, al_size, al_size]; omega))
  have HO := As.mk (show (((w.alloc (.cells #[.slice AN m.nodes.length cN, .slice AS m.stack.length cS, .slice AM m.memo.length cM, .bool m.done] 64)).alloc (.cells #[.int .i64 2, .int .i64 arg] 82)).alloc (.cells #[.slice none 0 0, .slice none 0 0, .slice none 0 0, .bool false] 64)).heap[w.heap.size + 1]? = some (.cells #[.int .i64 2, .int .i64 arg] 82 (0, 0)) from by have := ((Ext.rf _).al (.cells #[.slice none 0 0, .slice none 0 0, .slice none 0 0, .bool false] 64)).blk (al_new (w.alloc (.cells #[.slice AN m.nodes.length cN, .slice AS m.stack.length cS, .slice AM m.memo.length cM, .bool m.done] 64)) (.cells #[.int .i64 2, .int .i64 arg] 82)); rw [al_size] at this; exact this)
  have HOK := As.mk hok
  have q1 := hok.nl
  have q2 := hok.sl
  have q3 : m.memo.length ≤ 1000000 := by have := hok.ml; omega
  have HD0 := As.mk hd
  clear hd
  obtain ⟨r, hr⟩ : ∃ r, r = fitM (addS m (-1)) := ⟨_, rfl⟩
  have HR := As.mk hr
  rw [← hr]
  clear hr
  clear h hrm hok
  go_enter Try.func123, Try.ntmps123
  go_upto_region 1 with fail
  obtain ⟨w1, hw1⟩ : ∃ w1, w1 = ((w.alloc (.cells #[.slice AN m.nodes.length cN, .slice AS m.stack.length cS, .slice AM m.memo.length cM, .bool m.done] 64)).alloc (.cells #[.int .i64 2, .int .i64 arg] 82)).alloc (.cells #[.slice none 0 0, .slice none 0 0, .slice none 0 0, .bool false] 64) := ⟨_, rfl⟩
  rw [← hw1] at HX HO ⊢
  clear hw1
  obtain ⟨g, hg⟩ : ∃ g, g = w.heap.size := ⟨_, rfl⟩
  rw [← hg] at HX HO ⊢
  clear hg
  have c0 := MB.c0 HX.out.a.mb; have c1 := MB.c1 HX.out.a.mb; have c2 := MB.c2 HX.out.a.mb; have c3 := MB.c3 HX.out.a.mb
  have o0 : w1.cell? ⟨g + 1, 0, none⟩ = some (.int .i64 2) := by simp [World.cell?, HO.out]
  have o1 : w1.cell? ⟨g + 1, 1, none⟩ = some (.int .i64 arg) := by simp [World.cell?, HO.out]
  rw [HD0.out] at c3
  go_upto_region 34 with ((at_builtin; refine app_int rfl _ _ rfl (.slice AS m.stack.length cS) m.stack (-1) rfl rfl HX.out.a.sr (by omega) ?_; intro gS cS' w2 hap; have hb : MB w2 g _ _ _ m.done := hap.2.1.blk HX.out.a.mb (fun e => own_ne_blk HX.out.a.sr HX.out.a.mb (by decide) e); have HP := As.mk hap; clear hap; have e0 := hb.c1; have f0 := hb.fz 1; clear hb))
  have had := MR.addS HX.out.a (-1) gS cS' HP.out m.stack.length rfl
  have HZ := As.mk (HX.out.to had.1 (HX.out.foot had.2))
  clear had HP HX e0 f0 o0 o1 q1
  generalize (w2.setCell ⟨g, 1, none⟩ (.slice (some ⟨gS, 0, none⟩) (m.stack.length + 1) cS')) = wZ at HZ ⊢
  clear c0 c1 c2 c3
  have c0 := MB.c0 HZ.out.a.mb; have c1 := MB.c1 HZ.out.a.mb; have c2 := MB.c2 HZ.out.a.mb; have c3 := MB.c3 HZ.out.a.mb
  have d0 := MB.c0 HZ.out.r; have d1 := MB.c1 HZ.out.r; have d2 := MB.c2 HZ.out.r; have d3 := MB.c3 HZ.out.r
  have f0 := MB.fz HZ.out.r 0; have f1 := MB.fz HZ.out.r 1; have f2 := MB.fz HZ.out.r 2; have f3 := MB.fz HZ.out.r 3
  have HL := As.mk (mx_lens HZ.out)
  rcases Nat.lt_or_ge 300 m.nodes.length with hnn | hnn
  · have q5 : ¬ ((m.nodes.length : Int) ≤ 300) := by omega
    refine region_perm (fun w' => w'.cell? ⟨g, 0, none⟩ = some (.slice AN m.nodes.length cN) ∧ w'.cell? ⟨g, 1, none⟩ = some (.slice (some ⟨gS, 0, none⟩) (m.stack.length + 1) cS') ∧ w'.cell? ⟨g, 2, none⟩ = some (.slice AM m.memo.length cM) ∧ w'.cell? ⟨g, 3, none⟩ = some (.bool (addS m (-1)).done)) [] [(0, 1), (1, 0), (2, 1), (3, 0), (4, 0), (5, 0), (6, 0), (7, 1), (8, 0), (9, 0), (10, 0), (11, 2), (12, 0)] (by kernel_rfl) (by kernel_rfl) rfl (by kernel_rfl) (fun _ _ _ _ h => h) ?_
    have hS := And.intro c0 (And.intro c1 (And.intro c2 c3))
    repeat (first | refine wpP.c0 (h := ?_) | refine wpP.c1 (w := wZ.drew) hS (h := ?_) | refine wpP.c0off (h := ?_) | refine wpP.c1off (w := wZ.drew) hS (h := ?_))
    refine wpP.ev (h := fun Kv hKv => ?_)
    go_wp2_with fail
    have hf4 := Fr.set4 (S := fun k => k = g + 1 + 1) (w := wZ) (g := g + 1 + 1) rfl (.slice AN m.nodes.length cN) (.slice (some ⟨gS, 0, none⟩) (m.stack.length + 1) cS') (.slice AM m.memo.length cM) (.bool (addS m (-1)).done)
    refine hKv.out _ _ ⟨(Ext.rf _).dr.cellOf (hf4.cell c0 (by show ¬ g = g + 1 + 1; omega)), (Ext.rf _).dr.cellOf (hf4.cell c1 (by show ¬ g = g + 1 + 1; omega)), (Ext.rf _).dr.cellOf (hf4.cell c2 (by show ¬ g = g + 1 + 1; omega)), (Ext.rf _).dr.cellOf (hf4.cell c3 (by show ¬ g = g + 1 + 1; omega))⟩ ?_
    clear hf4
    repeat (first | refine wpP.c0 (h := ?_))
    refine wpP.done ?_
    clear hKv Kv hS
    go_wp2_with fail
    have ho := HZ.out.out
    refine bodyPost_ret (results_cellt rfl _ _ (g + 1 + 1) _ rfl (loadM ((Ext.rf _).dr.blk ho.2.2))) rfl ?_
    rw [HR.out]
    have HD : fitM (addS m (-1)) = none := by
      have := HL.out.1
      unfold fitM
      rw [if_neg (by omega)]
    rw [HD]
    exact ⟨_, _, _, _, _, _, _, _, _, _, rfl, ho.2.1.trans (Fr.ofExt ((Ext.rf _).dr)), fun _ hm => nomatch hm⟩
  · have q5 : (m.nodes.length : Int) ≤ 300 := by omega
    refine region_perm (fun w' => w'.cell? ⟨g, 0, none⟩ = some (.slice AN m.nodes.length cN) ∧ w'.cell? ⟨g, 1, none⟩ = some (.slice (some ⟨gS, 0, none⟩) (m.stack.length + 1) cS') ∧ w'.cell? ⟨g, 2, none⟩ = some (.slice AM m.memo.length cM) ∧ w'.cell? ⟨g, 3, none⟩ = some (.bool (addS m (-1)).done)) [] [(0, 1), (1, 0), (2, 1), (3, 0), (4, 0), (5, 0), (6, 0), (7, 1), (8, 0), (9, 0), (10, 0), (11, 2), (12, 0)] (by kernel_rfl) (by kernel_rfl) rfl (by kernel_rfl) (fun _ _ _ _ h => h) ?_
    have hS := And.intro c0 (And.intro c1 (And.intro c2 c3))
    repeat (first | refine wpP.c0 (h := ?_) | refine wpP.c1 (w := wZ.drew) hS (h := ?_) | refine wpP.c0off (h := ?_) | refine wpP.c1off (w := wZ.drew) hS (h := ?_))
    refine wpP.ev (h := fun Kv hKv => ?_)
    go_wp2_with fail
    have hf4 := Fr.set4 (S := fun k => k = g + 1 + 1) (w := wZ) (g := g + 1 + 1) rfl (.slice AN m.nodes.length cN) (.slice (some ⟨gS, 0, none⟩) (m.stack.length + 1) cS') (.slice AM m.memo.length cM) (.bool (addS m (-1)).done)
    refine hKv.out _ _ ⟨(Ext.rf _).dr.cellOf (hf4.cell c0 (by show ¬ g = g + 1 + 1; omega)), (Ext.rf _).dr.cellOf (hf4.cell c1 (by show ¬ g = g + 1 + 1; omega)), (Ext.rf _).dr.cellOf (hf4.cell c2 (by show ¬ g = g + 1 + 1; omega)), (Ext.rf _).dr.cellOf (hf4.cell c3 (by show ¬ g = g + 1 + 1; omega))⟩ ?_
    clear hf4
    repeat (first | refine wpP.c0 (h := ?_))
    refine wpP.done ?_
    clear hKv Kv hS
    go_wp2_with fail
    have ho := HZ.out.out
    refine bodyPost_ret (results_cellt rfl _ _ (g + 1 + 1) _ rfl (loadM ((Ext.rf _).dr.blk ho.2.2))) rfl ?_
    rw [HR.out]
    have HD : (fitM (addS m (-1))).isSome = decide (((m.stack.length + 1) : Int) ≤ 300) := by
      have h1 := HL.out.1
      have h2 := HL.out.2
      unfold fitM
      by_cases hl : (addS m (-1)).stack.length ≤ 300
      · rw [if_pos ⟨by omega, hl⟩]; symm; simp; omega
      · rw [if_neg (by omega)]; symm; simp; omega
    unfold StepX
    rw [HD]
    refine ⟨_, _, _, _, _, _, _, _, _, _, rfl, ho.2.1.trans (Fr.ofExt ((Ext.rf _).dr)), fun m' hm => ?_⟩
    unfold fitM at hm
    split at hm
    · injection hm with hm
      subst hm
      exact ⟨rfl, _, ho.1.ext ((Ext.rf _).dr)⟩
    · exact nomatch hm
set_option maxRecDepth 100000 in
set_option maxHeartbeats 4000000 in
theorem mstep_done {B Bd w l vN vS vM m} (h : MW B w l vN vS vM m) (hok : okM Bd m) (hd : m.done = true) (code arg : Int) :
    Calls Try.prog 123 #[.agg #[vN, vS, vM, .bool m.done], .agg #[.int .i64 code, .int .i64 arg]] w (StepX B none w) := by
  obtain ⟨AN, cN, AS, cS, AM, cM, rfl, rfl, rfl, hrm, hcS⟩ := h.rm (by have := hok.nl; omega) (by have := hok.sl; omega) (by have := hok.ml; omega)
  have HX := As.mk (h.box (W := ((w.alloc (.cells #[.slice AN m.nodes.length cN, .slice AS m.stack.length cS, .slice AM m.memo.length cM, .bool m.done] 64)).alloc (.cells #[.int .i64 code, .int .i64 arg] 82)).alloc (.cells #[.slice none 0 0, .slice none 0 0, .slice none 0 0, .bool false] 64)) (fun k => k = w.heap.size ∨ k = w.heap.size + 1 ∨ k = w.heap.size + 1 + 1) (g := w.heap.size) (g2 := w.heap.size + 1 + 1) ((((Ext.rf w).al _).al _).al _) (((((Ext.rf _).al _)).al _).blk (al_new _ _)) (by have := al_new ((w.alloc (.cells #[.slice AN m.nodes.length cN, .slice AS m.stack.length cS, .slice AM m.memo.length cM, .bool m.done] 64)).alloc (.cells #[.int .i64 code, .int .i64 arg] 82)) (.cells #[.slice none 0 0, .slice none 0 0, .slice none 0 0, .bool false] 64); rw [al_size, al_size] at this; exact this) (.inl rfl) (.inr (.inr rfl)) (by omega) (fun k hk => by rw [al_size, al_size, al_size]; omega))
  have HO := As.mk (show (((w.alloc (.cells #[.slice AN m.nodes.length cN, .slice AS m.stack.length cS, .slice AM m.memo.length cM, .bool m.done] 64)).alloc (.cells #[.int .i64 code, .int .i64 arg] 82)).alloc (.cells #[.slice none 0 0, .slice none 0 0, .slice none 0 0, .bool false] 64)).heap[w.heap.size + 1]? = some (.cells #[.int .i64 code, .int .i64 arg] 82 (0, 0)) from by have := ((Ext.rf _).al (.cells #[.slice none 0 0, .slice none 0 0, .slice none 0 0, .bool false] 64)).blk (al_new (w.alloc (.cells #[.slice AN m.nodes.length cN, .slice AS m.stack.length cS, .slice AM m.memo.length cM, .bool m.done] 64)) (.cells #[.int .i64 code, .int .i64 arg] 82)); rw [al_size] at this; exact this)
  have HOK := As.mk hok
  have q1 := hok.nl
  have q2 := hok.sl
  have q3 : m.memo.length ≤ 1000000 := by have := hok.ml; omega
  have HD0 := As.mk hd
  clear hd
  clear h hrm hok
  go_enter Try.func123, Try.ntmps123
  go_upto_region 1 with fail
  obtain ⟨w1, hw1⟩ : ∃ w1, w1 = ((w.alloc (.cells #[.slice AN m.nodes.length cN, .slice AS m.stack.length cS, .slice AM m.memo.length cM, .bool m.done] 64)).alloc (.cells #[.int .i64 code, .int .i64 arg] 82)).alloc (.cells #[.slice none 0 0, .slice none 0 0, .slice none 0 0, .bool false] 64) := ⟨_, rfl⟩
  rw [← hw1] at HX HO ⊢
  clear hw1
  obtain ⟨g, hg⟩ : ∃ g, g = w.heap.size := ⟨_, rfl⟩
  rw [← hg] at HX HO ⊢
  clear hg
  have c0 := MB.c0 HX.out.a.mb; have c1 := MB.c1 HX.out.a.mb; have c2 := MB.c2 HX.out.a.mb; have c3 := MB.c3 HX.out.a.mb
  have o0 : w1.cell? ⟨g + 1, 0, none⟩ = some (.int .i64 code) := by simp [World.cell?, HO.out]
  have o1 : w1.cell? ⟨g + 1, 1, none⟩ = some (.int .i64 arg) := by simp [World.cell?, HO.out]
  rw [HD0.out] at c3
  have d0 := MB.c0 HX.out.r; have d1 := MB.c1 HX.out.r; have d2 := MB.c2 HX.out.r; have d3 := MB.c3 HX.out.r
  have f0 := MB.fz HX.out.r 0; have f1 := MB.fz HX.out.r 1; have f2 := MB.fz HX.out.r 2; have f3 := MB.fz HX.out.r 3
  go_wp2_with fail
  have ho := HX.out.out
  rw [HD0.out] at ho
  refine bodyPost_ret (results_cellt rfl _ _ (g + 1 + 1) _ rfl (loadM ho.2.2)) rfl ?_
  exact ⟨_, _, _, _, _, _, _, _, _, _, rfl, ho.2.1, fun _ hm => nomatch hm⟩
set_option maxRecDepth 100000 in
set_option maxHeartbeats 4000000 in
theorem mstep_T_s {B Bd w l vN vS vM m} (h : MW B w l vN vS vM m) (hok : okM Bd m) (hd : m.done = false) (code : Int) (arg : Int) (hne : code ≠ 0 ∧ code ≠ 1 ∧ code ≠ 4 ∧ code ≠ 7 ∧ code ≠ 10 ∧ code ≠ 13 ∧ code ≠ 2 ∧ code ≠ 16 ∧ code ≠ 3 ∧ code ≠ 9 ∧ code ≠ 12 ∧ code ≠ 18) (m1 : Mc) (hT : ∀ (B : Nat → Prop) (w : World) l vN vS vM, MW B w l vN vS vM m → Calls Try.prog 149 #[.agg #[vN, vS, vM, .bool m.done], .agg #[.int .i64 code, .int .i64 arg]] w (StepX B (some m1) w)) :
    Calls Try.prog 123 #[.agg #[vN, vS, vM, .bool m.done], .agg #[.int .i64 code, .int .i64 arg]] w (StepX B (fitM m1) w) := by
  obtain ⟨AN, cN, AS, cS, AM, cM, rfl, rfl, rfl, hrm, hcS⟩ := h.rm (by have := hok.nl; omega) (by have := hok.sl; omega) (by have := hok.ml; omega)
  have HX := As.mk (h.box (W := ((w.alloc (.cells #[.slice AN m.nodes.length cN, .slice AS m.stack.length cS, .slice AM m.memo.length cM, .bool m.done] 64)).alloc (.cells #[.int .i64 code, .int .i64 arg] 82)).alloc (.cells #[.slice none 0 0, .slice none 0 0, .slice none 0 0, .bool false] 64)) (fun k => k = w.heap.size ∨ k = w.heap.size + 1 ∨ k = w.heap.size + 1 + 1) (g := w.heap.size) (g2 := w.heap.size + 1 + 1) ((((Ext.rf w).al _).al _).al _) (((((Ext.rf _).al _)).al _).blk (al_new _ _)) (by have := al_new ((w.alloc (.cells #[.slice AN m.nodes.length cN, .slice AS m.stack.length cS, .slice AM m.memo.length cM, .bool m.done] 64)).alloc (.cells #[.int .i64 code, .int .i64 arg] 82)) (.cells #[.slice none 0 0, .slice none 0 0, .slice none 0 0, .bool false] 64); rw [al_size, al_size] at this; exact this) (.inl rfl) (.inr (.inr rfl)) (by omega) (fun k hk => by rw [al_size, al_size, al_size]; omega))
  have HO := As.mk (show (((w.alloc (.cells #[.slice AN m.nodes.length cN, .slice AS m.stack.length cS, .slice AM m.memo.length cM, .bool m.done] 64)).alloc (.cells #[.int .i64 code, .int .i64 arg] 82)).alloc (.cells #[.slice none 0 0, .slice none 0 0, .slice none 0 0, .bool false] 64)).heap[w.heap.size + 1]? = some (.cells #[.int .i64 code, .int .i64 arg] 82 (0, 0)) from by have := ((Ext.rf _).al (.cells #[.slice none 0 0, .slice none 0 0, .slice none 0 0, .bool false] 64)).blk (al_new (w.alloc (.cells #[.slice AN m.nodes.length cN, .slice AS m.stack.length cS, .slice AM m.memo.length cM, .bool m.done] 64)) (.cells #[.int .i64 code, .int .i64 arg] 82)); rw [al_size] at this; exact this)
  have HOK := As.mk hok
  have q1 := hok.nl
  have q2 := hok.sl
  have q3 : m.memo.length ≤ 1000000 := by have := hok.ml; omega
  have HD0 := As.mk hd
  clear hd
  have HT := As.mk hT
  clear hT
  obtain ⟨r, hr⟩ : ∃ r, r = fitM m1 := ⟨_, rfl⟩
  have HR := As.mk hr
  rw [← hr]
  clear hr
  obtain ⟨ne0, ne1, ne4, ne7, ne10, ne13, ne2, ne16, ne3, ne9, ne12, ne18⟩ := hne
  clear h hrm hok
  go_enter Try.func123, Try.ntmps123
  go_upto_region 1 with fail
  obtain ⟨w1, hw1⟩ : ∃ w1, w1 = ((w.alloc (.cells #[.slice AN m.nodes.length cN, .slice AS m.stack.length cS, .slice AM m.memo.length cM, .bool m.done] 64)).alloc (.cells #[.int .i64 code, .int .i64 arg] 82)).alloc (.cells #[.slice none 0 0, .slice none 0 0, .slice none 0 0, .bool false] 64) := ⟨_, rfl⟩
  rw [← hw1] at HX HO ⊢
  clear hw1
  obtain ⟨g, hg⟩ : ∃ g, g = w.heap.size := ⟨_, rfl⟩
  rw [← hg] at HX HO ⊢
  clear hg
  have c0 := MB.c0 HX.out.a.mb; have c1 := MB.c1 HX.out.a.mb; have c2 := MB.c2 HX.out.a.mb; have c3 := MB.c3 HX.out.a.mb
  have o0 : w1.cell? ⟨g + 1, 0, none⟩ = some (.int .i64 code) := by simp [World.cell?, HO.out]
  have o1 : w1.cell? ⟨g + 1, 1, none⟩ = some (.int .i64 arg) := by simp [World.cell?, HO.out]
  rw [HD0.out] at c3
  have oo : ∀ W : World, W.heap[g + 1]? = some (.cells #[.int .i64 code, .int .i64 arg] 82 (0, 0)) → W.cell? ⟨g + 1, 0, none⟩ = some (.int .i64 code) := fun W h => by simp [World.cell?, h]
  clear oo
  go_upto_region 5 with (go_at_call 149; have hc := HT.out _ _ _ _ _ _ HX.out.mw; rw [HD0.out] at hc; refine hc.mono ?_; rintro e w5 hr; obtain ⟨l5, BN, nN, cN', BS, nS, cS', BM, nM, cM', rfl, hv, hf⟩ := stepX_some hr; have HV := As.mk hv; have HF := As.mk hf; clear hr hv hf hc)
  have hb6 : MB _ _ (.slice BN nN cN') (.slice BS nS cS') (.slice BM nM cM') m1.done := al_new w5 (.cells #[.slice BN nN cN', .slice BS nS cS', .slice BM nM cM', .bool m1.done] 64)
  have hE6 : Ext w5 (w5.alloc (.cells #[.slice BN nN cN', .slice BS nS cS', .slice BM nM cM', .bool m1.done] 64)) := (Ext.rf w5).al _
  have HE6 := As.mk hE6
  have HB6 := As.mk hb6
  clear hE6 hb6
  generalize (w5.alloc (.cells #[.slice BN nN cN', .slice BS nS cS', .slice BM nM cM', .bool m1.done] 64)) = w6 at HE6 HB6 ⊢
  obtain ⟨gb, hgb⟩ : ∃ gb, gb = w5.heap.size := ⟨_, rfl⟩
  rw [← hgb] at HB6 ⊢
  clear hgb
  have hb := HE6.out.blk (HF.out.blk HX.out.a.mb (fun e => e.2 HX.out.xg))
  have e0 := MB.c0 hb; have e1 := MB.c1 hb; have e2 := MB.c2 hb; have e3 := MB.c3 hb
  have b0 := MB.fz hb 0; have b1 := MB.fz hb 1; have b2 := MB.fz hb 2; have b3 := MB.fz hb 3
  have n0 := MB.c0 HB6.out; have n1 := MB.c1 HB6.out; have n2 := MB.c2 HB6.out; have n3 := MB.c3 HB6.out
  have hz := HX.out.put (HV.out.ext HE6.out) (HF.out.trans (Fr.ofExt HE6.out))
  have HZ := As.mk hz
  clear hz hb c0 c1 c2 c3 o0 o1
  go_upto_region 34 with fail
  clear e0 e1 e2 e3 b0 b1 b2 b3 n0 n1 n2 n3 HV HF HE6 HB6 HX
  generalize ((((w6.setCell ⟨g, 0, none⟩ (.slice BN nN cN')).setCell ⟨g, 1, none⟩ (.slice BS nS cS')).setCell ⟨g, 2, none⟩ (.slice BM nM cM')).setCell ⟨g, 3, none⟩ (.bool m1.done)) = wZ at HZ ⊢
  have c0 := MB.c0 HZ.out.a.mb; have c1 := MB.c1 HZ.out.a.mb; have c2 := MB.c2 HZ.out.a.mb; have c3 := MB.c3 HZ.out.a.mb
  have d0 := MB.c0 HZ.out.r; have d1 := MB.c1 HZ.out.r; have d2 := MB.c2 HZ.out.r; have d3 := MB.c3 HZ.out.r
  have f0 := MB.fz HZ.out.r 0; have f1 := MB.fz HZ.out.r 1; have f2 := MB.fz HZ.out.r 2; have f3 := MB.fz HZ.out.r 3
  have HL := As.mk (mx_lens HZ.out)
  rcases Nat.lt_or_ge 300 nN with hnn | hnn
  · have q5 : ¬ ((nN : Int) ≤ 300) := by omega
    refine region_perm (fun w' => w'.cell? ⟨g, 0, none⟩ = some (.slice BN nN cN') ∧ w'.cell? ⟨g, 1, none⟩ = some (.slice BS nS cS') ∧ w'.cell? ⟨g, 2, none⟩ = some (.slice BM nM cM') ∧ w'.cell? ⟨g, 3, none⟩ = some (.bool (m1).done)) [] [(0, 1), (1, 0), (2, 1), (3, 0), (4, 0), (5, 0), (6, 0), (7, 1), (8, 0), (9, 0), (10, 0), (11, 2), (12, 0)] (by kernel_rfl) (by kernel_rfl) rfl (by kernel_rfl) (fun _ _ _ _ h => h) ?_
    have hS := And.intro c0 (And.intro c1 (And.intro c2 c3))
    repeat (first | refine wpP.c0 (h := ?_) | refine wpP.c1 (w := wZ.drew) hS (h := ?_) | refine wpP.c0off (h := ?_) | refine wpP.c1off (w := wZ.drew) hS (h := ?_))
    refine wpP.ev (h := fun Kv hKv => ?_)
    go_wp2_with fail
    have hf4 := Fr.set4 (S := fun k => k = g + 1 + 1) (w := wZ) (g := g + 1 + 1) rfl (.slice BN nN cN') (.slice BS nS cS') (.slice BM nM cM') (.bool (m1).done)
    refine hKv.out _ _ ⟨(Ext.rf _).dr.cellOf (hf4.cell c0 (by show ¬ g = g + 1 + 1; omega)), (Ext.rf _).dr.cellOf (hf4.cell c1 (by show ¬ g = g + 1 + 1; omega)), (Ext.rf _).dr.cellOf (hf4.cell c2 (by show ¬ g = g + 1 + 1; omega)), (Ext.rf _).dr.cellOf (hf4.cell c3 (by show ¬ g = g + 1 + 1; omega))⟩ ?_
    clear hf4
    repeat (first | refine wpP.c0 (h := ?_))
    refine wpP.done ?_
    clear hKv Kv hS
    go_wp2_with fail
    have ho := HZ.out.out
    refine bodyPost_ret (results_cellt rfl _ _ (g + 1 + 1) _ rfl (loadM ((Ext.rf _).dr.blk ho.2.2))) rfl ?_
    rw [HR.out]
    have HD : fitM (m1) = none := by
      have := HL.out.1
      unfold fitM
      rw [if_neg (by omega)]
    rw [HD]
    exact ⟨_, _, _, _, _, _, _, _, _, _, rfl, ho.2.1.trans (Fr.ofExt ((Ext.rf _).dr)), fun _ hm => nomatch hm⟩
  · have q5 : (nN : Int) ≤ 300 := by omega
    refine region_perm (fun w' => w'.cell? ⟨g, 0, none⟩ = some (.slice BN nN cN') ∧ w'.cell? ⟨g, 1, none⟩ = some (.slice BS nS cS') ∧ w'.cell? ⟨g, 2, none⟩ = some (.slice BM nM cM') ∧ w'.cell? ⟨g, 3, none⟩ = some (.bool (m1).done)) [] [(0, 1), (1, 0), (2, 1), (3, 0), (4, 0), (5, 0), (6, 0), (7, 1), (8, 0), (9, 0), (10, 0), (11, 2), (12, 0)] (by kernel_rfl) (by kernel_rfl) rfl (by kernel_rfl) (fun _ _ _ _ h => h) ?_
    have hS := And.intro c0 (And.intro c1 (And.intro c2 c3))
    repeat (first | refine wpP.c0 (h := ?_) | refine wpP.c1 (w := wZ.drew) hS (h := ?_) | refine wpP.c0off (h := ?_) | refine wpP.c1off (w := wZ.drew) hS (h := ?_))
    refine wpP.ev (h := fun Kv hKv => ?_)
    go_wp2_with fail
    have hf4 := Fr.set4 (S := fun k => k = g + 1 + 1) (w := wZ) (g := g + 1 + 1) rfl (.slice BN nN cN') (.slice BS nS cS') (.slice BM nM cM') (.bool (m1).done)
    refine hKv.out _ _ ⟨(Ext.rf _).dr.cellOf (hf4.cell c0 (by show ¬ g = g + 1 + 1; omega)), (Ext.rf _).dr.cellOf (hf4.cell c1 (by show ¬ g = g + 1 + 1; omega)), (Ext.rf _).dr.cellOf (hf4.cell c2 (by show ¬ g = g + 1 + 1; omega)), (Ext.rf _).dr.cellOf (hf4.cell c3 (by show ¬ g = g + 1 + 1; omega))⟩ ?_
    clear hf4
    repeat (first | refine wpP.c0 (h := ?_))
    refine wpP.done ?_
    clear hKv Kv hS
    go_wp2_with fail
    have ho := HZ.out.out
    refine bodyPost_ret (results_cellt rfl _ _ (g + 1 + 1) _ rfl (loadM ((Ext.rf _).dr.blk ho.2.2))) rfl ?_
    rw [HR.out]
    have HD : (fitM (m1)).isSome = decide ((nS : Int) ≤ 300) := by
      have h1 := HL.out.1
      have h2 := HL.out.2
      unfold fitM
      by_cases hl : (m1).stack.length ≤ 300
      · rw [if_pos ⟨by omega, hl⟩]; symm; simp; omega
      · rw [if_neg (by omega)]; symm; simp; omega
    unfold StepX
    rw [HD]
    refine ⟨_, _, _, _, _, _, _, _, _, _, rfl, ho.2.1.trans (Fr.ofExt ((Ext.rf _).dr)), fun m' hm => ?_⟩
    unfold fitM at hm
    split at hm
    · injection hm with hm
      subst hm
      exact ⟨rfl, _, ho.1.ext ((Ext.rf _).dr)⟩
    · exact nomatch hm
set_option maxRecDepth 100000 in
set_option maxHeartbeats 4000000 in
theorem mstep_T_n {B Bd w l vN vS vM m} (h : MW B w l vN vS vM m) (hok : okM Bd m) (hd : m.done = false) (code : Int) (arg : Int) (hne : code ≠ 0 ∧ code ≠ 1 ∧ code ≠ 4 ∧ code ≠ 7 ∧ code ≠ 10 ∧ code ≠ 13 ∧ code ≠ 2 ∧ code ≠ 16 ∧ code ≠ 3 ∧ code ≠ 9 ∧ code ≠ 12 ∧ code ≠ 18) (hT : ∀ (B : Nat → Prop) (w : World) l vN vS vM, MW B w l vN vS vM m → Calls Try.prog 149 #[.agg #[vN, vS, vM, .bool m.done], .agg #[.int .i64 code, .int .i64 arg]] w (StepX B (none) w)) :
    Calls Try.prog 123 #[.agg #[vN, vS, vM, .bool m.done], .agg #[.int .i64 code, .int .i64 arg]] w (StepX B (none) w) := by
  obtain ⟨AN, cN, AS, cS, AM, cM, rfl, rfl, rfl, hrm, hcS⟩ := h.rm (by have := hok.nl; omega) (by have := hok.sl; omega) (by have := hok.ml; omega)
  have HX := As.mk (h.box (W := ((w.alloc (.cells #[.slice AN m.nodes.length cN, .slice AS m.stack.length cS, .slice AM m.memo.length cM, .bool m.done] 64)).alloc (.cells #[.int .i64 code, .int .i64 arg] 82)).alloc (.cells #[.slice none 0 0, .slice none 0 0, .slice none 0 0, .bool false] 64)) (fun k => k = w.heap.size ∨ k = w.heap.size + 1 ∨ k = w.heap.size + 1 + 1) (g := w.heap.size) (g2 := w.heap.size + 1 + 1) ((((Ext.rf w).al _).al _).al _) (((((Ext.rf _).al _)).al _).blk (al_new _ _)) (by have := al_new ((w.alloc (.cells #[.slice AN m.nodes.length cN, .slice AS m.stack.length cS, .slice AM m.memo.length cM, .bool m.done] 64)).alloc (.cells #[.int .i64 code, .int .i64 arg] 82)) (.cells #[.slice none 0 0, .slice none 0 0, .slice none 0 0, .bool false] 64); rw [al_size, al_size] at this; exact this) (.inl rfl) (.inr (.inr rfl)) (by omega) (fun k hk => by rw [al_size, al_size, al_size]; omega))
  have HO := As.mk (show (((w.alloc (.cells #[.slice AN m.nodes.length cN, .slice AS m.stack.length cS, .slice AM m.memo.length cM, .bool m.done] 64)).alloc (.cells #[.int .i64 code, .int .i64 arg] 82)).alloc (.cells #[.slice none 0 0, .slice none 0 0, .slice none 0 0, .bool false] 64)).heap[w.heap.size + 1]? = some (.cells #[.int .i64 code, .int .i64 arg] 82 (0, 0)) from by have := ((Ext.rf _).al (.cells #[.slice none 0 0, .slice none 0 0, .slice none 0 0, .bool false] 64)).blk (al_new (w.alloc (.cells #[.slice AN m.nodes.length cN, .slice AS m.stack.length cS, .slice AM m.memo.length cM, .bool m.done] 64)) (.cells #[.int .i64 code, .int .i64 arg] 82)); rw [al_size] at this; exact this)
  have HOK := As.mk hok
  have q1 := hok.nl
  have q2 := hok.sl
  have q3 : m.memo.length ≤ 1000000 := by have := hok.ml; omega
  have HD0 := As.mk hd
  clear hd
  have HT := As.mk hT
  clear hT
  obtain ⟨ne0, ne1, ne4, ne7, ne10, ne13, ne2, ne16, ne3, ne9, ne12, ne18⟩ := hne
  clear h hrm hok
  go_enter Try.func123, Try.ntmps123
  go_upto_region 1 with fail
  obtain ⟨w1, hw1⟩ : ∃ w1, w1 = ((w.alloc (.cells #[.slice AN m.nodes.length cN, .slice AS m.stack.length cS, .slice AM m.memo.length cM, .bool m.done] 64)).alloc (.cells #[.int .i64 code, .int .i64 arg] 82)).alloc (.cells #[.slice none 0 0, .slice none 0 0, .slice none 0 0, .bool false] 64) := ⟨_, rfl⟩
  rw [← hw1] at HX HO ⊢
  clear hw1
  obtain ⟨g, hg⟩ : ∃ g, g = w.heap.size := ⟨_, rfl⟩
  rw [← hg] at HX HO ⊢
  clear hg
  have c0 := MB.c0 HX.out.a.mb; have c1 := MB.c1 HX.out.a.mb; have c2 := MB.c2 HX.out.a.mb; have c3 := MB.c3 HX.out.a.mb
  have o0 : w1.cell? ⟨g + 1, 0, none⟩ = some (.int .i64 code) := by simp [World.cell?, HO.out]
  have o1 : w1.cell? ⟨g + 1, 1, none⟩ = some (.int .i64 arg) := by simp [World.cell?, HO.out]
  rw [HD0.out] at c3
  have oo : ∀ W : World, W.heap[g + 1]? = some (.cells #[.int .i64 code, .int .i64 arg] 82 (0, 0)) → W.cell? ⟨g + 1, 0, none⟩ = some (.int .i64 code) := fun W h => by simp [World.cell?, h]
  clear oo
  go_upto_region 5 with (go_at_call 149; have hc := HT.out _ _ _ _ _ _ HX.out.mw; rw [HD0.out] at hc; refine hc.mono ?_; rintro e w5 hr; obtain ⟨BN, nN, cN', BS, nS, cS', BM, nM, cM', x, rfl, hf⟩ := stepX_none hr; have HF := As.mk hf; clear hr hf hc)
  have hE6 : Ext w5 (w5.alloc (.cells #[.slice BN nN cN', .slice BS nS cS', .slice BM nM cM', .bool x] 64)) := (Ext.rf w5).al _
  have HE6 := As.mk hE6
  clear hE6
  generalize (w5.alloc (.cells #[.slice BN nN cN', .slice BS nS cS', .slice BM nM cM', .bool x] 64)) = w6 at HE6 ⊢
  have hb := HE6.out.blk (HF.out.blk HX.out.a.mb (fun e => e.2 HX.out.xg))
  have hb2 := HE6.out.blk (HF.out.blk HX.out.r (fun e => e.2 HX.out.x2))
  have e0 := MB.c0 hb; have e1 := MB.c1 hb; have e2 := MB.c2 hb; have e3 := MB.c3 hb
  have b0 := MB.c0 hb2; have b1 := MB.c1 hb2; have b2 := MB.c2 hb2; have b3 := MB.c3 hb2
  have f0 := MB.fz hb2 0; have f1 := MB.fz hb2 1; have f2 := MB.fz hb2 2; have f3 := MB.fz hb2 3
  clear c0 c1 c2 c3
  go_wp2_with fail
  have hf4 := Fr.set4 (S := fun k => k = g + 1 + 1) (w := w6) (g := g + 1 + 1) rfl (.slice AN m.nodes.length cN) (.slice AS m.stack.length cS) (.slice AM m.memo.length cM) (.bool m.done)
  refine bodyPost_ret (results_cellt rfl _ _ (g + 1 + 1) _ rfl (loadM (MB.all _ _ _ _ hb2))) rfl ?_
  exact ⟨_, _, _, _, _, _, _, _, _, _, rfl, ((HX.out.f.trans (HF.out.mono (fun _ hk => hk.1))).trans (Fr.ofExt HE6.out)).trans (hf4.mono (fun k hk => by rw [hk]; exact HX.out.up _ (HX.out.hx _ HX.out.x2).1)), fun _ hm => nomatch hm⟩
set_option maxRecDepth 100000 in
set_option maxHeartbeats 4000000 in
theorem mstep_M3_s {B Bd w l vN vS vM m} (h : MW B w l vN vS vM m) (hok : okM Bd m) (hd : m.done = false) (arg : Int) (m1 : Mc) (hT : ∀ (B : Nat → Prop) (w : World) l vN vS vM, MW B w l vN vS vM m → Calls Try.prog 148 #[.agg #[vN, vS, vM, .bool m.done], .agg #[.int .i64 3, .int .i64 arg]] w (StepX B (some m1) w)) :
    Calls Try.prog 123 #[.agg #[vN, vS, vM, .bool m.done], .agg #[.int .i64 3, .int .i64 arg]] w (StepX B (fitM m1) w) := by
  obtain ⟨AN, cN, AS, cS, AM, cM, rfl, rfl, rfl, hrm, hcS⟩ := h.rm (by have := hok.nl; omega) (by have := hok.sl; omega) (by have := hok.ml; omega)
  have HX := As.mk (h.box (W := ((w.alloc (.cells #[.slice AN m.nodes.length cN, .slice AS m.stack.length cS, .slice AM m.memo.length cM, .bool m.done] 64)).alloc (.cells #[.int .i64 3, .int .i64 arg] 82)).alloc (.cells #[.slice none 0 0, .slice none 0 0, .slice none 0 0, .bool false] 64)) (fun k => k = w.heap.size ∨ k = w.heap.size + 1 ∨ k = w.heap.size + 1 + 1) (g := w.heap.size) (g2 := w.heap.size + 1 + 1) ((((Ext.rf w).al _).al _).al _) (((((Ext.rf _).al _)).al _).blk (al_new _ _)) (by have := al_new ((w.alloc (.cells #[.slice AN m.nodes.length cN, .slice AS m.stack.length cS, .slice AM m.memo.length cM, .bool m.done] 64)).alloc (.cells #[.int .i64 3, .int .i64 arg] 82)) (.cells #[.slice none 0 0, .slice none 0 0, .slice none 0 0, .bool false] 64); rw [al_size, al_size] at this; exact this) (.inl rfl) (.inr (.inr rfl)) (by omega) (fun k hk => by rw [al_size, al_size, al_size]; omega))
  have HO := As.mk (show (((w.alloc (.cells #[.slice AN m.nodes.length cN, .slice AS m.stack.length cS, .slice AM m.memo.length cM, .bool m.done] 64)).alloc (.cells #[.int .i64 3, .int .i64 arg] 82)).alloc (.cells #[.slice none 0 0, .slice none 0 0, .slice none 0 0, .bool false] 64)).heap[w.heap.size + 1]? = some (.cells #[.int .i64 3, .int .i64 arg] 82 (0, 0)) from by have := ((Ext.rf _).al (.cells #[.slice none 0 0, .slice none 0 0, .slice none 0 0, .bool false] 64)).blk (al_new (w.alloc (.cells #[.slice AN m.nodes.length cN, .slice AS m.stack.length cS, .slice AM m.memo.length cM, .bool m.done] 64)) (.cells #[.int .i64 3, .int .i64 arg] 82)); rw [al_size] at this; exact this)
  have HOK := As.mk hok
  have q1 := hok.nl
  have q2 := hok.sl
  have q3 : m.memo.length ≤ 1000000 := by have := hok.ml; omega
  have HD0 := As.mk hd
  clear hd
  have HT := As.mk hT
  clear hT
  obtain ⟨r, hr⟩ : ∃ r, r = fitM m1 := ⟨_, rfl⟩
  have HR := As.mk hr
  rw [← hr]
  clear hr
  clear h hrm hok
  go_enter Try.func123, Try.ntmps123
  go_upto_region 1 with fail
  obtain ⟨w1, hw1⟩ : ∃ w1, w1 = ((w.alloc (.cells #[.slice AN m.nodes.length cN, .slice AS m.stack.length cS, .slice AM m.memo.length cM, .bool m.done] 64)).alloc (.cells #[.int .i64 3, .int .i64 arg] 82)).alloc (.cells #[.slice none 0 0, .slice none 0 0, .slice none 0 0, .bool false] 64) := ⟨_, rfl⟩
  rw [← hw1] at HX HO ⊢
  clear hw1
  obtain ⟨g, hg⟩ : ∃ g, g = w.heap.size := ⟨_, rfl⟩
  rw [← hg] at HX HO ⊢
  clear hg
  have c0 := MB.c0 HX.out.a.mb; have c1 := MB.c1 HX.out.a.mb; have c2 := MB.c2 HX.out.a.mb; have c3 := MB.c3 HX.out.a.mb
  have o0 : w1.cell? ⟨g + 1, 0, none⟩ = some (.int .i64 3) := by simp [World.cell?, HO.out]
  have o1 : w1.cell? ⟨g + 1, 1, none⟩ = some (.int .i64 arg) := by simp [World.cell?, HO.out]
  rw [HD0.out] at c3
  have oo : ∀ W : World, W.heap[g + 1]? = some (.cells #[.int .i64 3, .int .i64 arg] 82 (0, 0)) → W.cell? ⟨g + 1, 0, none⟩ = some (.int .i64 3) := fun W h => by simp [World.cell?, h]
  clear oo
  go_upto_region 31 with (go_at_call 148; have hc := HT.out _ _ _ _ _ _ HX.out.mw; rw [HD0.out] at hc; refine hc.mono ?_; rintro e w5 hr; obtain ⟨l5, BN, nN, cN', BS, nS, cS', BM, nM, cM', rfl, hv, hf⟩ := stepX_some hr; have HV := As.mk hv; have HF := As.mk hf; clear hr hv hf hc)
  have hb6 : MB _ _ (.slice BN nN cN') (.slice BS nS cS') (.slice BM nM cM') m1.done := al_new w5 (.cells #[.slice BN nN cN', .slice BS nS cS', .slice BM nM cM', .bool m1.done] 64)
  have hE6 : Ext w5 (w5.alloc (.cells #[.slice BN nN cN', .slice BS nS cS', .slice BM nM cM', .bool m1.done] 64)) := (Ext.rf w5).al _
  have HE6 := As.mk hE6
  have HB6 := As.mk hb6
  clear hE6 hb6
  generalize (w5.alloc (.cells #[.slice BN nN cN', .slice BS nS cS', .slice BM nM cM', .bool m1.done] 64)) = w6 at HE6 HB6 ⊢
  obtain ⟨gb, hgb⟩ : ∃ gb, gb = w5.heap.size := ⟨_, rfl⟩
  rw [← hgb] at HB6 ⊢
  clear hgb
  have hb := HE6.out.blk (HF.out.blk HX.out.a.mb (fun e => e.2 HX.out.xg))
  have e0 := MB.c0 hb; have e1 := MB.c1 hb; have e2 := MB.c2 hb; have e3 := MB.c3 hb
  have b0 := MB.fz hb 0; have b1 := MB.fz hb 1; have b2 := MB.fz hb 2; have b3 := MB.fz hb 3
  have n0 := MB.c0 HB6.out; have n1 := MB.c1 HB6.out; have n2 := MB.c2 HB6.out; have n3 := MB.c3 HB6.out
  have hz := HX.out.put (HV.out.ext HE6.out) (HF.out.trans (Fr.ofExt HE6.out))
  have HZ := As.mk hz
  clear hz hb c0 c1 c2 c3 o0 o1
  go_upto_region 34 with fail
  clear e0 e1 e2 e3 b0 b1 b2 b3 n0 n1 n2 n3 HV HF HE6 HB6 HX
  generalize ((((w6.setCell ⟨g, 0, none⟩ (.slice BN nN cN')).setCell ⟨g, 1, none⟩ (.slice BS nS cS')).setCell ⟨g, 2, none⟩ (.slice BM nM cM')).setCell ⟨g, 3, none⟩ (.bool m1.done)) = wZ at HZ ⊢
  have c0 := MB.c0 HZ.out.a.mb; have c1 := MB.c1 HZ.out.a.mb; have c2 := MB.c2 HZ.out.a.mb; have c3 := MB.c3 HZ.out.a.mb
  have d0 := MB.c0 HZ.out.r; have d1 := MB.c1 HZ.out.r; have d2 := MB.c2 HZ.out.r; have d3 := MB.c3 HZ.out.r
  have f0 := MB.fz HZ.out.r 0; have f1 := MB.fz HZ.out.r 1; have f2 := MB.fz HZ.out.r 2; have f3 := MB.fz HZ.out.r 3
  have HL := As.mk (mx_lens HZ.out)
  rcases Nat.lt_or_ge 300 nN with hnn | hnn
  · have q5 : ¬ ((nN : Int) ≤ 300) := by omega
    refine region_perm (fun w' => w'.cell? ⟨g, 0, none⟩ = some (.slice BN nN cN') ∧ w'.cell? ⟨g, 1, none⟩ = some (.slice BS nS cS') ∧ w'.cell? ⟨g, 2, none⟩ = some (.slice BM nM cM') ∧ w'.cell? ⟨g, 3, none⟩ = some (.bool (m1).done)) [] [(0, 1), (1, 0), (2, 1), (3, 0), (4, 0), (5, 0), (6, 0), (7, 1), (8, 0), (9, 0), (10, 0), (11, 2), (12, 0)] (by kernel_rfl) (by kernel_rfl) rfl (by kernel_rfl) (fun _ _ _ _ h => h) ?_
    have hS := And.intro c0 (And.intro c1 (And.intro c2 c3))
    repeat (first | refine wpP.c0 (h := ?_) | refine wpP.c1 (w := wZ.drew) hS (h := ?_) | refine wpP.c0off (h := ?_) | refine wpP.c1off (w := wZ.drew) hS (h := ?_))
    refine wpP.ev (h := fun Kv hKv => ?_)
    go_wp2_with fail
    have hf4 := Fr.set4 (S := fun k => k = g + 1 + 1) (w := wZ) (g := g + 1 + 1) rfl (.slice BN nN cN') (.slice BS nS cS') (.slice BM nM cM') (.bool (m1).done)
    refine hKv.out _ _ ⟨(Ext.rf _).dr.cellOf (hf4.cell c0 (by show ¬ g = g + 1 + 1; omega)), (Ext.rf _).dr.cellOf (hf4.cell c1 (by show ¬ g = g + 1 + 1; omega)), (Ext.rf _).dr.cellOf (hf4.cell c2 (by show ¬ g = g + 1 + 1; omega)), (Ext.rf _).dr.cellOf (hf4.cell c3 (by show ¬ g = g + 1 + 1; omega))⟩ ?_
    clear hf4
    repeat (first | refine wpP.c0 (h := ?_))
    refine wpP.done ?_
    clear hKv Kv hS
    go_wp2_with fail
    have ho := HZ.out.out
    refine bodyPost_ret (results_cellt rfl _ _ (g + 1 + 1) _ rfl (loadM ((Ext.rf _).dr.blk ho.2.2))) rfl ?_
    rw [HR.out]
    have HD : fitM (m1) = none := by
      have := HL.out.1
      unfold fitM
      rw [if_neg (by omega)]
    rw [HD]
    exact ⟨_, _, _, _, _, _, _, _, _, _, rfl, ho.2.1.trans (Fr.ofExt ((Ext.rf _).dr)), fun _ hm => nomatch hm⟩
  · have q5 : (nN : Int) ≤ 300 := by omega
    refine region_perm (fun w' => w'.cell? ⟨g, 0, none⟩ = some (.slice BN nN cN') ∧ w'.cell? ⟨g, 1, none⟩ = some (.slice BS nS cS') ∧ w'.cell? ⟨g, 2, none⟩ = some (.slice BM nM cM') ∧ w'.cell? ⟨g, 3, none⟩ = some (.bool (m1).done)) [] [(0, 1), (1, 0), (2, 1), (3, 0), (4, 0), (5, 0), (6, 0), (7, 1), (8, 0), (9, 0), (10, 0), (11, 2), (12, 0)] (by kernel_rfl) (by kernel_rfl) rfl (by kernel_rfl) (fun _ _ _ _ h => h) ?_
    have hS := And.intro c0 (And.intro c1 (And.intro c2 c3))
    repeat (first | refine wpP.c0 (h := ?_) | refine wpP.c1 (w := wZ.drew) hS (h := ?_) | refine wpP.c0off (h := ?_) | refine wpP.c1off (w := wZ.drew) hS (h := ?_))
    refine wpP.ev (h := fun Kv hKv => ?_)
    go_wp2_with fail
    have hf4 := Fr.set4 (S := fun k => k = g + 1 + 1) (w := wZ) (g := g + 1 + 1) rfl (.slice BN nN cN') (.slice BS nS cS') (.slice BM nM cM') (.bool (m1).done)
    refine hKv.out _ _ ⟨(Ext.rf _).dr.cellOf (hf4.cell c0 (by show ¬ g = g + 1 + 1; omega)), (Ext.rf _).dr.cellOf (hf4.cell c1 (by show ¬ g = g + 1 + 1; omega)), (Ext.rf _).dr.cellOf (hf4.cell c2 (by show ¬ g = g + 1 + 1; omega)), (Ext.rf _).dr.cellOf (hf4.cell c3 (by show ¬ g = g + 1 + 1; omega))⟩ ?_
    clear hf4
    repeat (first | refine wpP.c0 (h := ?_))
    refine wpP.done ?_
    clear hKv Kv hS
    go_wp2_with fail
    have ho := HZ.out.out
    refine bodyPost_ret (results_cellt rfl _ _ (g + 1 + 1) _ rfl (loadM ((Ext.rf _).dr.blk ho.2.2))) rfl ?_
    rw [HR.out]
    have HD : (fitM (m1)).isSome = decide ((nS : Int) ≤ 300) := by
      have h1 := HL.out.1
      have h2 := HL.out.2
      unfold fitM
      by_cases hl : (m1).stack.length ≤ 300
      · rw [if_pos ⟨by omega, hl⟩]; symm; simp; omega
      · rw [if_neg (by omega)]; symm; simp; omega
    unfold StepX
    rw [HD]
    refine ⟨_, _, _, _, _, _, _, _, _, _, rfl, ho.2.1.trans (Fr.ofExt ((Ext.rf _).dr)), fun m' hm => ?_⟩
    unfold fitM at hm
    split at hm
    · injection hm with hm
      subst hm
      exact ⟨rfl, _, ho.1.ext ((Ext.rf _).dr)⟩
    · exact nomatch hm
set_option maxRecDepth 100000 in
set_option maxHeartbeats 4000000 in
theorem mstep_M3_n {B Bd w l vN vS vM m} (h : MW B w l vN vS vM m) (hok : okM Bd m) (hd : m.done = false) (arg : Int) (hT : ∀ (B : Nat → Prop) (w : World) l vN vS vM, MW B w l vN vS vM m → Calls Try.prog 148 #[.agg #[vN, vS, vM, .bool m.done], .agg #[.int .i64 3, .int .i64 arg]] w (StepX B (none) w)) :
    Calls Try.prog 123 #[.agg #[vN, vS, vM, .bool m.done], .agg #[.int .i64 3, .int .i64 arg]] w (StepX B (none) w) := by
  obtain ⟨AN, cN, AS, cS, AM, cM, rfl, rfl, rfl, hrm, hcS⟩ := h.rm (by have := hok.nl; omega) (by have := hok.sl; omega) (by have := hok.ml; omega)
  have HX := As.mk (h.box (W := ((w.alloc (.cells #[.slice AN m.nodes.length cN, .slice AS m.stack.length cS, .slice AM m.memo.length cM, .bool m.done] 64)).alloc (.cells #[.int .i64 3, .int .i64 arg] 82)).alloc (.cells #[.slice none 0 0, .slice none 0 0, .slice none 0 0, .bool false] 64)) (fun k => k = w.heap.size ∨ k = w.heap.size + 1 ∨ k = w.heap.size + 1 + 1) (g := w.heap.size) (g2 := w.heap.size + 1 + 1) ((((Ext.rf w).al _).al _).al _) (((((Ext.rf _).al _)).al _).blk (al_new _ _)) (by have := al_new ((w.alloc (.cells #[.slice AN m.nodes.length cN, .slice AS m.stack.length cS, .slice AM m.memo.length cM, .bool m.done] 64)).alloc (.cells #[.int .i64 3, .int .i64 arg] 82)) (.cells #[.slice none 0 0, .slice none 0 0, .slice none 0 0, .bool false] 64); rw [al_size, al_size] at this; exact this) (.inl rfl) (.inr (.inr rfl)) (by omega) (fun k hk => by rw [al_size, al_size, al_size]; omega))
  have HO := As.mk (show (((w.alloc (.cells #[.slice AN m.nodes.length cN, .slice AS m.stack.length cS, .slice AM m.memo.length cM, .bool m.done] 64)).alloc (.cells #[.int .i64 3, .int .i64 arg] 82)).alloc (.cells #[.slice none 0 0, .slice none 0 0, .slice none 0 0, .bool false] 64)).heap[w.heap.size + 1]? = some (.cells #[.int .i64 3, .int .i64 arg] 82 (0, 0)) from by have := ((Ext.rf _).al (.cells #[.slice none 0 0, .slice none 0 0, .slice none 0 0, .bool false] 64)).blk (al_new (w.alloc (.cells #[.slice AN m.nodes.length cN, .slice AS m.stack.length cS, .slice AM m.memo.length cM, .bool m.done] 64)) (.cells #[.int .i64 3, .int .i64 arg] 82)); rw [al_size] at this; exact this)
  have HOK := As.mk hok
  have q1 := hok.nl
  have q2 := hok.sl
  have q3 : m.memo.length ≤ 1000000 := by have := hok.ml; omega
  have HD0 := As.mk hd
  clear hd
  have HT := As.mk hT
  clear hT
  clear h hrm hok
  go_enter Try.func123, Try.ntmps123
  go_upto_region 1 with fail
  obtain ⟨w1, hw1⟩ : ∃ w1, w1 = ((w.alloc (.cells #[.slice AN m.nodes.length cN, .slice AS m.stack.length cS, .slice AM m.memo.length cM, .bool m.done] 64)).alloc (.cells #[.int .i64 3, .int .i64 arg] 82)).alloc (.cells #[.slice none 0 0, .slice none 0 0, .slice none 0 0, .bool false] 64) := ⟨_, rfl⟩
  rw [← hw1] at HX HO ⊢
  clear hw1
  obtain ⟨g, hg⟩ : ∃ g, g = w.heap.size := ⟨_, rfl⟩
  rw [← hg] at HX HO ⊢
  clear hg
  have c0 := MB.c0 HX.out.a.mb; have c1 := MB.c1 HX.out.a.mb; have c2 := MB.c2 HX.out.a.mb; have c3 := MB.c3 HX.out.a.mb
  have o0 : w1.cell? ⟨g + 1, 0, none⟩ = some (.int .i64 3) := by simp [World.cell?, HO.out]
  have o1 : w1.cell? ⟨g + 1, 1, none⟩ = some (.int .i64 arg) := by simp [World.cell?, HO.out]
  rw [HD0.out] at c3
  have oo : ∀ W : World, W.heap[g + 1]? = some (.cells #[.int .i64 3, .int .i64 arg] 82 (0, 0)) → W.cell? ⟨g + 1, 0, none⟩ = some (.int .i64 3) := fun W h => by simp [World.cell?, h]
  clear oo
  go_upto_region 31 with (go_at_call 148; have hc := HT.out _ _ _ _ _ _ HX.out.mw; rw [HD0.out] at hc; refine hc.mono ?_; rintro e w5 hr; obtain ⟨BN, nN, cN', BS, nS, cS', BM, nM, cM', x, rfl, hf⟩ := stepX_none hr; have HF := As.mk hf; clear hr hf hc)
  have hE6 : Ext w5 (w5.alloc (.cells #[.slice BN nN cN', .slice BS nS cS', .slice BM nM cM', .bool x] 64)) := (Ext.rf w5).al _
  have HE6 := As.mk hE6
  clear hE6
  generalize (w5.alloc (.cells #[.slice BN nN cN', .slice BS nS cS', .slice BM nM cM', .bool x] 64)) = w6 at HE6 ⊢
  have hb := HE6.out.blk (HF.out.blk HX.out.a.mb (fun e => e.2 HX.out.xg))
  have hb2 := HE6.out.blk (HF.out.blk HX.out.r (fun e => e.2 HX.out.x2))
  have e0 := MB.c0 hb; have e1 := MB.c1 hb; have e2 := MB.c2 hb; have e3 := MB.c3 hb
  have b0 := MB.c0 hb2; have b1 := MB.c1 hb2; have b2 := MB.c2 hb2; have b3 := MB.c3 hb2
  have f0 := MB.fz hb2 0; have f1 := MB.fz hb2 1; have f2 := MB.fz hb2 2; have f3 := MB.fz hb2 3
  clear c0 c1 c2 c3
  go_wp2_with fail
  have hf4 := Fr.set4 (S := fun k => k = g + 1 + 1) (w := w6) (g := g + 1 + 1) rfl (.slice AN m.nodes.length cN) (.slice AS m.stack.length cS) (.slice AM m.memo.length cM) (.bool m.done)
  refine bodyPost_ret (results_cellt rfl _ _ (g + 1 + 1) _ rfl (loadM (MB.all _ _ _ _ hb2))) rfl ?_
  exact ⟨_, _, _, _, _, _, _, _, _, _, rfl, ((HX.out.f.trans (HF.out.mono (fun _ hk => hk.1))).trans (Fr.ofExt HE6.out)).trans (hf4.mono (fun k hk => by rw [hk]; exact HX.out.up _ (HX.out.hx _ HX.out.x2).1)), fun _ hm => nomatch hm⟩
set_option maxRecDepth 100000 in
set_option maxHeartbeats 4000000 in
theorem mstep_M9_s {B Bd w l vN vS vM m} (h : MW B w l vN vS vM m) (hok : okM Bd m) (hd : m.done = false) (arg : Int) (m1 : Mc) (hT : ∀ (B : Nat → Prop) (w : World) l vN vS vM, MW B w l vN vS vM m → Calls Try.prog 148 #[.agg #[vN, vS, vM, .bool m.done], .agg #[.int .i64 9, .int .i64 arg]] w (StepX B (some m1) w)) :
    Calls Try.prog 123 #[.agg #[vN, vS, vM, .bool m.done], .agg #[.int .i64 9, .int .i64 arg]] w (StepX B (fitM m1) w) := by
  obtain ⟨AN, cN, AS, cS, AM, cM, rfl, rfl, rfl, hrm, hcS⟩ := h.rm (by have := hok.nl; omega) (by have := hok.sl; omega) (by have := hok.ml; omega)
  have HX := As.mk (h.box (W := ((w.alloc (.cells #[.slice AN m.nodes.length cN, .slice AS m.stack.length cS, .slice AM m.memo.length cM, .bool m.done] 64)).alloc (.cells #[.int .i64 9, .int .i64 arg] 82)).alloc (.cells #[.slice none 0 0, .slice none 0 0, .slice none 0 0, .bool false] 64)) (fun k => k = w.heap.size ∨ k = w.heap.size + 1 ∨ k = w.heap.size + 1 + 1) (g := w.heap.size) (g2 := w.heap.size + 1 + 1) ((((Ext.rf w).al _).al _).al _) (((((Ext.rf _).al _)).al _).blk (al_new _ _)) (by have := al_new ((w.alloc (.cells #[.slice AN m.nodes.length cN, .slice AS m.stack.length cS, .slice AM m.memo.length cM, .bool m.done] 64)).alloc (.cells #[.int .i64 9, .int .i64 arg] 82)) (.cells #[.slice none 0 0, .slice none 0 0, .slice none 0 0, .bool false] 64); rw [al_size, al_size] at this; exact this) (.inl rfl) (.inr (.inr rfl)) (by omega) (fun k hk => by rw [al_size, al_size, al_size]; omega))
  have HO := As.mk (show (((w.alloc (.cells #[.slice AN m.nodes.length cN, .slice AS m.stack.length cS, .slice AM m.memo.length cM, .bool m.done] 64)).alloc (.cells #[.int .i64 9, .int .i64 arg] 82)).alloc (.cells #[.slice none 0 0, .slice none 0 0, .slice none 0 0, .bool false] 64)).heap[w.heap.size + 1]? = some (.cells #[.int .i64 9, .int .i64 arg] 82 (0, 0)) from by have := ((Ext.rf _).al (.cells #[.slice none 0 0, .slice none 0 0, .slice none 0 0, .bool false] 64)).blk (al_new (w.alloc (.cells #[.slice AN m.nodes.length cN, .slice AS m.stack.length cS, .slice AM m.memo.length cM, .bool m.done] 64)) (.cells #[.int .i64 9, .int .i64 arg] 82)); rw [al_size] at this; exact this)
  have HOK := As.mk hok
  have q1 := hok.nl
  have q2 := hok.sl
  have q3 : m.memo.length ≤ 1000000 := by have := hok.ml; omega
  have HD0 := As.mk hd
  clear hd
  have HT := As.mk hT
  clear hT
  obtain ⟨r, hr⟩ : ∃ r, r = fitM m1 := ⟨_, rfl⟩
  have HR := As.mk hr
  rw [← hr]
  clear hr
  clear h hrm hok
  go_enter Try.func123, Try.ntmps123
  go_upto_region 1 with fail
  obtain ⟨w1, hw1⟩ : ∃ w1, w1 = ((w.alloc (.cells #[.slice AN m.nodes.length cN, .slice AS m.stack.length cS, .slice AM m.memo.length cM, .bool m.done] 64)).alloc (.cells #[.int .i64 9, .int .i64 arg] 82)).alloc (.cells #[.slice none 0 0, .slice none 0 0, .slice none 0 0, .bool false] 64) := ⟨_, rfl⟩
  rw [← hw1] at HX HO ⊢
  clear hw1
  obtain ⟨g, hg⟩ : ∃ g, g = w.heap.size := ⟨_, rfl⟩
  rw [← hg] at HX HO ⊢
  clear hg
  have c0 := MB.c0 HX.out.a.mb; have c1 := MB.c1 HX.out.a.mb; have c2 := MB.c2 HX.out.a.mb; have c3 := MB.c3 HX.out.a.mb
  have o0 : w1.cell? ⟨g + 1, 0, none⟩ = some (.int .i64 9) := by simp [World.cell?, HO.out]
  have o1 : w1.cell? ⟨g + 1, 1, none⟩ = some (.int .i64 arg) := by simp [World.cell?, HO.out]
  rw [HD0.out] at c3
  have oo : ∀ W : World, W.heap[g + 1]? = some (.cells #[.int .i64 9, .int .i64 arg] 82 (0, 0)) → W.cell? ⟨g + 1, 0, none⟩ = some (.int .i64 9) := fun W h => by simp [World.cell?, h]
  clear oo
  go_upto_region 31 with (go_at_call 148; have hc := HT.out _ _ _ _ _ _ HX.out.mw; rw [HD0.out] at hc; refine hc.mono ?_; rintro e w5 hr; obtain ⟨l5, BN, nN, cN', BS, nS, cS', BM, nM, cM', rfl, hv, hf⟩ := stepX_some hr; have HV := As.mk hv; have HF := As.mk hf; clear hr hv hf hc)
  have hb6 : MB _ _ (.slice BN nN cN') (.slice BS nS cS') (.slice BM nM cM') m1.done := al_new w5 (.cells #[.slice BN nN cN', .slice BS nS cS', .slice BM nM cM', .bool m1.done] 64)
  have hE6 : Ext w5 (w5.alloc (.cells #[.slice BN nN cN', .slice BS nS cS', .slice BM nM cM', .bool m1.done] 64)) := (Ext.rf w5).al _
  have HE6 := As.mk hE6
  have HB6 := As.mk hb6
  clear hE6 hb6
  generalize (w5.alloc (.cells #[.slice BN nN cN', .slice BS nS cS', .slice BM nM cM', .bool m1.done] 64)) = w6 at HE6 HB6 ⊢
  obtain ⟨gb, hgb⟩ : ∃ gb, gb = w5.heap.size := ⟨_, rfl⟩
  rw [← hgb] at HB6 ⊢
  clear hgb
  have hb := HE6.out.blk (HF.out.blk HX.out.a.mb (fun e => e.2 HX.out.xg))
  have e0 := MB.c0 hb; have e1 := MB.c1 hb; have e2 := MB.c2 hb; have e3 := MB.c3 hb
  have b0 := MB.fz hb 0; have b1 := MB.fz hb 1; have b2 := MB.fz hb 2; have b3 := MB.fz hb 3
  have n0 := MB.c0 HB6.out; have n1 := MB.c1 HB6.out; have n2 := MB.c2 HB6.out; have n3 := MB.c3 HB6.out
  have hz := HX.out.put (HV.out.ext HE6.out) (HF.out.trans (Fr.ofExt HE6.out))
  have HZ := As.mk hz
  clear hz hb c0 c1 c2 c3 o0 o1
  go_upto_region 34 with fail
  clear e0 e1 e2 e3 b0 b1 b2 b3 n0 n1 n2 n3 HV HF HE6 HB6 HX
  generalize ((((w6.setCell ⟨g, 0, none⟩ (.slice BN nN cN')).setCell ⟨g, 1, none⟩ (.slice BS nS cS')).setCell ⟨g, 2, none⟩ (.slice BM nM cM')).setCell ⟨g, 3, none⟩ (.bool m1.done)) = wZ at HZ ⊢
  have c0 := MB.c0 HZ.out.a.mb; have c1 := MB.c1 HZ.out.a.mb; have c2 := MB.c2 HZ.out.a.mb; have c3 := MB.c3 HZ.out.a.mb
  have d0 := MB.c0 HZ.out.r; have d1 := MB.c1 HZ.out.r; have d2 := MB.c2 HZ.out.r; have d3 := MB.c3 HZ.out.r
  have f0 := MB.fz HZ.out.r 0; have f1 := MB.fz HZ.out.r 1; have f2 := MB.fz HZ.out.r 2; have f3 := MB.fz HZ.out.r 3
  have HL := As.mk (mx_lens HZ.out)
  rcases Nat.lt_or_ge 300 nN with hnn | hnn
  · have q5 : ¬ ((nN : Int) ≤ 300) := by omega
    refine region_perm (fun w' => w'.cell? ⟨g, 0, none⟩ = some (.slice BN nN cN') ∧ w'.cell? ⟨g, 1, none⟩ = some (.slice BS nS cS') ∧ w'.cell? ⟨g, 2, none⟩ = some (.slice BM nM cM') ∧ w'.cell? ⟨g, 3, none⟩ = some (.bool (m1).done)) [] [(0, 1), (1, 0), (2, 1), (3, 0), (4, 0), (5, 0), (6, 0), (7, 1), (8, 0), (9, 0), (10, 0), (11, 2), (12, 0)] (by kernel_rfl) (by kernel_rfl) rfl (by kernel_rfl) (fun _ _ _ _ h => h) ?_
    have hS := And.intro c0 (And.intro c1 (And.intro c2 c3))
    repeat (first | refine wpP.c0 (h := ?_) | refine wpP.c1 (w := wZ.drew) hS (h := ?_) | refine wpP.c0off (h := ?_) | refine wpP.c1off (w := wZ.drew) hS (h := ?_))
    refine wpP.ev (h := fun Kv hKv => ?_)
    go_wp2_with fail
    have hf4 := Fr.set4 (S := fun k => k = g + 1 + 1) (w := wZ) (g := g + 1 + 1) rfl (.slice BN nN cN') (.slice BS nS cS') (.slice BM nM cM') (.bool (m1).done)
    refine hKv.out _ _ ⟨(Ext.rf _).dr.cellOf (hf4.cell c0 (by show ¬ g = g + 1 + 1; omega)), (Ext.rf _).dr.cellOf (hf4.cell c1 (by show ¬ g = g + 1 + 1; omega)), (Ext.rf _).dr.cellOf (hf4.cell c2 (by show ¬ g = g + 1 + 1; omega)), (Ext.rf _).dr.cellOf (hf4.cell c3 (by show ¬ g = g + 1 + 1; omega))⟩ ?_
    clear hf4
    repeat (first | refine wpP.c0 (h := ?_))
    refine wpP.done ?_
    clear hKv Kv hS
    go_wp2_with fail
    have ho := HZ.out.out
    refine bodyPost_ret (results_cellt rfl _ _ (g + 1 + 1) _ rfl (loadM ((Ext.rf _).dr.blk ho.2.2))) rfl ?_
    rw [HR.out]
    have HD : fitM (m1) = none := by
      have := HL.out.1
      unfold fitM
      rw [if_neg (by omega)]
    rw [HD]
    exact ⟨_, _, _, _, _, _, _, _, _, _, rfl, ho.2.1.trans (Fr.ofExt ((Ext.rf _).dr)), fun _ hm => nomatch hm⟩
  · have q5 : (nN : Int) ≤ 300 := by omega
    refine region_perm (fun w' => w'.cell? ⟨g, 0, none⟩ = some (.slice BN nN cN') ∧ w'.cell? ⟨g, 1, none⟩ = some (.slice BS nS cS') ∧ w'.cell? ⟨g, 2, none⟩ = some (.slice BM nM cM') ∧ w'.cell? ⟨g, 3, none⟩ = some (.bool (m1).done)) [] [(0, 1), (1, 0), (2, 1), (3, 0), (4, 0), (5, 0), (6, 0), (7, 1), (8, 0), (9, 0), (10, 0), (11, 2), (12, 0)] (by kernel_rfl) (by kernel_rfl) rfl (by kernel_rfl) (fun _ _ _ _ h => h) ?_
    have hS := And.intro c0 (And.intro c1 (And.intro c2 c3))
    repeat (first | refine wpP.c0 (h := ?_) | refine wpP.c1 (w := wZ.drew) hS (h := ?_) | refine wpP.c0off (h := ?_) | refine wpP.c1off (w := wZ.drew) hS (h := ?_))
    refine wpP.ev (h := fun Kv hKv => ?_)
    go_wp2_with fail
    have hf4 := Fr.set4 (S := fun k => k = g + 1 + 1) (w := wZ) (g := g + 1 + 1) rfl (.slice BN nN cN') (.slice BS nS cS') (.slice BM nM cM') (.bool (m1).done)
    refine hKv.out _ _ ⟨(Ext.rf _).dr.cellOf (hf4.cell c0 (by show ¬ g = g + 1 + 1; omega)), (Ext.rf _).dr.cellOf (hf4.cell c1 (by show ¬ g = g + 1 + 1; omega)), (Ext.rf _).dr.cellOf (hf4.cell c2 (by show ¬ g = g + 1 + 1; omega)), (Ext.rf _).dr.cellOf (hf4.cell c3 (by show ¬ g = g + 1 + 1; omega))⟩ ?_
    clear hf4
    repeat (first | refine wpP.c0 (h := ?_))
    refine wpP.done ?_
    clear hKv Kv hS
    go_wp2_with fail
    have ho := HZ.out.out
    refine bodyPost_ret (results_cellt rfl _ _ (g + 1 + 1) _ rfl (loadM ((Ext.rf _).dr.blk ho.2.2))) rfl ?_
    rw [HR.out]
    have HD : (fitM (m1)).isSome = decide ((nS : Int) ≤ 300) := by
      have h1 := HL.out.1
      have h2 := HL.out.2
      unfold fitM
      by_cases hl : (m1).stack.length ≤ 300
      · rw [if_pos ⟨by omega, hl⟩]; symm; simp; omega
      · rw [if_neg (by omega)]; symm; simp; omega
    unfold StepX
    rw [HD]
    refine ⟨_, _, _, _, _, _, _, _, _, _, rfl, ho.2.1.trans (Fr.ofExt ((Ext.rf _).dr)), fun m' hm => ?_⟩
    unfold fitM at hm
    split at hm
    · injection hm with hm
      subst hm
      exact ⟨rfl, _, ho.1.ext ((Ext.rf _).dr)⟩
    · exact nomatch hm
set_option maxRecDepth 100000 in
set_option maxHeartbeats 4000000 in
theorem mstep_M9_n {B Bd w l vN vS vM m} (h : MW B w l vN vS vM m) (hok : okM Bd m) (hd : m.done = false) (arg : Int) (hT : ∀ (B : Nat → Prop) (w : World) l vN vS vM, MW B w l vN vS vM m → Calls Try.prog 148 #[.agg #[vN, vS, vM, .bool m.done], .agg #[.int .i64 9, .int .i64 arg]] w (StepX B (none) w)) :
    Calls Try.prog 123 #[.agg #[vN, vS, vM, .bool m.done], .agg #[.int .i64 9, .int .i64 arg]] w (StepX B (none) w) := by
  obtain ⟨AN, cN, AS, cS, AM, cM, rfl, rfl, rfl, hrm, hcS⟩ := h.rm (by have := hok.nl; omega) (by have := hok.sl; omega) (by have := hok.ml; omega)
  have HX := As.mk (h.box (W := ((w.alloc (.cells #[.slice AN m.nodes.length cN, .slice AS m.stack.length cS, .slice AM m.memo.length cM, .bool m.done] 64)).alloc (.cells #[.int .i64 9, .int .i64 arg] 82)).alloc (.cells #[.slice none 0 0, .slice none 0 0, .slice none 0 0, .bool false] 64)) (fun k => k = w.heap.size ∨ k = w.heap.size + 1 ∨ k = w.heap.size + 1 + 1) (g := w.heap.size) (g2 := w.heap.size + 1 + 1) ((((Ext.rf w).al _).al _).al _) (((((Ext.rf _).al _)).al _).blk (al_new _ _)) (by have := al_new ((w.alloc (.cells #[.slice AN m.nodes.length cN, .slice AS m.stack.length cS, .slice AM m.memo.length cM, .bool m.done] 64)).alloc (.cells #[.int .i64 9, .int .i64 arg] 82)) (.cells #[.slice none 0 0, .slice none 0 0, .slice none 0 0, .bool false] 64); rw [al_size, al_size] at this; exact this) (.inl rfl) (.inr (.inr rfl)) (by omega) (fun k hk => by rw [al_size, al_size, al_size]; omega))
  have HO := As.mk (show (((w.alloc (.cells #[.slice AN m.nodes.length cN, .slice AS m.stack.length cS, .slice AM m.memo.length cM, .bool m.done] 64)).alloc (.cells #[.int .i64 9, .int .i64 arg] 82)).alloc (.cells #[.slice none 0 0, .slice none 0 0, .slice none 0 0, .bool false] 64)).heap[w.heap.size + 1]? = some (.cells #[.int .i64 9, .int .i64 arg] 82 (0, 0)) from by have := ((Ext.rf _).al (.cells #[.slice none 0 0, .slice none 0 0, .slice none 0 0, .bool false] 64)).blk (al_new (w.alloc (.cells #[.slice AN m.nodes.length cN, .slice AS m.stack.length cS, .slice AM m.memo.length cM, .bool m.done] 64)) (.cells #[.int .i64 9, .int .i64 arg] 82)); rw [al_size] at this; exact this)
  have HOK := As.mk hok
  have q1 := hok.nl
  have q2 := hok.sl
  have q3 : m.memo.length ≤ 1000000 := by have := hok.ml; omega
  have HD0 := As.mk hd
  clear hd
  have HT := As.mk hT
  clear hT
  clear h hrm hok
  go_enter Try.func123, Try.ntmps123
  go_upto_region 1 with fail
  obtain ⟨w1, hw1⟩ : ∃ w1, w1 = ((w.alloc (.cells #[.slice AN m.nodes.length cN, .slice AS m.stack.length cS, .slice AM m.memo.length cM, .bool m.done] 64)).alloc (.cells #[.int .i64 9, .int .i64 arg] 82)).alloc (.cells #[.slice none 0 0, .slice none 0 0, .slice none 0 0, .bool false] 64) := ⟨_, rfl⟩
  rw [← hw1] at HX HO ⊢
  clear hw1
  obtain ⟨g, hg⟩ : ∃ g, g = w.heap.size := ⟨_, rfl⟩
  rw [← hg] at HX HO ⊢
  clear hg
  have c0 := MB.c0 HX.out.a.mb; have c1 := MB.c1 HX.out.a.mb; have c2 := MB.c2 HX.out.a.mb; have c3 := MB.c3 HX.out.a.mb
  have o0 : w1.cell? ⟨g + 1, 0, none⟩ = some (.int .i64 9) := by simp [World.cell?, HO.out]
  have o1 : w1.cell? ⟨g + 1, 1, none⟩ = some (.int .i64 arg) := by simp [World.cell?, HO.out]
  rw [HD0.out] at c3
  have oo : ∀ W : World, W.heap[g + 1]? = some (.cells #[.int .i64 9, .int .i64 arg] 82 (0, 0)) → W.cell? ⟨g + 1, 0, none⟩ = some (.int .i64 9) := fun W h => by simp [World.cell?, h]
  clear oo
  go_upto_region 31 with (go_at_call 148; have hc := HT.out _ _ _ _ _ _ HX.out.mw; rw [HD0.out] at hc; refine hc.mono ?_; rintro e w5 hr; obtain ⟨BN, nN, cN', BS, nS, cS', BM, nM, cM', x, rfl, hf⟩ := stepX_none hr; have HF := As.mk hf; clear hr hf hc)
  have hE6 : Ext w5 (w5.alloc (.cells #[.slice BN nN cN', .slice BS nS cS', .slice BM nM cM', .bool x] 64)) := (Ext.rf w5).al _
  have HE6 := As.mk hE6
  clear hE6
  generalize (w5.alloc (.cells #[.slice BN nN cN', .slice BS nS cS', .slice BM nM cM', .bool x] 64)) = w6 at HE6 ⊢
  have hb := HE6.out.blk (HF.out.blk HX.out.a.mb (fun e => e.2 HX.out.xg))
  have hb2 := HE6.out.blk (HF.out.blk HX.out.r (fun e => e.2 HX.out.x2))
  have e0 := MB.c0 hb; have e1 := MB.c1 hb; have e2 := MB.c2 hb; have e3 := MB.c3 hb
  have b0 := MB.c0 hb2; have b1 := MB.c1 hb2; have b2 := MB.c2 hb2; have b3 := MB.c3 hb2
  have f0 := MB.fz hb2 0; have f1 := MB.fz hb2 1; have f2 := MB.fz hb2 2; have f3 := MB.fz hb2 3
  clear c0 c1 c2 c3
  go_wp2_with fail
  have hf4 := Fr.set4 (S := fun k => k = g + 1 + 1) (w := w6) (g := g + 1 + 1) rfl (.slice AN m.nodes.length cN) (.slice AS m.stack.length cS) (.slice AM m.memo.length cM) (.bool m.done)
  refine bodyPost_ret (results_cellt rfl _ _ (g + 1 + 1) _ rfl (loadM (MB.all _ _ _ _ hb2))) rfl ?_
  exact ⟨_, _, _, _, _, _, _, _, _, _, rfl, ((HX.out.f.trans (HF.out.mono (fun _ hk => hk.1))).trans (Fr.ofExt HE6.out)).trans (hf4.mono (fun k hk => by rw [hk]; exact HX.out.up _ (HX.out.hx _ HX.out.x2).1)), fun _ hm => nomatch hm⟩
set_option maxRecDepth 100000 in
set_option maxHeartbeats 4000000 in
theorem mstep_M12_s {B Bd w l vN vS vM m} (h : MW B w l vN vS vM m) (hok : okM Bd m) (hd : m.done = false) (arg : Int) (m1 : Mc) (hT : ∀ (B : Nat → Prop) (w : World) l vN vS vM, MW B w l vN vS vM m → Calls Try.prog 148 #[.agg #[vN, vS, vM, .bool m.done], .agg #[.int .i64 12, .int .i64 arg]] w (StepX B (some m1) w)) :
    Calls Try.prog 123 #[.agg #[vN, vS, vM, .bool m.done], .agg #[.int .i64 12, .int .i64 arg]] w (StepX B (fitM m1) w) := by
  obtain ⟨AN, cN, AS, cS, AM, cM, rfl, rfl, rfl, hrm, hcS⟩ := h.rm (by have := hok.nl; omega) (by have := hok.sl; omega) (by have := hok.ml; omega)
  have HX := As.mk (h.box (W := ((w.alloc (.cells #[.slice AN m.nodes.length cN, .slice AS m.stack.length cS, .slice AM m.memo.length cM, .bool m.done] 64)).alloc (.cells #[.int .i64 12, .int .i64 arg] 82)).alloc (.cells #[.slice none 0 0, .slice none 0 0, .slice none 0 0, .bool false] 64)) (fun k => k = w.heap.size ∨ k = w.heap.size + 1 ∨ k = w.heap.size + 1 + 1) (g := w.heap.size) (g2 := w.heap.size + 1 + 1) ((((Ext.rf w).al _).al _).al _) (((((Ext.rf _).al _)).al _).blk (al_new _ _)) (by have := al_new ((w.alloc (.cells #[.slice AN m.nodes.length cN, .slice AS m.stack.length cS, .slice AM m.memo.length cM, .bool m.done] 64)).alloc (.cells #[.int .i64 12, .int .i64 arg] 82)) (.cells #[.slice none 0 0, .slice none 0 0, .slice none 0 0, .bool false] 64); rw [al_size, al_size] at this; exact this) (.inl rfl) (.inr (.inr rfl)) (by omega) (fun k hk => by rw [al_size, al_size, al_size]; omega))
  have HO := As.mk (show (((w.alloc (.cells #[.slice AN m.nodes.length cN, .slice AS m.stack.length cS, .slice AM m.memo.length cM, .bool m.done] 64)).alloc (.cells #[.int .i64 12, .int .i64 arg] 82)).alloc (.cells #[.slice none 0 0, .slice none 0 0, .slice none 0 0, .bool false] 64)).heap[w.heap.size + 1]? = some (.cells #[.int .i64 12, .int .i64 arg] 82 (0, 0)) from by have := ((Ext.rf _).al (.cells #[.slice none 0 0, .slice none 0 0, .slice none 0 0, .bool false] 64)).blk (al_new (w.alloc (.cells #[.slice AN m.nodes.length cN, .slice AS m.stack.length cS, .slice AM m.memo.length cM, .bool m.done] 64)) (.cells #[.int .i64 12, .int .i64 arg] 82)); rw [al_size] at this; exact this)
  have HOK := As.mk hok
  have q1 := hok.nl
  have q2 := hok.sl
  have q3 : m.memo.length ≤ 1000000 := by have := hok.ml; omega
  have HD0 := As.mk hd
  clear hd
  have HT := As.mk hT
  clear hT
  obtain ⟨r, hr⟩ : ∃ r, r = fitM m1 := ⟨_, rfl⟩
  have HR := As.mk hr
  rw [← hr]
  clear hr
  clear h hrm hok
  go_enter Try.func123, Try.ntmps123
  go_upto_region 1 with fail
  obtain ⟨w1, hw1⟩ : ∃ w1, w1 = ((w.alloc (.cells #[.slice AN m.nodes.length cN, .slice AS m.stack.length cS, .slice AM m.memo.length cM, .bool m.done] 64)).alloc (.cells #[.int .i64 12, .int .i64 arg] 82)).alloc (.cells #[.slice none 0 0, .slice none 0 0, .slice none 0 0, .bool false] 64) := ⟨_, rfl⟩
  rw [← hw1] at HX HO ⊢
  clear hw1
  obtain ⟨g, hg⟩ : ∃ g, g = w.heap.size := ⟨_, rfl⟩
  rw [← hg] at HX HO ⊢
  clear hg
  have c0 := MB.c0 HX.out.a.mb; have c1 := MB.c1 HX.out.a.mb; have c2 := MB.c2 HX.out.a.mb; have c3 := MB.c3 HX.out.a.mb
  have o0 : w1.cell? ⟨g + 1, 0, none⟩ = some (.int .i64 12) := by simp [World.cell?, HO.out]
  have o1 : w1.cell? ⟨g + 1, 1, none⟩ = some (.int .i64 arg) := by simp [World.cell?, HO.out]
  rw [HD0.out] at c3
  have oo : ∀ W : World, W.heap[g + 1]? = some (.cells #[.int .i64 12, .int .i64 arg] 82 (0, 0)) → W.cell? ⟨g + 1, 0, none⟩ = some (.int .i64 12) := fun W h => by simp [World.cell?, h]
  clear oo
  go_upto_region 31 with (go_at_call 148; have hc := HT.out _ _ _ _ _ _ HX.out.mw; rw [HD0.out] at hc; refine hc.mono ?_; rintro e w5 hr; obtain ⟨l5, BN, nN, cN', BS, nS, cS', BM, nM, cM', rfl, hv, hf⟩ := stepX_some hr; have HV := As.mk hv; have HF := As.mk hf; clear hr hv hf hc)
  have hb6 : MB _ _ (.slice BN nN cN') (.slice BS nS cS') (.slice BM nM cM') m1.done := al_new w5 (.cells #[.slice BN nN cN', .slice BS nS cS', .slice BM nM cM', .bool m1.done] 64)
  have hE6 : Ext w5 (w5.alloc (.cells #[.slice BN nN cN', .slice BS nS cS', .slice BM nM cM', .bool m1.done] 64)) := (Ext.rf w5).al _
  have HE6 := As.mk hE6
  have HB6 := As.mk hb6
  clear hE6 hb6
  generalize (w5.alloc (.cells #[.slice BN nN cN', .slice BS nS cS', .slice BM nM cM', .bool m1.done] 64)) = w6 at HE6 HB6 ⊢
  obtain ⟨gb, hgb⟩ : ∃ gb, gb = w5.heap.size := ⟨_, rfl⟩
  rw [← hgb] at HB6 ⊢
  clear hgb
  have hb := HE6.out.blk (HF.out.blk HX.out.a.mb (fun e => e.2 HX.out.xg))
  have e0 := MB.c0 hb; have e1 := MB.c1 hb; have e2 := MB.c2 hb; have e3 := MB.c3 hb
  have b0 := MB.fz hb 0; have b1 := MB.fz hb 1; have b2 := MB.fz hb 2; have b3 := MB.fz hb 3
  have n0 := MB.c0 HB6.out; have n1 := MB.c1 HB6.out; have n2 := MB.c2 HB6.out; have n3 := MB.c3 HB6.out
  have hz := HX.out.put (HV.out.ext HE6.out) (HF.out.trans (Fr.ofExt HE6.out))
  have HZ := As.mk hz
  clear hz hb c0 c1 c2 c3 o0 o1
  go_upto_region 34 with fail
  clear e0 e1 e2 e3 b0 b1 b2 b3 n0 n1 n2 n3 HV HF HE6 HB6 HX
  generalize ((((w6.setCell ⟨g, 0, none⟩ (.slice BN nN cN')).setCell ⟨g, 1, none⟩ (.slice BS nS cS')).setCell ⟨g, 2, none⟩ (.slice BM nM cM')).setCell ⟨g, 3, none⟩ (.bool m1.done)) = wZ at HZ ⊢
  have c0 := MB.c0 HZ.out.a.mb; have c1 := MB.c1 HZ.out.a.mb; have c2 := MB.c2 HZ.out.a.mb; have c3 := MB.c3 HZ.out.a.mb
  have d0 := MB.c0 HZ.out.r; have d1 := MB.c1 HZ.out.r; have d2 := MB.c2 HZ.out.r; have d3 := MB.c3 HZ.out.r
  have f0 := MB.fz HZ.out.r 0; have f1 := MB.fz HZ.out.r 1; have f2 := MB.fz HZ.out.r 2; have f3 := MB.fz HZ.out.r 3
  have HL := As.mk (mx_lens HZ.out)
  rcases Nat.lt_or_ge 300 nN with hnn | hnn
  · have q5 : ¬ ((nN : Int) ≤ 300) := by omega
    refine region_perm (fun w' => w'.cell? ⟨g, 0, none⟩ = some (.slice BN nN cN') ∧ w'.cell? ⟨g, 1, none⟩ = some (.slice BS nS cS') ∧ w'.cell? ⟨g, 2, none⟩ = some (.slice BM nM cM') ∧ w'.cell? ⟨g, 3, none⟩ = some (.bool (m1).done)) [] [(0, 1), (1, 0), (2, 1), (3, 0), (4, 0), (5, 0), (6, 0), (7, 1), (8, 0), (9, 0), (10, 0), (11, 2), (12, 0)] (by kernel_rfl) (by kernel_rfl) rfl (by kernel_rfl) (fun _ _ _ _ h => h) ?_
    have hS := And.intro c0 (And.intro c1 (And.intro c2 c3))
    repeat (first | refine wpP.c0 (h := ?_) | refine wpP.c1 (w := wZ.drew) hS (h := ?_) | refine wpP.c0off (h := ?_) | refine wpP.c1off (w := wZ.drew) hS (h := ?_))
    refine wpP.ev (h := fun Kv hKv => ?_)
    go_wp2_with fail
    have hf4 := Fr.set4 (S := fun k => k = g + 1 + 1) (w := wZ) (g := g + 1 + 1) rfl (.slice BN nN cN') (.slice BS nS cS') (.slice BM nM cM') (.bool (m1).done)
    refine hKv.out _ _ ⟨(Ext.rf _).dr.cellOf (hf4.cell c0 (by show ¬ g = g + 1 + 1; omega)), (Ext.rf _).dr.cellOf (hf4.cell c1 (by show ¬ g = g + 1 + 1; omega)), (Ext.rf _).dr.cellOf (hf4.cell c2 (by show ¬ g = g + 1 + 1; omega)), (Ext.rf _).dr.cellOf (hf4.cell c3 (by show ¬ g = g + 1 + 1; omega))⟩ ?_
    clear hf4
    repeat (first | refine wpP.c0 (h := ?_))
    refine wpP.done ?_
    clear hKv Kv hS
    go_wp2_with fail
    have ho := HZ.out.out
    refine bodyPost_ret (results_cellt rfl _ _ (g + 1 + 1) _ rfl (loadM ((Ext.rf _).dr.blk ho.2.2))) rfl ?_
    rw [HR.out]
    have HD : fitM (m1) = none := by
      have := HL.out.1
      unfold fitM
      rw [if_neg (by omega)]
    rw [HD]
    exact ⟨_, _, _, _, _, _, _, _, _, _, rfl, ho.2.1.trans (Fr.ofExt ((Ext.rf _).dr)), fun _ hm => nomatch hm⟩
  · have q5 : (nN : Int) ≤ 300 := by omega
    refine region_perm (fun w' => w'.cell? ⟨g, 0, none⟩ = some (.slice BN nN cN') ∧ w'.cell? ⟨g, 1, none⟩ = some (.slice BS nS cS') ∧ w'.cell? ⟨g, 2, none⟩ = some (.slice BM nM cM') ∧ w'.cell? ⟨g, 3, none⟩ = some (.bool (m1).done)) [] [(0, 1), (1, 0), (2, 1), (3, 0), (4, 0), (5, 0), (6, 0), (7, 1), (8, 0), (9, 0), (10, 0), (11, 2), (12, 0)] (by kernel_rfl) (by kernel_rfl) rfl (by kernel_rfl) (fun _ _ _ _ h => h) ?_
    have hS := And.intro c0 (And.intro c1 (And.intro c2 c3))
    repeat (first | refine wpP.c0 (h := ?_) | refine wpP.c1 (w := wZ.drew) hS (h := ?_) | refine wpP.c0off (h := ?_) | refine wpP.c1off (w := wZ.drew) hS (h := ?_))
    refine wpP.ev (h := fun Kv hKv => ?_)
    go_wp2_with fail
    have hf4 := Fr.set4 (S := fun k => k = g + 1 + 1) (w := wZ) (g := g + 1 + 1) rfl (.slice BN nN cN') (.slice BS nS cS') (.slice BM nM cM') (.bool (m1).done)
    refine hKv.out _ _ ⟨(Ext.rf _).dr.cellOf (hf4.cell c0 (by show ¬ g = g + 1 + 1; omega)), (Ext.rf _).dr.cellOf (hf4.cell c1 (by show ¬ g = g + 1 + 1; omega)), (Ext.rf _).dr.cellOf (hf4.cell c2 (by show ¬ g = g + 1 + 1; omega)), (Ext.rf _).dr.cellOf (hf4.cell c3 (by show ¬ g = g + 1 + 1; omega))⟩ ?_
    clear hf4
    repeat (first | refine wpP.c0 (h := ?_))
    refine wpP.done ?_
    clear hKv Kv hS
    go_wp2_with fail
    have ho := HZ.out.out
    refine bodyPost_ret (results_cellt rfl _ _ (g + 1 + 1) _ rfl (loadM ((Ext.rf _).dr.blk ho.2.2))) rfl ?_
    rw [HR.out]
    have HD : (fitM (m1)).isSome = decide ((nS : Int) ≤ 300) := by
      have h1 := HL.out.1
      have h2 := HL.out.2
      unfold fitM
      by_cases hl : (m1).stack.length ≤ 300
      · rw [if_pos ⟨by omega, hl⟩]; symm; simp; omega
      · rw [if_neg (by omega)]; symm; simp; omega
    unfold StepX
    rw [HD]
    refine ⟨_, _, _, _, _, _, _, _, _, _, rfl, ho.2.1.trans (Fr.ofExt ((Ext.rf _).dr)), fun m' hm => ?_⟩
    unfold fitM at hm
    split at hm
    · injection hm with hm
      subst hm
      exact ⟨rfl, _, ho.1.ext ((Ext.rf _).dr)⟩
    · exact nomatch hm
set_option maxRecDepth 100000 in
set_option maxHeartbeats 4000000 in
theorem mstep_M12_n {B Bd w l vN vS vM m} (h : MW B w l vN vS vM m) (hok : okM Bd m) (hd : m.done = false) (arg : Int) (hT : ∀ (B : Nat → Prop) (w : World) l vN vS vM, MW B w l vN vS vM m → Calls Try.prog 148 #[.agg #[vN, vS, vM, .bool m.done], .agg #[.int .i64 12, .int .i64 arg]] w (StepX B (none) w)) :
    Calls Try.prog 123 #[.agg #[vN, vS, vM, .bool m.done], .agg #[.int .i64 12, .int .i64 arg]] w (StepX B (none) w) := by
  obtain ⟨AN, cN, AS, cS, AM, cM, rfl, rfl, rfl, hrm, hcS⟩ := h.rm (by have := hok.nl; omega) (by have := hok.sl; omega) (by have := hok.ml; omega)
  have HX := As.mk (h.box (W := ((w.alloc (.cells #[.slice AN m.nodes.length cN, .slice AS m.stack.length cS, .slice AM m.memo.length cM, .bool m.done] 64)).alloc (.cells #[.int .i64 12, .int .i64 arg] 82)).alloc (.cells #[.slice none 0 0, .slice none 0 0, .slice none 0 0, .bool false] 64)) (fun k => k = w.heap.size ∨ k = w.heap.size + 1 ∨ k = w.heap.size + 1 + 1) (g := w.heap.size) (g2 := w.heap.size + 1 + 1) ((((Ext.rf w).al _).al _).al _) (((((Ext.rf _).al _)).al _).blk (al_new _ _)) (by have := al_new ((w.alloc (.cells #[.slice AN m.nodes.length cN, .slice AS m.stack.length cS, .slice AM m.memo.length cM, .bool m.done] 64)).alloc (.cells #[.int .i64 12, .int .i64 arg] 82)) (.cells #[.slice none 0 0, .slice none 0 0, .slice none 0 0, .bool false] 64); rw [al_size, al_size] at this; exact this) (.inl rfl) (.inr (.inr rfl)) (by omega) (fun k hk => by rw [al_size, al_size, al_size]; omega))
  have HO := As.mk (show (((w.alloc (.cells #[.slice AN m.nodes.length cN, .slice AS m.stack.length cS, .slice AM m.memo.length cM, .bool m.done] 64)).alloc (.cells #[.int .i64 12, .int .i64 arg] 82)).alloc (.cells #[.slice none 0 0, .slice none 0 0, .slice none 0 0, .bool false] 64)).heap[w.heap.size + 1]? = some (.cells #[.int .i64 12, .int .i64 arg] 82 (0, 0)) from by have := ((Ext.rf _).al (.cells #[.slice none 0 0, .slice none 0 0, .slice none 0 0, .bool false] 64)).blk (al_new (w.alloc (.cells #[.slice AN m.nodes.length cN, .slice AS m.stack.length cS, .slice AM m.memo.length cM, .bool m.done] 64)) (.cells #[.int .i64 12, .int .i64 arg] 82)); rw [al_size] at this; exact this)
  have HOK := As.mk hok
  have q1 := hok.nl
  have q2 := hok.sl
  have q3 : m.memo.length ≤ 1000000 := by have := hok.ml; omega
  have HD0 := As.mk hd
  clear hd
  have HT := As.mk hT
  clear hT
  clear h hrm hok
  go_enter Try.func123, Try.ntmps123
  go_upto_region 1 with fail
  obtain ⟨w1, hw1⟩ : ∃ w1, w1 = ((w.alloc (.cells #[.slice AN m.nodes.length cN, .slice AS m.stack.length cS, .slice AM m.memo.length cM, .bool m.done] 64)).alloc (.cells #[.int .i64 12, .int .i64 arg] 82)).alloc (.cells #[.slice none 0 0, .slice none 0 0, .slice none 0 0, .bool false] 64) := ⟨_, rfl⟩
  rw [← hw1] at HX HO ⊢
  clear hw1
  obtain ⟨g, hg⟩ : ∃ g, g = w.heap.size := ⟨_, rfl⟩
  rw [← hg] at HX HO ⊢
  clear hg
  have c0 := MB.c0 HX.out.a.mb; have c1 := MB.c1 HX.out.a.mb; have c2 := MB.c2 HX.out.a.mb; have c3 := MB.c3 HX.out.a.mb
  have o0 : w1.cell? ⟨g + 1, 0, none⟩ = some (.int .i64 12) := by simp [World.cell?, HO.out]
  have o1 : w1.cell? ⟨g + 1, 1, none⟩ = some (.int .i64 arg) := by simp [World.cell?, HO.out]
  rw [HD0.out] at c3
  have oo : ∀ W : World, W.heap[g + 1]? = some (.cells #[.int .i64 12, .int .i64 arg] 82 (0, 0)) → W.cell? ⟨g + 1, 0, none⟩ = some (.int .i64 12) := fun W h => by simp [World.cell?, h]
  clear oo
  go_upto_region 31 with (go_at_call 148; have hc := HT.out _ _ _ _ _ _ HX.out.mw; rw [HD0.out] at hc; refine hc.mono ?_; rintro e w5 hr; obtain ⟨BN, nN, cN', BS, nS, cS', BM, nM, cM', x, rfl, hf⟩ := stepX_none hr; have HF := As.mk hf; clear hr hf hc)
  have hE6 : Ext w5 (w5.alloc (.cells #[.slice BN nN cN', .slice BS nS cS', .slice BM nM cM', .bool x] 64)) := (Ext.rf w5).al _
  have HE6 := As.mk hE6
  clear hE6
  generalize (w5.alloc (.cells #[.slice BN nN cN', .slice BS nS cS', .slice BM nM cM', .bool x] 64)) = w6 at HE6 ⊢
  have hb := HE6.out.blk (HF.out.blk HX.out.a.mb (fun e => e.2 HX.out.xg))
  have hb2 := HE6.out.blk (HF.out.blk HX.out.r (fun e => e.2 HX.out.x2))
  have e0 := MB.c0 hb; have e1 := MB.c1 hb; have e2 := MB.c2 hb; have e3 := MB.c3 hb
  have b0 := MB.c0 hb2; have b1 := MB.c1 hb2; have b2 := MB.c2 hb2; have b3 := MB.c3 hb2
  have f0 := MB.fz hb2 0; have f1 := MB.fz hb2 1; have f2 := MB.fz hb2 2; have f3 := MB.fz hb2 3
  clear c0 c1 c2 c3
  go_wp2_with fail
  have hf4 := Fr.set4 (S := fun k => k = g + 1 + 1) (w := w6) (g := g + 1 + 1) rfl (.slice AN m.nodes.length cN) (.slice AS m.stack.length cS) (.slice AM m.memo.length cM) (.bool m.done)
  refine bodyPost_ret (results_cellt rfl _ _ (g + 1 + 1) _ rfl (loadM (MB.all _ _ _ _ hb2))) rfl ?_
  exact ⟨_, _, _, _, _, _, _, _, _, _, rfl, ((HX.out.f.trans (HF.out.mono (fun _ hk => hk.1))).trans (Fr.ofExt HE6.out)).trans (hf4.mono (fun k hk => by rw [hk]; exact HX.out.up _ (HX.out.hx _ HX.out.x2).1)), fun _ hm => nomatch hm⟩
set_option maxRecDepth 100000 in
set_option maxHeartbeats 4000000 in
theorem mstep_M18_s {B Bd w l vN vS vM m} (h : MW B w l vN vS vM m) (hok : okM Bd m) (hd : m.done = false) (arg : Int) (m1 : Mc) (hT : ∀ (B : Nat → Prop) (w : World) l vN vS vM, MW B w l vN vS vM m → Calls Try.prog 148 #[.agg #[vN, vS, vM, .bool m.done], .agg #[.int .i64 18, .int .i64 arg]] w (StepX B (some m1) w)) :
    Calls Try.prog 123 #[.agg #[vN, vS, vM, .bool m.done], .agg #[.int .i64 18, .int .i64 arg]] w (StepX B (fitM m1) w) := by
  obtain ⟨AN, cN, AS, cS, AM, cM, rfl, rfl, rfl, hrm, hcS⟩ := h.rm (by have := hok.nl; omega) (by have := hok.sl; omega) (by have := hok.ml; omega)
  have HX := As.mk (h.box (W := ((w.alloc (.cells #[.slice AN m.nodes.length cN, .slice AS m.stack.length cS, .slice AM m.memo.length cM, .bool m.done] 64)).alloc (.cells #[.int .i64 18, .int .i64 arg] 82)).alloc (.cells #[.slice none 0 0, .slice none 0 0, .slice none 0 0, .bool false] 64)) (fun k => k = w.heap.size ∨ k = w.heap.size + 1 ∨ k = w.heap.size + 1 + 1) (g := w.heap.size) (g2 := w.heap.size + 1 + 1) ((((Ext.rf w).al _).al _).al _) (((((Ext.rf _).al _)).al _).blk (al_new _ _)) (by have := al_new ((w.alloc (.cells #[.slice AN m.nodes.length cN, .slice AS m.stack.length cS, .slice AM m.memo.length cM, .bool m.done] 64)).alloc (.cells #[.int .i64 18, .int .i64 arg] 82)) (.cells #[.slice none 0 0, .slice none 0 0, .slice none 0 0, .bool false] 64); rw [al_size, al_size] at this; exact this) (.inl rfl) (.inr (.inr rfl)) (by omega) (fun k hk => by rw [al_size, al_size, al_size]; omega))
  have HO := As.mk (show (((w.alloc (.cells #[.slice AN m.nodes.length cN, .slice AS m.stack.length cS, .slice AM m.memo.length cM, .bool m.done] 64)).alloc (.cells #[.int .i64 18, .int .i64 arg] 82)).alloc (.cells #[.slice none 0 0, .slice none 0 0, .slice none 0 0, .bool false] 64)).heap[w.heap.size + 1]? = some (.cells #[.int .i64 18, .int .i64 arg] 82 (0, 0)) from by have := ((Ext.rf _).al (.cells #[.slice none 0 0, .slice none 0 0, .slice none 0 0, .bool false] 64)).blk (al_new (w.alloc (.cells #[.slice AN m.nodes.length cN, .slice AS m.stack.length cS, .slice AM m.memo.length cM, .bool m.done] 64)) (.cells #[.int .i64 18, .int .i64 arg] 82)); rw [al_size] at this; exact this)
  have HOK := As.mk hok
  have q1 := hok.nl
  have q2 := hok.sl
  have q3 : m.memo.length ≤ 1000000 := by have := hok.ml; omega
  have HD0 := As.mk hd
  clear hd
  have HT := As.mk hT
  clear hT
  obtain ⟨r, hr⟩ : ∃ r, r = fitM m1 := ⟨_, rfl⟩
  have HR := As.mk hr
  rw [← hr]
  clear hr
  clear h hrm hok
  go_enter Try.func123, Try.ntmps123
  go_upto_region 1 with fail
  obtain ⟨w1, hw1⟩ : ∃ w1, w1 = ((w.alloc (.cells #[.slice AN m.nodes.length cN, .slice AS m.stack.length cS, .slice AM m.memo.length cM, .bool m.done] 64)).alloc (.cells #[.int .i64 18, .int .i64 arg] 82)).alloc (.cells #[.slice none 0 0, .slice none 0 0, .slice none 0 0, .bool false] 64) := ⟨_, rfl⟩
  rw [← hw1] at HX HO ⊢
  clear hw1
  obtain ⟨g, hg⟩ : ∃ g, g = w.heap.size := ⟨_, rfl⟩
  rw [← hg] at HX HO ⊢
  clear hg
  have c0 := MB.c0 HX.out.a.mb; have c1 := MB.c1 HX.out.a.mb; have c2 := MB.c2 HX.out.a.mb; have c3 := MB.c3 HX.out.a.mb
  have o0 : w1.cell? ⟨g + 1, 0, none⟩ = some (.int .i64 18) := by simp [World.cell?, HO.out]
  have o1 : w1.cell? ⟨g + 1, 1, none⟩ = some (.int .i64 arg) := by simp [World.cell?, HO.out]
  rw [HD0.out] at c3
  have oo : ∀ W : World, W.heap[g + 1]? = some (.cells #[.int .i64 18, .int .i64 arg] 82 (0, 0)) → W.cell? ⟨g + 1, 0, none⟩ = some (.int .i64 18) := fun W h => by simp [World.cell?, h]
  clear oo
  go_upto_region 31 with (go_at_call 148; have hc := HT.out _ _ _ _ _ _ HX.out.mw; rw [HD0.out] at hc; refine hc.mono ?_; rintro e w5 hr; obtain ⟨l5, BN, nN, cN', BS, nS, cS', BM, nM, cM', rfl, hv, hf⟩ := stepX_some hr; have HV := As.mk hv; have HF := As.mk hf; clear hr hv hf hc)
  have hb6 : MB _ _ (.slice BN nN cN') (.slice BS nS cS') (.slice BM nM cM') m1.done := al_new w5 (.cells #[.slice BN nN cN', .slice BS nS cS', .slice BM nM cM', .bool m1.done] 64)
  have hE6 : Ext w5 (w5.alloc (.cells #[.slice BN nN cN', .slice BS nS cS', .slice BM nM cM', .bool m1.done] 64)) := (Ext.rf w5).al _
  have HE6 := As.mk hE6
  have HB6 := As.mk hb6
  clear hE6 hb6
  generalize (w5.alloc (.cells #[.slice BN nN cN', .slice BS nS cS', .slice BM nM cM', .bool m1.done] 64)) = w6 at HE6 HB6 ⊢
  obtain ⟨gb, hgb⟩ : ∃ gb, gb = w5.heap.size := ⟨_, rfl⟩
  rw [← hgb] at HB6 ⊢
  clear hgb
  have hb := HE6.out.blk (HF.out.blk HX.out.a.mb (fun e => e.2 HX.out.xg))
  have e0 := MB.c0 hb; have e1 := MB.c1 hb; have e2 := MB.c2 hb; have e3 := MB.c3 hb
  have b0 := MB.fz hb 0; have b1 := MB.fz hb 1; have b2 := MB.fz hb 2; have b3 := MB.fz hb 3
  have n0 := MB.c0 HB6.out; have n1 := MB.c1 HB6.out; have n2 := MB.c2 HB6.out; have n3 := MB.c3 HB6.out
  have hz := HX.out.put (HV.out.ext HE6.out) (HF.out.trans (Fr.ofExt HE6.out))
  have HZ := As.mk hz
  clear hz hb c0 c1 c2 c3 o0 o1
  go_upto_region 34 with fail
  clear e0 e1 e2 e3 b0 b1 b2 b3 n0 n1 n2 n3 HV HF HE6 HB6 HX
  generalize ((((w6.setCell ⟨g, 0, none⟩ (.slice BN nN cN')).setCell ⟨g, 1, none⟩ (.slice BS nS cS')).setCell ⟨g, 2, none⟩ (.slice BM nM cM')).setCell ⟨g, 3, none⟩ (.bool m1.done)) = wZ at HZ ⊢
  have c0 := MB.c0 HZ.out.a.mb; have c1 := MB.c1 HZ.out.a.mb; have c2 := MB.c2 HZ.out.a.mb; have c3 := MB.c3 HZ.out.a.mb
  have d0 := MB.c0 HZ.out.r; have d1 := MB.c1 HZ.out.r; have d2 := MB.c2 HZ.out.r; have d3 := MB.c3 HZ.out.r
  have f0 := MB.fz HZ.out.r 0; have f1 := MB.fz HZ.out.r 1; have f2 := MB.fz HZ.out.r 2; have f3 := MB.fz HZ.out.r 3
  have HL := As.mk (mx_lens HZ.out)
  rcases Nat.lt_or_ge 300 nN with hnn | hnn
  · have q5 : ¬ ((nN : Int) ≤ 300) := by omega
    refine region_perm (fun w' => w'.cell? ⟨g, 0, none⟩ = some (.slice BN nN cN') ∧ w'.cell? ⟨g, 1, none⟩ = some (.slice BS nS cS') ∧ w'.cell? ⟨g, 2, none⟩ = some (.slice BM nM cM') ∧ w'.cell? ⟨g, 3, none⟩ = some (.bool (m1).done)) [] [(0, 1), (1, 0), (2, 1), (3, 0), (4, 0), (5, 0), (6, 0), (7, 1), (8, 0), (9, 0), (10, 0), (11, 2), (12, 0)] (by kernel_rfl) (by kernel_rfl) rfl (by kernel_rfl) (fun _ _ _ _ h => h) ?_
    have hS := And.intro c0 (And.intro c1 (And.intro c2 c3))
    repeat (first | refine wpP.c0 (h := ?_) | refine wpP.c1 (w := wZ.drew) hS (h := ?_) | refine wpP.c0off (h := ?_) | refine wpP.c1off (w := wZ.drew) hS (h := ?_))
    refine wpP.ev (h := fun Kv hKv => ?_)
    go_wp2_with fail
    have hf4 := Fr.set4 (S := fun k => k = g + 1 + 1) (w := wZ) (g := g + 1 + 1) rfl (.slice BN nN cN') (.slice BS nS cS') (.slice BM nM cM') (.bool (m1).done)
    refine hKv.out _ _ ⟨(Ext.rf _).dr.cellOf (hf4.cell c0 (by show ¬ g = g + 1 + 1; omega)), (Ext.rf _).dr.cellOf (hf4.cell c1 (by show ¬ g = g + 1 + 1; omega)), (Ext.rf _).dr.cellOf (hf4.cell c2 (by show ¬ g = g + 1 + 1; omega)), (Ext.rf _).dr.cellOf (hf4.cell c3 (by show ¬ g = g + 1 + 1; omega))⟩ ?_
    clear hf4
    repeat (first | refine wpP.c0 (h := ?_))
    refine wpP.done ?_
    clear hKv Kv hS
    go_wp2_with fail
    have ho := HZ.out.out
    refine bodyPost_ret (results_cellt rfl _ _ (g + 1 + 1) _ rfl (loadM ((Ext.rf _).dr.blk ho.2.2))) rfl ?_
    rw [HR.out]
    have HD : fitM (m1) = none := by
      have := HL.out.1
      unfold fitM
      rw [if_neg (by omega)]
    rw [HD]
    exact ⟨_, _, _, _, _, _, _, _, _, _, rfl, ho.2.1.trans (Fr.ofExt ((Ext.rf _).dr)), fun _ hm => nomatch hm⟩
  · have q5 : (nN : Int) ≤ 300 := by omega
    refine region_perm (fun w' => w'.cell? ⟨g, 0, none⟩ = some (.slice BN nN cN') ∧ w'.cell? ⟨g, 1, none⟩ = some (.slice BS nS cS') ∧ w'.cell? ⟨g, 2, none⟩ = some (.slice BM nM cM') ∧ w'.cell? ⟨g, 3, none⟩ = some (.bool (m1).done)) [] [(0, 1), (1, 0), (2, 1), (3, 0), (4, 0), (5, 0), (6, 0), (7, 1), (8, 0), (9, 0), (10, 0), (11, 2), (12, 0)] (by kernel_rfl) (by kernel_rfl) rfl (by kernel_rfl) (fun _ _ _ _ h => h) ?_
    have hS := And.intro c0 (And.intro c1 (And.intro c2 c3))
    repeat (first | refine wpP.c0 (h := ?_) | refine wpP.c1 (w := wZ.drew) hS (h := ?_) | refine wpP.c0off (h := ?_) | refine wpP.c1off (w := wZ.drew) hS (h := ?_))
    refine wpP.ev (h := fun Kv hKv => ?_)
    go_wp2_with fail
    have hf4 := Fr.set4 (S := fun k => k = g + 1 + 1) (w := wZ) (g := g + 1 + 1) rfl (.slice BN nN cN') (.slice BS nS cS') (.slice BM nM cM') (.bool (m1).done)
    refine hKv.out _ _ ⟨(Ext.rf _).dr.cellOf (hf4.cell c0 (by show ¬ g = g + 1 + 1; omega)), (Ext.rf _).dr.cellOf (hf4.cell c1 (by show ¬ g = g + 1 + 1; omega)), (Ext.rf _).dr.cellOf (hf4.cell c2 (by show ¬ g = g + 1 + 1; omega)), (Ext.rf _).dr.cellOf (hf4.cell c3 (by show ¬ g = g + 1 + 1; omega))⟩ ?_
    clear hf4
    repeat (first | refine wpP.c0 (h := ?_))
    refine wpP.done ?_
    clear hKv Kv hS
    go_wp2_with fail
    have ho := HZ.out.out
    refine bodyPost_ret (results_cellt rfl _ _ (g + 1 + 1) _ rfl (loadM ((Ext.rf _).dr.blk ho.2.2))) rfl ?_
    rw [HR.out]
    have HD : (fitM (m1)).isSome = decide ((nS : Int) ≤ 300) := by
      have h1 := HL.out.1
      have h2 := HL.out.2
      unfold fitM
      by_cases hl : (m1).stack.length ≤ 300
      · rw [if_pos ⟨by omega, hl⟩]; symm; simp; omega
      · rw [if_neg (by omega)]; symm; simp; omega
    unfold StepX
    rw [HD]
    refine ⟨_, _, _, _, _, _, _, _, _, _, rfl, ho.2.1.trans (Fr.ofExt ((Ext.rf _).dr)), fun m' hm => ?_⟩
    unfold fitM at hm
    split at hm
    · injection hm with hm
      subst hm
      exact ⟨rfl, _, ho.1.ext ((Ext.rf _).dr)⟩
    · exact nomatch hm
set_option maxRecDepth 100000 in
set_option maxHeartbeats 4000000 in
theorem mstep_M18_n {B Bd w l vN vS vM m} (h : MW B w l vN vS vM m) (hok : okM Bd m) (hd : m.done = false) (arg : Int) (hT : ∀ (B : Nat → Prop) (w : World) l vN vS vM, MW B w l vN vS vM m → Calls Try.prog 148 #[.agg #[vN, vS, vM, .bool m.done], .agg #[.int .i64 18, .int .i64 arg]] w (StepX B (none) w)) :
    Calls Try.prog 123 #[.agg #[vN, vS, vM, .bool m.done], .agg #[.int .i64 18, .int .i64 arg]] w (StepX B (none) w) := by
  obtain ⟨AN, cN, AS, cS, AM, cM, rfl, rfl, rfl, hrm, hcS⟩ := h.rm (by have := hok.nl; omega) (by have := hok.sl; omega) (by have := hok.ml; omega)
  have HX := As.mk (h.box (W := ((w.alloc (.cells #[.slice AN m.nodes.length cN, .slice AS m.stack.length cS, .slice AM m.memo.length cM, .bool m.done] 64)).alloc (.cells #[.int .i64 18, .int .i64 arg] 82)).alloc (.cells #[.slice none 0 0, .slice none 0 0, .slice none 0 0, .bool false] 64)) (fun k => k = w.heap.size ∨ k = w.heap.size + 1 ∨ k = w.heap.size + 1 + 1) (g := w.heap.size) (g2 := w.heap.size + 1 + 1) ((((Ext.rf w).al _).al _).al _) (((((Ext.rf _).al _)).al _).blk (al_new _ _)) (by have := al_new ((w.alloc (.cells #[.slice AN m.nodes.length cN, .slice AS m.stack.length cS, .slice AM m.memo.length cM, .bool m.done] 64)).alloc (.cells #[.int .i64 18, .int .i64 arg] 82)) (.cells #[.slice none 0 0, .slice none 0 0, .slice none 0 0, .bool false] 64); rw [al_size, al_size] at this; exact this) (.inl rfl) (.inr (.inr rfl)) (by omega) (fun k hk => by rw [al_size, al_size, al_size]; omega))
  have HO := As.mk (show (((w.alloc (.cells #[.slice AN m.nodes.length cN, .slice AS m.stack.length cS, .slice AM m.memo.length cM, .bool m.done] 64)).alloc (.cells #[.int .i64 18, .int .i64 arg] 82)).alloc (.cells #[.slice none 0 0, .slice none 0 0, .slice none 0 0, .bool false] 64)).heap[w.heap.size + 1]? = some (.cells #[.int .i64 18, .int .i64 arg] 82 (0, 0)) from by have := ((Ext.rf _).al (.cells #[.slice none 0 0, .slice none 0 0, .slice none 0 0, .bool false] 64)).blk (al_new (w.alloc (.cells #[.slice AN m.nodes.length cN, .slice AS m.stack.length cS, .slice AM m.memo.length cM, .bool m.done] 64)) (.cells #[.int .i64 18, .int .i64 arg] 82)); rw [al_size] at this; exact this)
  have HOK := As.mk hok
  have q1 := hok.nl
  have q2 := hok.sl
  have q3 : m.memo.length ≤ 1000000 := by have := hok.ml; omega
  have HD0 := As.mk hd
  clear hd
  have HT := As.mk hT
  clear hT
  clear h hrm hok
  go_enter Try.func123, Try.ntmps123
  go_upto_region 1 with fail
  obtain ⟨w1, hw1⟩ : ∃ w1, w1 = ((w.alloc (.cells #[.slice AN m.nodes.length cN, .slice AS m.stack.length cS, .slice AM m.memo.length cM, .bool m.done] 64)).alloc (.cells #[.int .i64 18, .int .i64 arg] 82)).alloc (.cells #[.slice none 0 0, .slice none 0 0, .slice none 0 0, .bool false] 64) := ⟨_, rfl⟩
  rw [← hw1] at HX HO ⊢
  clear hw1
  obtain ⟨g, hg⟩ : ∃ g, g = w.heap.size := ⟨_, rfl⟩
  rw [← hg] at HX HO ⊢
  clear hg
  have c0 := MB.c0 HX.out.a.mb; have c1 := MB.c1 HX.out.a.mb; have c2 := MB.c2 HX.out.a.mb; have c3 := MB.c3 HX.out.a.mb
  have o0 : w1.cell? ⟨g + 1, 0, none⟩ = some (.int .i64 18) := by simp [World.cell?, HO.out]
  have o1 : w1.cell? ⟨g + 1, 1, none⟩ = some (.int .i64 arg) := by simp [World.cell?, HO.out]
  rw [HD0.out] at c3
  have oo : ∀ W : World, W.heap[g + 1]? = some (.cells #[.int .i64 18, .int .i64 arg] 82 (0, 0)) → W.cell? ⟨g + 1, 0, none⟩ = some (.int .i64 18) := fun W h => by simp [World.cell?, h]
  clear oo
  go_upto_region 31 with (go_at_call 148; have hc := HT.out _ _ _ _ _ _ HX.out.mw; rw [HD0.out] at hc; refine hc.mono ?_; rintro e w5 hr; obtain ⟨BN, nN, cN', BS, nS, cS', BM, nM, cM', x, rfl, hf⟩ := stepX_none hr; have HF := As.mk hf; clear hr hf hc)
  have hE6 : Ext w5 (w5.alloc (.cells #[.slice BN nN cN', .slice BS nS cS', .slice BM nM cM', .bool x] 64)) := (Ext.rf w5).al _
  have HE6 := As.mk hE6
  clear hE6
  generalize (w5.alloc (.cells #[.slice BN nN cN', .slice BS nS cS', .slice BM nM cM', .bool x] 64)) = w6 at HE6 ⊢
  have hb := HE6.out.blk (HF.out.blk HX.out.a.mb (fun e => e.2 HX.out.xg))
  have hb2 := HE6.out.blk (HF.out.blk HX.out.r (fun e => e.2 HX.out.x2))
  have e0 := MB.c0 hb; have e1 := MB.c1 hb; have e2 := MB.c2 hb; have e3 := MB.c3 hb
  have b0 := MB.c0 hb2; have b1 := MB.c1 hb2; have b2 := MB.c2 hb2; have b3 := MB.c3 hb2
  have f0 := MB.fz hb2 0; have f1 := MB.fz hb2 1; have f2 := MB.fz hb2 2; have f3 := MB.fz hb2 3
  clear c0 c1 c2 c3
  go_wp2_with fail
  have hf4 := Fr.set4 (S := fun k => k = g + 1 + 1) (w := w6) (g := g + 1 + 1) rfl (.slice AN m.nodes.length cN) (.slice AS m.stack.length cS) (.slice AM m.memo.length cM) (.bool m.done)
  refine bodyPost_ret (results_cellt rfl _ _ (g + 1 + 1) _ rfl (loadM (MB.all _ _ _ _ hb2))) rfl ?_
  exact ⟨_, _, _, _, _, _, _, _, _, _, rfl, ((HX.out.f.trans (HF.out.mono (fun _ hk => hk.1))).trans (Fr.ofExt HE6.out)).trans (hf4.mono (fun k hk => by rw [hk]; exact HX.out.up _ (HX.out.hx _ HX.out.x2).1)), fun _ hm => nomatch hm⟩
set_option maxRecDepth 100000 in
set_option maxHeartbeats 4000000 in
theorem mstep_16n {B Bd w l vN vS vM m} (h : MW B w l vN vS vM m) (hok : okM Bd m) (hd : m.done = false) (j : Nat) (hj : j < 20) (hj0 : m.memo.getD j 0 < 0) :
    Calls Try.prog 123 #[.agg #[vN, vS, vM, .bool m.done], .agg #[.int .i64 16, .int .i64 j]] w (StepX B (none) w) := by
  obtain ⟨AN, cN, AS, cS, AM, cM, rfl, rfl, rfl, hrm, hcS⟩ := h.rm (by have := hok.nl; omega) (by have := hok.sl; omega) (by have := hok.ml; omega)
  have HX := As.mk (h.box (W := ((w.alloc (.cells #[.slice AN m.nodes.length cN, .slice AS m.stack.length cS, .slice AM m.memo.length cM, .bool m.done] 64)).alloc (.cells #[.int .i64 16, .int .i64 j] 82)).alloc (.cells #[.slice none 0 0, .slice none 0 0, .slice none 0 0, .bool false] 64)) (fun k => k = w.heap.size ∨ k = w.heap.size + 1 ∨ k = w.heap.size + 1 + 1) (g := w.heap.size) (g2 := w.heap.size + 1 + 1) ((((Ext.rf w).al _).al _).al _) (((((Ext.rf _).al _)).al _).blk (al_new _ _)) (by have := al_new ((w.alloc (.cells #[.slice AN m.nodes.length cN, .slice AS m.stack.length cS, .slice AM m.memo.length cM, .bool m.done] 64)).alloc (.cells #[.int .i64 16, .int .i64 j] 82)) (.cells #[.slice none 0 0, .slice none 0 0, .slice none 0 0, .bool false] 64); rw [al_size, al_size] at this; exact this) (.inl rfl) (.inr (.inr rfl)) (by omega) (fun k hk => by rw [al_size, al_size, al_size]; omega))
  have HO := As.mk (show (((w.alloc (.cells #[.slice AN m.nodes.length cN, .slice AS m.stack.length cS, .slice AM m.memo.length cM, .bool m.done] 64)).alloc (.cells #[.int .i64 16, .int .i64 j] 82)).alloc (.cells #[.slice none 0 0, .slice none 0 0, .slice none 0 0, .bool false] 64)).heap[w.heap.size + 1]? = some (.cells #[.int .i64 16, .int .i64 j] 82 (0, 0)) from by have := ((Ext.rf _).al (.cells #[.slice none 0 0, .slice none 0 0, .slice none 0 0, .bool false] 64)).blk (al_new (w.alloc (.cells #[.slice AN m.nodes.length cN, .slice AS m.stack.length cS, .slice AM m.memo.length cM, .bool m.done] 64)) (.cells #[.int .i64 16, .int .i64 j] 82)); rw [al_size] at this; exact this)
  have HOK := As.mk hok
  have q1 := hok.nl
  have q2 := hok.sl
  have q3 : m.memo.length ≤ 1000000 := by have := hok.ml; omega
  have HD0 := As.mk hd
  clear hd
  clear h hrm hok
  go_enter Try.func123, Try.ntmps123
  go_upto_region 1 with fail
  obtain ⟨w1, hw1⟩ : ∃ w1, w1 = ((w.alloc (.cells #[.slice AN m.nodes.length cN, .slice AS m.stack.length cS, .slice AM m.memo.length cM, .bool m.done] 64)).alloc (.cells #[.int .i64 16, .int .i64 j] 82)).alloc (.cells #[.slice none 0 0, .slice none 0 0, .slice none 0 0, .bool false] 64) := ⟨_, rfl⟩
  rw [← hw1] at HX HO ⊢
  clear hw1
  obtain ⟨g, hg⟩ : ∃ g, g = w.heap.size := ⟨_, rfl⟩
  rw [← hg] at HX HO ⊢
  clear hg
  have c0 := MB.c0 HX.out.a.mb; have c1 := MB.c1 HX.out.a.mb; have c2 := MB.c2 HX.out.a.mb; have c3 := MB.c3 HX.out.a.mb
  have o0 : w1.cell? ⟨g + 1, 0, none⟩ = some (.int .i64 16) := by simp [World.cell?, HO.out]
  have o1 : w1.cell? ⟨g + 1, 1, none⟩ = some (.int .i64 j) := by simp [World.cell?, HO.out]
  rw [HD0.out] at c3
  obtain ⟨gM, cM', hv, hfz, hme, -⟩ := HX.out.a.mem HOK.out.ml
  injection hv with hv1 hv2 hv3
  subst hv1 hv3
  obtain ⟨z, hz⟩ : ∃ z, z = m.memo.getD j 0 := ⟨_, rfl⟩
  have zM : w1.cell? ⟨gM, j, none⟩ = some (.int .i64 z) := by
    rw [hme j (by omega), hz, List.getD_eq_getElem?_getD, List.getElem?_eq_getElem (by omega)]; rfl
  have q4 : (j : Int) < m.memo.length := by omega
  rw [← hz] at hj0
  have HZZ := As.mk hz
  clear hv2 hfz hme hz
  have d0 := MB.c0 HX.out.r; have d1 := MB.c1 HX.out.r; have d2 := MB.c2 HX.out.r; have d3 := MB.c3 HX.out.r
  have f0 := MB.fz HX.out.r 0; have f1 := MB.fz HX.out.r 1; have f2 := MB.fz HX.out.r 2; have f3 := MB.fz HX.out.r 3
  go_wp2_with fail
  have ho := HX.out.out
  rw [HD0.out] at ho
  refine bodyPost_ret (results_cellt rfl _ _ (g + 1 + 1) _ rfl (loadM ho.2.2)) rfl ?_
  exact ⟨_, _, _, _, _, _, _, _, _, _, rfl, ho.2.1, fun _ hm => nomatch hm⟩
set_option maxRecDepth 100000 in
set_option maxHeartbeats 4000000 in
theorem mstep_16 {B Bd w l vN vS vM m} (h : MW B w l vN vS vM m) (hok : okM Bd m) (hd : m.done = false) (j : Nat) (hj : j < 20) (hj0 : 0 ≤ m.memo.getD j 0) :
    Calls Try.prog 123 #[.agg #[vN, vS, vM, .bool m.done], .agg #[.int .i64 16, .int .i64 j]] w (StepX B (fitM (addS m (m.memo.getD j 0))) w) := by
  obtain ⟨AN, cN, AS, cS, AM, cM, rfl, rfl, rfl, hrm, hcS⟩ := h.rm (by have := hok.nl; omega) (by have := hok.sl; omega) (by have := hok.ml; omega)
  have HX := As.mk (h.box (W := ((w.alloc (.cells #[.slice AN m.nodes.length cN, .slice AS m.stack.length cS, .slice AM m.memo.length cM, .bool m.done] 64)).alloc (.cells #[.int .i64 16, .int .i64 j] 82)).alloc (.cells #[.slice none 0 0, .slice none 0 0, .slice none 0 0, .bool false] 64)) (fun k => k = w.heap.size ∨ k = w.heap.size + 1 ∨ k = w.heap.size + 1 + 1) (g := w.heap.size) (g2 := w.heap.size + 1 + 1) ((((Ext.rf w).al _).al _).al _) (((((Ext.rf _).al _)).al _).blk (al_new _ _)) (by have := al_new ((w.alloc (.cells #[.slice AN m.nodes.length cN, .slice AS m.stack.length cS, .slice AM m.memo.length cM, .bool m.done] 64)).alloc (.cells #[.int .i64 16, .int .i64 j] 82)) (.cells #[.slice none 0 0, .slice none 0 0, .slice none 0 0, .bool false] 64); rw [al_size, al_size] at this; exact this) (.inl rfl) (.inr (.inr rfl)) (by omega) (fun k hk => by rw [al_size, al_size, al_size]; omega))
  have HO := As.mk (show (((w.alloc (.cells #[.slice AN m.nodes.length cN, .slice AS m.stack.length cS, .slice AM m.memo.length cM, .bool m.done] 64)).alloc (.cells #[.int .i64 16, .int .i64 j] 82)).alloc (.cells #[.slice none 0 0, .slice none 0 0, .slice none 0 0, .bool false] 64)).heap[w.heap.size + 1]? = some (.cells #[.int .i64 16, .int .i64 j] 82 (0, 0)) from by have := ((Ext.rf _).al (.cells #[.slice none 0 0, .slice none 0 0, .slice none 0 0, .bool false] 64)).blk (al_new (w.alloc (.cells #[.slice AN m.nodes.length cN, .slice AS m.stack.length cS, .slice AM m.memo.length cM, .bool m.done] 64)) (.cells #[.int .i64 16, .int .i64 j] 82)); rw [al_size] at this; exact this)
  have HOK := As.mk hok
  have q1 := hok.nl
  have q2 := hok.sl
  have q3 : m.memo.length ≤ 1000000 := by have := hok.ml; omega
  have HD0 := As.mk hd
  clear hd
  obtain ⟨r, hr⟩ : ∃ r, r = fitM (addS m (m.memo.getD j 0)) := ⟨_, rfl⟩
  have HR := As.mk hr
  rw [← hr]
  clear hr
  clear h hrm hok
  go_enter Try.func123, Try.ntmps123
  go_upto_region 1 with fail
  obtain ⟨w1, hw1⟩ : ∃ w1, w1 = ((w.alloc (.cells #[.slice AN m.nodes.length cN, .slice AS m.stack.length cS, .slice AM m.memo.length cM, .bool m.done] 64)).alloc (.cells #[.int .i64 16, .int .i64 j] 82)).alloc (.cells #[.slice none 0 0, .slice none 0 0, .slice none 0 0, .bool false] 64) := ⟨_, rfl⟩
  rw [← hw1] at HX HO ⊢
  clear hw1
  obtain ⟨g, hg⟩ : ∃ g, g = w.heap.size := ⟨_, rfl⟩
  rw [← hg] at HX HO ⊢
  clear hg
  have c0 := MB.c0 HX.out.a.mb; have c1 := MB.c1 HX.out.a.mb; have c2 := MB.c2 HX.out.a.mb; have c3 := MB.c3 HX.out.a.mb
  have o0 : w1.cell? ⟨g + 1, 0, none⟩ = some (.int .i64 16) := by simp [World.cell?, HO.out]
  have o1 : w1.cell? ⟨g + 1, 1, none⟩ = some (.int .i64 j) := by simp [World.cell?, HO.out]
  rw [HD0.out] at c3
  obtain ⟨gM, cM', hv, hfz, hme, -⟩ := HX.out.a.mem HOK.out.ml
  injection hv with hv1 hv2 hv3
  subst hv1 hv3
  obtain ⟨z, hz⟩ : ∃ z, z = m.memo.getD j 0 := ⟨_, rfl⟩
  have zM : w1.cell? ⟨gM, j, none⟩ = some (.int .i64 z) := by
    rw [hme j (by omega), hz, List.getD_eq_getElem?_getD, List.getElem?_eq_getElem (by omega)]; rfl
  have q4 : (j : Int) < m.memo.length := by omega
  rw [← hz] at hj0
  have HZZ := As.mk hz
  clear hv2 hfz hme hz
  rw [← HZZ.out] at HR
  go_upto_region 25 with fail
  refine region_perm (fun w' => w'.cell? ⟨g, 1, none⟩ = some (.slice AS m.stack.length cS) ∧ w'.cell? ⟨g, 2, none⟩ = some (.slice (some ⟨gM, 0, none⟩) m.memo.length cM) ∧ w'.cell? ⟨g + 1, 1, none⟩ = some (.int .i64 j) ∧ w'.cell? ⟨gM, j, none⟩ = some (.int .i64 z)) [11] [(0, 0), (1, 1), (2, 0), (3, 1), (4, 0), (5, 1), (6, 0), (7, 1), (8, 2), (9, 2), (10, 0), (11, 3)] (by kernel_rfl) (by kernel_rfl) rfl (by kernel_rfl) (fun _ _ _ _ h => h) ?_
  generalize hwd : World.drew w1 = w2
  have he2 : Ext w1 w2 := by rw [← hwd]; exact (Ext.rf w1).dr
  clear hwd
  have hS := And.intro (he2.cellOf c1) (And.intro (he2.cellOf c2) (And.intro (he2.cellOf o1) (he2.cellOf zM)))
  have hx6 := HX.out.ext he2
  have HO2 := As.mk (he2.blk HO.out)
  clear HX HO o0 o1 c0 c1 c2 c3 zM he2
  have HX := As.mk hx6
  clear hx6
  repeat (first | refine wpP.c0 (h := ?_) | refine wpP.c1 hS (h := ?_))
  refine wpP.ev (h := fun Kv hKv => ?_)
  go_wp2_with fail
  have hal : ∀ o, Ext w2 (w2.alloc o) := fun o => (Ext.rf w2).al o
  refine hKv.out _ _ ⟨(hal _).cellOf hS.1, (hal _).cellOf hS.2.1, (hal _).cellOf hS.2.2.1, (hal _).cellOf hS.2.2.2⟩ ?_
  clear hKv Kv hal
  refine wpP.ev (h := fun Kv hKv => ?_)
  go_wp2_with ((at_builtin; refine app_int rfl _ _ rfl (.slice AS m.stack.length cS) m.stack z rfl rfl HX.out.a.sr (by omega) ?_; intro gS cS' w3 hap; have HP := As.mk hap; clear hap))
  have hb : MB w3 g _ _ _ m.done := HP.out.2.1.blk HX.out.a.mb (fun e => own_ne_blk HX.out.a.sr HX.out.a.mb (by decide) e)
  have ho3 := HP.out.2.1.blk HO2.out (fun e => own_ne_blk HX.out.a.sr HO2.out (by decide) e)
  have hm3 := HP.out.2.1.cell hS.2.2.2 (fun e => HX.out.a.sm gM e rfl)
  have oo : w3.cell? ⟨g + 1, 1, none⟩ = some (.int .i64 j) := by simp [World.cell?, ho3]
  refine hKv.out _ _ ⟨hb.c1, hb.c2, oo, hm3⟩ ?_
  clear hKv Kv hS ho3 hm3 oo
  have e0 := hb.c1; have f0 := hb.fz 1
  clear hb
  repeat (first | refine wpP.c0 (h := ?_))
  refine wpP.last (h := fun Kv hKv => ?_)
  go_wp2_with fail
  refine hKv.out _ _ (wpP.done ?_)
  clear hKv Kv e0 f0
  have had := MR.addS HX.out.a z gS cS' HP.out m.stack.length rfl
  have HZ := As.mk (HX.out.to had.1 (HX.out.foot had.2))
  clear had HP HX q1
  generalize (w3.setCell ⟨g, 1, none⟩ (.slice (some ⟨gS, 0, none⟩) (m.stack.length + 1) cS')) = wZ at HZ ⊢
  have c0 := True.intro; have c1 := True.intro; have c2 := True.intro; have c3 := True.intro
  go_upto_region 34 with fail
  clear c0 c1 c2 c3
  have c0 := MB.c0 HZ.out.a.mb; have c1 := MB.c1 HZ.out.a.mb; have c2 := MB.c2 HZ.out.a.mb; have c3 := MB.c3 HZ.out.a.mb
  have d0 := MB.c0 HZ.out.r; have d1 := MB.c1 HZ.out.r; have d2 := MB.c2 HZ.out.r; have d3 := MB.c3 HZ.out.r
  have f0 := MB.fz HZ.out.r 0; have f1 := MB.fz HZ.out.r 1; have f2 := MB.fz HZ.out.r 2; have f3 := MB.fz HZ.out.r 3
  have HL := As.mk (mx_lens HZ.out)
  rcases Nat.lt_or_ge 300 m.nodes.length with hnn | hnn
  · have q5 : ¬ ((m.nodes.length : Int) ≤ 300) := by omega
    refine region_perm (fun w' => w'.cell? ⟨g, 0, none⟩ = some (.slice AN m.nodes.length cN) ∧ w'.cell? ⟨g, 1, none⟩ = some (.slice (some ⟨gS, 0, none⟩) (m.stack.length + 1) cS') ∧ w'.cell? ⟨g, 2, none⟩ = some (.slice (some ⟨gM, 0, none⟩) m.memo.length cM) ∧ w'.cell? ⟨g, 3, none⟩ = some (.bool (addS m z).done)) [] [(0, 1), (1, 0), (2, 1), (3, 0), (4, 0), (5, 0), (6, 0), (7, 1), (8, 0), (9, 0), (10, 0), (11, 2), (12, 0)] (by kernel_rfl) (by kernel_rfl) rfl (by kernel_rfl) (fun _ _ _ _ h => h) ?_
    have hS := And.intro c0 (And.intro c1 (And.intro c2 c3))
    repeat (first | refine wpP.c0 (h := ?_) | refine wpP.c1 (w := wZ.drew) hS (h := ?_) | refine wpP.c0off (h := ?_) | refine wpP.c1off (w := wZ.drew) hS (h := ?_))
    refine wpP.ev (h := fun Kv hKv => ?_)
    go_wp2_with fail
    have hf4 := Fr.set4 (S := fun k => k = g + 1 + 1) (w := wZ) (g := g + 1 + 1) rfl (.slice AN m.nodes.length cN) (.slice (some ⟨gS, 0, none⟩) (m.stack.length + 1) cS') (.slice (some ⟨gM, 0, none⟩) m.memo.length cM) (.bool (addS m z).done)
    refine hKv.out _ _ ⟨(Ext.rf _).dr.cellOf (hf4.cell c0 (by show ¬ g = g + 1 + 1; omega)), (Ext.rf _).dr.cellOf (hf4.cell c1 (by show ¬ g = g + 1 + 1; omega)), (Ext.rf _).dr.cellOf (hf4.cell c2 (by show ¬ g = g + 1 + 1; omega)), (Ext.rf _).dr.cellOf (hf4.cell c3 (by show ¬ g = g + 1 + 1; omega))⟩ ?_
    clear hf4
    repeat (first | refine wpP.c0 (h := ?_))
    refine wpP.done ?_
    clear hKv Kv hS
    go_wp2_with fail
    have ho := HZ.out.out
    refine bodyPost_ret (results_cellt rfl _ _ (g + 1 + 1) _ rfl (loadM ((Ext.rf _).dr.blk ho.2.2))) rfl ?_
    rw [HR.out]
    have HD : fitM (addS m z) = none := by
      have := HL.out.1
      unfold fitM
      rw [if_neg (by omega)]
    rw [HD]
    exact ⟨_, _, _, _, _, _, _, _, _, _, rfl, ho.2.1.trans (Fr.ofExt ((Ext.rf _).dr)), fun _ hm => nomatch hm⟩
  · have q5 : (m.nodes.length : Int) ≤ 300 := by omega
    refine region_perm (fun w' => w'.cell? ⟨g, 0, none⟩ = some (.slice AN m.nodes.length cN) ∧ w'.cell? ⟨g, 1, none⟩ = some (.slice (some ⟨gS, 0, none⟩) (m.stack.length + 1) cS') ∧ w'.cell? ⟨g, 2, none⟩ = some (.slice (some ⟨gM, 0, none⟩) m.memo.length cM) ∧ w'.cell? ⟨g, 3, none⟩ = some (.bool (addS m z).done)) [] [(0, 1), (1, 0), (2, 1), (3, 0), (4, 0), (5, 0), (6, 0), (7, 1), (8, 0), (9, 0), (10, 0), (11, 2), (12, 0)] (by kernel_rfl) (by kernel_rfl) rfl (by kernel_rfl) (fun _ _ _ _ h => h) ?_
    have hS := And.intro c0 (And.intro c1 (And.intro c2 c3))
    repeat (first | refine wpP.c0 (h := ?_) | refine wpP.c1 (w := wZ.drew) hS (h := ?_) | refine wpP.c0off (h := ?_) | refine wpP.c1off (w := wZ.drew) hS (h := ?_))
    refine wpP.ev (h := fun Kv hKv => ?_)
    go_wp2_with fail
    have hf4 := Fr.set4 (S := fun k => k = g + 1 + 1) (w := wZ) (g := g + 1 + 1) rfl (.slice AN m.nodes.length cN) (.slice (some ⟨gS, 0, none⟩) (m.stack.length + 1) cS') (.slice (some ⟨gM, 0, none⟩) m.memo.length cM) (.bool (addS m z).done)
    refine hKv.out _ _ ⟨(Ext.rf _).dr.cellOf (hf4.cell c0 (by show ¬ g = g + 1 + 1; omega)), (Ext.rf _).dr.cellOf (hf4.cell c1 (by show ¬ g = g + 1 + 1; omega)), (Ext.rf _).dr.cellOf (hf4.cell c2 (by show ¬ g = g + 1 + 1; omega)), (Ext.rf _).dr.cellOf (hf4.cell c3 (by show ¬ g = g + 1 + 1; omega))⟩ ?_
    clear hf4
    repeat (first | refine wpP.c0 (h := ?_))
    refine wpP.done ?_
    clear hKv Kv hS
    go_wp2_with fail
    have ho := HZ.out.out
    refine bodyPost_ret (results_cellt rfl _ _ (g + 1 + 1) _ rfl (loadM ((Ext.rf _).dr.blk ho.2.2))) rfl ?_
    rw [HR.out]
    have HD : (fitM (addS m z)).isSome = decide (((m.stack.length + 1) : Int) ≤ 300) := by
      have h1 := HL.out.1
      have h2 := HL.out.2
      unfold fitM
      by_cases hl : (addS m z).stack.length ≤ 300
      · rw [if_pos ⟨by omega, hl⟩]; symm; simp; omega
      · rw [if_neg (by omega)]; symm; simp; omega
    unfold StepX
    rw [HD]
    refine ⟨_, _, _, _, _, _, _, _, _, _, rfl, ho.2.1.trans (Fr.ofExt ((Ext.rf _).dr)), fun m' hm => ?_⟩
    unfold fitM at hm
    split at hm
    · injection hm with hm
      subst hm
      exact ⟨rfl, _, ho.1.ext ((Ext.rf _).dr)⟩
    · exact nomatch hm
end Go.Proofs.Ytcodbpjaamggeaa.C
