/- The reference's machine: orders that take all above a mark. -/
import Derived.Test.YtcodbpjaamggeaaMd
import Derived.Test.YtcodbpjaamggeaaCv
set_option linter.unusedVariables false
set_option linter.unusedSimpArgs false
namespace Go.Proofs.Ytcodbpjaamggeaa.C
open Go.RowKit Go.Proofs.Ytcodbpjaamggeaa.W Go.Proofs.Ytcodbpjaamggeaa.P

/-- More blocks of our own. -/
theorem MX.more {B X w0 w w' g g2 l vN vS vM m} (h : MX B X w0 w g g2 l vN vS vM m) (e : Ext w w') (Y : Nat → Prop) (hY : ∀ k, Y k → w.heap.size ≤ k ∧ k < w'.heap.size) : MX B (fun k => X k ∨ Y k) w0 w' g g2 l vN vS vM m := by
  have h1 := h.a.ext e
  refine ⟨⟨h1.mb, h1.nr, h1.ns, h1.sr, h1.me, fun k hk => (h1.lo k hk).imp id (fun hb => ⟨hb.1, fun hx => hx.elim hb.2 (fun hy => ?_)⟩), h1.kk, h1.ks, h1.km, h1.sm, fun k hk => ?_⟩, e.blk h.r, h.f.then (Fr.ofExt (S := fun _ => False) e) (fun _ h => h.elim), .inl h.xg, .inl h.x2, h.ne, fun k hk => ?_, h.up⟩
  · have := h.a.foot_lt k hk
    have := (hY k hy).1
    omega
  · refine .inr ⟨h.up k (Nat.le_trans h.f.size (Nat.le_trans e.size hk)), fun hx => hx.elim (fun hx => ?_) (fun hy => ?_)⟩
    · have := (h.hx k hx).2; have := e.size; omega
    · have := (hY k hy).2; omega
  · rcases hk with hk | hk
    · exact ⟨(h.hx k hk).1, Nat.lt_of_lt_of_le (h.hx k hk).2 e.size⟩
    · exact ⟨Nat.le_trans h.f.size (hY k hk).1, (hY k hk).2⟩
/-- Some of our own blocks are let go. -/
theorem MX.less {B X X' w0 w g g2 l vN vS vM m} (h : MX B X' w0 w g g2 l vN vS vM m) (hs : ∀ k, X k → X' k) (xg : X g) (x2 : X g2) : MX B X w0 w g g2 l vN vS vM m := by
  have h1 := h.a
  have hb : ∀ k, (k = g ∨ (B k ∧ ¬ X' k)) → (k = g ∨ (B k ∧ ¬ X k)) := fun k hk => hk.imp id (fun hk => ⟨hk.1, fun hx => hk.2 (hs k hx)⟩)
  exact ⟨⟨h1.mb, h1.nr, h1.ns, h1.sr, h1.me, fun k hk => hb k (h1.lo k hk), h1.kk, h1.ks, h1.km, h1.sm, fun k hk => hb k (h1.up k hk)⟩, h.r, h.f, xg, x2, h.ne, fun k hk => h.hx k (hs k hk), h.up⟩
theorem setKids_at (m : Mc) (x : Nat) (kids : List Int) (h : x < (setKids m x kids).nodes.length) : (setKids m x kids).nodes[x].kids = kids := by simp [setKids]
theorem ir_cell {w : World} {bL : Nat} {n c : Nat} {list : List Int} (h : IR w (.slice (some ⟨bL, 0, none⟩) n c) list) (hl : list.length ≤ 1000000) (k : Nat) (hk : k < list.length) (z : Int) (hz : list[k] = z) : w.cell? ⟨bL, k, none⟩ = some (.int .i64 z) := by
  obtain ⟨A', c', hv, _, hr⟩ := IR.rd h (by omega)
  injection hv with e1
  rw [← e1] at hr
  obtain ⟨aL', hA, h1⟩ := hr.2 k hk
  injection hA with hA
  rw [← hA, (add_at bL k 0).1] at h1
  rw [h1, hz]
/-- The dictionary while the pairs are set. -/
def SetQ (B X : Nat → Prop) (w : World) (g g2 : Nat) (m : Mc) (x : Nat) (v : Value) (list kids0 : List Int) (Bd k : Nat) (wr : World) : Prop :=
  ∃ l AN nN cN AS nS cS AM nM cM kids, putAll m.nodes kids0 list = putAll m.nodes kids (list.drop k) ∧ MX B X w wr g g2 l (.slice AN nN cN) (.slice AS nS cS) (.slice AM nM cM) (setKids m x kids) ∧ IR wr v list ∧ kids.length ≤ Bd + k ∧ kids.length % 2 = 0 ∧ (∀ z ∈ kids, 0 ≤ z ∧ z < m.nodes.length) ∧ k % 2 = 0
/-- A row of our own is not the machine's. -/
theorem MX.away {B X : Nat → Prop} {w0 w : World} {g g2 : Nat} {l : List (Nd × Value)} {vN vS vM v : Value} {m : Mc} {xs : List Int} (h : MX B (fun k => X k ∨ v.ownBlock = some k) w0 w g g2 l vN vS vM m) (hv : IR w v xs) (k : Nat) (hk : Foot g l vN vS vM k) (hk2 : v.ownBlock = some k) : False := by
  rcases h.a.lo k hk with e | e
  · subst e; exact own_ne_blk hv h.a.mb (by decide) hk2
  · exact e.2 (.inr hk2)
set_option maxRecDepth 100000 in
set_option maxHeartbeats 4000000 in
theorem stepMark_0 {B Bd w l vN vS vM m} (h : MW B w l vN vS vM m) (hok : okM Bd m) (hBd : Bd ≤ 900000) (arg : Int) (code : Int) (ht : topN m.stack = m.stack.length) :
    Calls Try.prog 148 #[.agg #[vN, vS, vM, .bool m.done], .agg #[.int .i64 code, .int .i64 arg]] w (StepX B (none) w) := by
  have HMK := As.mk (show markP m = -1 by unfold markP; rw [if_pos ht])
  clear ht
  obtain ⟨AN, cN, AS, cS, AM, cM, rfl, rfl, rfl, hrm, hcS⟩ := h.rm (by have := hok.nl; omega) (by have := hok.sl; omega) (by have := hok.ml; omega)
  have HX := As.mk (h.box (W := ((w.alloc (.cells #[.slice AN m.nodes.length cN, .slice AS m.stack.length cS, .slice AM m.memo.length cM, .bool m.done] 64)).alloc (.cells #[.int .i64 code, .int .i64 arg] 82)).alloc (.cells #[.slice none 0 0, .slice none 0 0, .slice none 0 0, .bool false] 64)) (fun k => k = w.heap.size ∨ k = w.heap.size + 1 ∨ k = w.heap.size + 1 + 1) (g := w.heap.size) (g2 := w.heap.size + 1 + 1) ((((Ext.rf w).al _).al _).al _) (((((Ext.rf _).al _)).al _).blk (al_new _ _)) (by have := al_new ((w.alloc (.cells #[.slice AN m.nodes.length cN, .slice AS m.stack.length cS, .slice AM m.memo.length cM, .bool m.done] 64)).alloc (.cells #[.int .i64 code, .int .i64 arg] 82)) (.cells #[.slice none 0 0, .slice none 0 0, .slice none 0 0, .bool false] 64); rw [al_size, al_size] at this; exact this) (.inl rfl) (.inr (.inr rfl)) (by omega) (fun k hk => by rw [al_size, al_size, al_size]; omega))
  have HO := As.mk (show (((w.alloc (.cells #[.slice AN m.nodes.length cN, .slice AS m.stack.length cS, .slice AM m.memo.length cM, .bool m.done] 64)).alloc (.cells #[.int .i64 code, .int .i64 arg] 82)).alloc (.cells #[.slice none 0 0, .slice none 0 0, .slice none 0 0, .bool false] 64)).heap[w.heap.size + 1]? = some (.cells #[.int .i64 code, .int .i64 arg] 82 (0, 0)) from by have := ((Ext.rf _).al (.cells #[.slice none 0 0, .slice none 0 0, .slice none 0 0, .bool false] 64)).blk (al_new (w.alloc (.cells #[.slice AN m.nodes.length cN, .slice AS m.stack.length cS, .slice AM m.memo.length cM, .bool m.done] 64)) (.cells #[.int .i64 code, .int .i64 arg] 82)); rw [al_size] at this; exact this)
  have HRM := As.mk (RdI.ext hrm.s ((((Ext.rf w).al (.cells #[.slice AN m.nodes.length cN, .slice AS m.stack.length cS, .slice AM m.memo.length cM, .bool m.done] 64)).al (.cells #[.int .i64 code, .int .i64 arg] 82)).al (.cells #[.slice none 0 0, .slice none 0 0, .slice none 0 0, .bool false] 64)))
  have HOK := As.mk hok
  have q1 := hok.nl
  have q2 := hok.sl
  have q3 : m.memo.length ≤ 1000000 := by have := hok.ml; omega
  clear h hrm hok
  go_enter Try.func148, Try.ntmps148
  go_upto_region 1 with fail
  obtain ⟨w1, hw1⟩ : ∃ w1, w1 = ((w.alloc (.cells #[.slice AN m.nodes.length cN, .slice AS m.stack.length cS, .slice AM m.memo.length cM, .bool m.done] 64)).alloc (.cells #[.int .i64 code, .int .i64 arg] 82)).alloc (.cells #[.slice none 0 0, .slice none 0 0, .slice none 0 0, .bool false] 64) := ⟨_, rfl⟩
  rw [← hw1] at HX HO HRM ⊢
  clear hw1
  obtain ⟨g, hg⟩ : ∃ g, g = w.heap.size := ⟨_, rfl⟩
  rw [← hg] at HX HO ⊢
  clear hg
  have c0 := MB.c0 HX.out.a.mb; have c1 := MB.c1 HX.out.a.mb; have c2 := MB.c2 HX.out.a.mb; have c3 := MB.c3 HX.out.a.mb
  go_upto_region 2 with (go_at_call 171; refine (markAt_c _ _ _ _ _ _ _ _ m w1 HRM.out (by omega)).mono ?_; rw [HMK.out]; rintro e w2 ⟨rfl, hx⟩; have HE2 := As.mk hx; clear hx)
  have HX5 := As.mk (HX.out.ext HE2.out)
  clear c0 c1 c2 c3
  have d0 := MB.c0 HX5.out.r; have d1 := MB.c1 HX5.out.r; have d2 := MB.c2 HX5.out.r; have d3 := MB.c3 HX5.out.r
  have f0 := MB.fz HX5.out.r 0; have f1 := MB.fz HX5.out.r 1; have f2 := MB.fz HX5.out.r 2; have f3 := MB.fz HX5.out.r 3
  have c0 := MB.c0 HX5.out.a.mb; have c1 := MB.c1 HX5.out.a.mb; have c2 := MB.c2 HX5.out.a.mb; have c3 := MB.c3 HX5.out.a.mb
  go_wp2_with fail
  have ho := HX5.out.out
  refine bodyPost_ret (results_cellt rfl _ _ (g + 1 + 1) _ rfl (loadM ho.2.2)) rfl ?_
  exact ⟨_, _, _, _, _, _, _, _, _, _, rfl, ho.2.1, fun _ hm => nomatch hm⟩
set_option maxRecDepth 100000 in
set_option maxHeartbeats 4000000 in
theorem stepMark_18 {B Bd w l vN vS vM m} (h : MW B w l vN vS vM m) (hok : okM Bd m) (hBd : Bd ≤ 900000) (arg : Int) (ht : topN m.stack ≠ m.stack.length) :
    Calls Try.prog 148 #[.agg #[vN, vS, vM, .bool m.done], .agg #[.int .i64 18, .int .i64 arg]] w (StepX B (some (drop m (topN m.stack + 1))) w) := by
  have hql := topN_le m.stack
  obtain ⟨q, hq⟩ : ∃ q, q = topN m.stack := ⟨_, rfl⟩
  have hqn : q + 1 ≤ m.stack.length := by omega
  have HMK := As.mk (show markP m = (m.stack.length - 1 - q : Nat) by unfold markP; rw [if_neg ht, ← hq]; omega)
  obtain ⟨p, hp⟩ : ∃ p, p = m.stack.length - 1 - q := ⟨_, rfl⟩
  rw [← hp] at HMK
  obtain ⟨list, hlist⟩ : ∃ list, list = m.stack.drop (m.stack.length - q) := ⟨_, rfl⟩
  have HLS := As.mk (show list = m.stack.drop (p + 1) by rw [hlist]; congr 1; omega)
  have hlq : list.length = q := by rw [hlist, List.length_drop]; omega
  have hin : ∀ x ∈ list, 0 ≤ x ∧ x < m.nodes.length := by rw [hlist, hq]; exact hok.top _ (Nat.le_refl _)
  have HIN := As.mk hin
  have HMD := As.mk (show drop m (topN m.stack + 1) = drop m (list.length + 1) by rw [hlq, hq])
  have HLD := As.mk (show m.stack.drop (m.stack.length - topN m.stack) = list by rw [hlist, hq])
  have hln : list.length + 1 ≤ m.stack.length := by omega
  have hpl : p + 1 ≤ m.stack.length := by omega
  clear hq hqn hp hlist hlq hin ht hql
  obtain ⟨AN, cN, AS, cS, AM, cM, rfl, rfl, rfl, hrm, hcS⟩ := h.rm (by have := hok.nl; omega) (by have := hok.sl; omega) (by have := hok.ml; omega)
  have HX := As.mk (h.box (W := ((w.alloc (.cells #[.slice AN m.nodes.length cN, .slice AS m.stack.length cS, .slice AM m.memo.length cM, .bool m.done] 64)).alloc (.cells #[.int .i64 18, .int .i64 arg] 82)).alloc (.cells #[.slice none 0 0, .slice none 0 0, .slice none 0 0, .bool false] 64)) (fun k => k = w.heap.size ∨ k = w.heap.size + 1 ∨ k = w.heap.size + 1 + 1) (g := w.heap.size) (g2 := w.heap.size + 1 + 1) ((((Ext.rf w).al _).al _).al _) (((((Ext.rf _).al _)).al _).blk (al_new _ _)) (by have := al_new ((w.alloc (.cells #[.slice AN m.nodes.length cN, .slice AS m.stack.length cS, .slice AM m.memo.length cM, .bool m.done] 64)).alloc (.cells #[.int .i64 18, .int .i64 arg] 82)) (.cells #[.slice none 0 0, .slice none 0 0, .slice none 0 0, .bool false] 64); rw [al_size, al_size] at this; exact this) (.inl rfl) (.inr (.inr rfl)) (by omega) (fun k hk => by rw [al_size, al_size, al_size]; omega))
  have HO := As.mk (show (((w.alloc (.cells #[.slice AN m.nodes.length cN, .slice AS m.stack.length cS, .slice AM m.memo.length cM, .bool m.done] 64)).alloc (.cells #[.int .i64 18, .int .i64 arg] 82)).alloc (.cells #[.slice none 0 0, .slice none 0 0, .slice none 0 0, .bool false] 64)).heap[w.heap.size + 1]? = some (.cells #[.int .i64 18, .int .i64 arg] 82 (0, 0)) from by have := ((Ext.rf _).al (.cells #[.slice none 0 0, .slice none 0 0, .slice none 0 0, .bool false] 64)).blk (al_new (w.alloc (.cells #[.slice AN m.nodes.length cN, .slice AS m.stack.length cS, .slice AM m.memo.length cM, .bool m.done] 64)) (.cells #[.int .i64 18, .int .i64 arg] 82)); rw [al_size] at this; exact this)
  have HRM := As.mk (RdI.ext hrm.s ((((Ext.rf w).al (.cells #[.slice AN m.nodes.length cN, .slice AS m.stack.length cS, .slice AM m.memo.length cM, .bool m.done] 64)).al (.cells #[.int .i64 18, .int .i64 arg] 82)).al (.cells #[.slice none 0 0, .slice none 0 0, .slice none 0 0, .bool false] 64)))
  have HOK := As.mk hok
  have q1 := hok.nl
  have q2 := hok.sl
  have q3 : m.memo.length ≤ 1000000 := by have := hok.ml; omega
  clear h hrm hok
  go_enter Try.func148, Try.ntmps148
  go_upto_region 1 with fail
  obtain ⟨w1, hw1⟩ : ∃ w1, w1 = ((w.alloc (.cells #[.slice AN m.nodes.length cN, .slice AS m.stack.length cS, .slice AM m.memo.length cM, .bool m.done] 64)).alloc (.cells #[.int .i64 18, .int .i64 arg] 82)).alloc (.cells #[.slice none 0 0, .slice none 0 0, .slice none 0 0, .bool false] 64) := ⟨_, rfl⟩
  rw [← hw1] at HX HO HRM ⊢
  clear hw1
  obtain ⟨g, hg⟩ : ∃ g, g = w.heap.size := ⟨_, rfl⟩
  rw [← hg] at HX HO ⊢
  clear hg
  have c0 := MB.c0 HX.out.a.mb; have c1 := MB.c1 HX.out.a.mb; have c2 := MB.c2 HX.out.a.mb; have c3 := MB.c3 HX.out.a.mb
  obtain ⟨A1, s1, s2⟩ := slice_fromA AS cS m.stack list p HLS.out hpl hcS
  have r1 := s2 w1 HRM.out
  have HR1 := As.mk r1
  clear s2 r1
  obtain ⟨m1, hm1⟩ : ∃ m1, m1 = drop m (list.length + 1) := ⟨_, rfl⟩
  have HM1 := As.mk hm1.symm
  have HMQ := As.mk (show drop m (topN m.stack + 1) = m1 by rw [hm1, HMD.out])
  have hok1 : okM Bd m1 := by rw [hm1]; exact HOK.out.drop _
  have HOK1 := As.mk hok1
  have p1 := hok1.nl
  have p2 := hok1.sl
  have p3 : m1.memo.length ≤ 1000000 := by have := hok1.ml; omega
  have HMN := As.mk (show m1.nodes = m.nodes by rw [hm1]; rfl)
  clear hm1 hok1
  go_upto_region 2 with (go_at_call 171; refine (markAt_c _ _ _ _ _ _ _ _ m w1 HRM.out (by omega)).mono ?_; rw [HMK.out]; rintro e w2 ⟨rfl, hx⟩; have HE2 := As.mk hx; clear hx)
  have c1 := HE2.out.cellOf c1
  go_upto_region 5 with (go_at_call 132; refine (copyInts_c _ _ _ _ (HR1.out.ext HE2.out)).mono ?_; rintro e w3 ⟨A2, cL, rfl, hI, he, hf⟩; have HI := As.mk hI; have HE3 := As.mk (HE2.out.trans he); have HFR := As.mk hf; have hx3 := (HX.out.ext HE2.out).more he (fun k => (Value.slice A2 list.length cL).ownBlock = some k) (fun k hk => ⟨hf k hk, own_lt hI hk⟩); have HX3 := As.mk hx3; clear hI he hf hx3)
  have ho3 := HE3.out.blk HO.out
  have HO3 := As.mk ho3
  clear c0 c1 c2 c3 s1 HX HO HE2 HE3 HRM HR1 ho3
  have c0 := MB.c0 HX3.out.a.mb; have c1 := MB.c1 HX3.out.a.mb; have c2 := MB.c2 HX3.out.a.mb; have c3 := MB.c3 HX3.out.a.mb
  go_upto_region 6 with (go_at_call 172; refine (sdrop_c HX3.out.mw (list.length + 1) hln (by omega) (by omega) (by omega)).mono ?_; rw [HM1.out]; rintro e w4 ⟨l4, vN4, vS4, vM4, rfl, hv, hf⟩; obtain ⟨AN4, cN4, AS4, cS4, AM4, cM4, rfl, rfl, rfl, -, -⟩ := hv.rm (by omega) (by omega) p3; have HV4 := As.mk hv; have HF4 := As.mk hf; have hb := hf.blk HX3.out.a.mb (fun e => e.2 HX3.out.xg); have e0 := MB.c0 hb; have e1 := MB.c1 hb; have e2 := MB.c2 hb; have e3 := MB.c3 hb; have f0 := MB.fz hb 0; have f1 := MB.fz hb 1; have f2 := MB.fz hb 2; have f3 := MB.fz hb 3; clear hv hf hb)
  have hx5 := HX3.out.put HV4.out HF4.out
  have hf5 := Fr.set4 (S := fun k => k = g) (w := w4) (g := g) rfl (.slice AN4 m1.nodes.length cN4) (.slice AS4 m1.stack.length cS4) (.slice AM4 m1.memo.length cM4) (.bool m1.done)
  have ho5 := hf5.blk (HF4.out.blk HO3.out (fun e => e.2 (.inl (.inr (.inl rfl))))) (by omega)
  have hi5 := HI.out.keep (fun k hk => (hf5.block k (Nat.lt_of_lt_of_le (own_lt HI.out hk) HF4.out.size) (fun e => by subst e; exact own_ne_blk HI.out HX3.out.a.mb (by decide) hk)).trans (HF4.out.block k (own_lt HI.out hk) (fun e => e.2 (.inr hk))))
  have HX5 := As.mk hx5
  have HO5 := As.mk ho5
  have HI5 := As.mk hi5
  clear hx5 hf5 ho5 hi5 c0 c1 c2 c3 e0 e1 e2 e3 f0 f1 f2 f3 HO3 HI
  generalize ((((w4.setCell ⟨g, 0, none⟩ (.slice AN4 m1.nodes.length cN4)).setCell ⟨g, 1, none⟩ (.slice AS4 m1.stack.length cS4)).setCell ⟨g, 2, none⟩ (.slice AM4 m1.memo.length cM4)).setCell ⟨g, 3, none⟩ (.bool m1.done)) = w5 at HX5 HO5 HI5 ⊢
  clear HV4 HF4 HX3
  have HRS := As.mk (show RdI w5 AS4 m1.stack by
    obtain ⟨A', c', hv, _, hr⟩ := IR.rd HX5.out.a.sr (by omega)
    injection hv with e1
    rw [e1]; exact hr)
  obtain ⟨bl, hbl⟩ : ∃ bl, bl = topP m1 0 := ⟨_, rfl⟩
  have HBL := As.mk hbl
  clear hbl
  have c0 := MB.c0 HX5.out.a.mb; have c1 := MB.c1 HX5.out.a.mb; have c2 := MB.c2 HX5.out.a.mb; have c3 := MB.c3 HX5.out.a.mb
  go_upto_region 7 with (go_at_call 173; refine (stop_c _ _ _ _ _ _ _ _ m1 0 w5 HRS.out (by omega)).mono ?_; rw [← HBL.out]; rintro e w6 ⟨rfl, hx⟩; have HX6 := As.mk (HX5.out.ext hx); have HO6 := As.mk (hx.blk HO5.out); have HI6 := As.mk (HI5.out.ext hx); clear hx)
  clear c0 c1 c2 c3 HX5 HO5 HI5 HRS
  have c0 := MB.c0 HX6.out.a.mb; have c1 := MB.c1 HX6.out.a.mb; have c2 := MB.c2 HX6.out.a.mb; have c3 := MB.c3 HX6.out.a.mb
  have o0 : w6.cell? ⟨g + 1, 0, none⟩ = some (.int .i64 18) := by simp [World.cell?, HO6.out]
  have d0 := MB.c0 HX6.out.r; have d1 := MB.c1 HX6.out.r; have d2 := MB.c2 HX6.out.r; have d3 := MB.c3 HX6.out.r
  have f0 := MB.fz HX6.out.r 0; have f1 := MB.fz HX6.out.r 1; have f2 := MB.fz HX6.out.r 2; have f3 := MB.fz HX6.out.r 3
  have c0 := MB.c0 HX6.out.a.mb; have c1 := MB.c1 HX6.out.a.mb; have c2 := MB.c2 HX6.out.a.mb; have c3 := MB.c3 HX6.out.a.mb
  go_wp2_with fail
  have ho := HX6.out.out
  refine bodyPost_ret (results_cellt rfl _ _ (g + 1 + 1) _ rfl (loadM ho.2.2)) rfl ?_
  refine ⟨_, _, _, _, _, _, _, _, _, _, rfl, ho.2.1, fun m' hm => ?_⟩
  rw [HMQ.out] at hm
  injection hm with hm
  subst hm
  exact ⟨rfl, _, ho.1⟩
set_option maxRecDepth 100000 in
set_option maxHeartbeats 4000000 in
theorem stepMark_3 {B Bd w l vN vS vM m} (h : MW B w l vN vS vM m) (hok : okM Bd m) (hBd : Bd ≤ 900000) (arg : Int) (ht : topN m.stack ≠ m.stack.length) :
    Calls Try.prog 148 #[.agg #[vN, vS, vM, .bool m.done], .agg #[.int .i64 3, .int .i64 arg]] w (StepX B (some (pushN (drop m (topN m.stack + 1)) 2 0 (m.stack.drop (m.stack.length - topN m.stack)))) w) := by
  have hql := topN_le m.stack
  obtain ⟨q, hq⟩ : ∃ q, q = topN m.stack := ⟨_, rfl⟩
  have hqn : q + 1 ≤ m.stack.length := by omega
  have HMK := As.mk (show markP m = (m.stack.length - 1 - q : Nat) by unfold markP; rw [if_neg ht, ← hq]; omega)
  obtain ⟨p, hp⟩ : ∃ p, p = m.stack.length - 1 - q := ⟨_, rfl⟩
  rw [← hp] at HMK
  obtain ⟨list, hlist⟩ : ∃ list, list = m.stack.drop (m.stack.length - q) := ⟨_, rfl⟩
  have HLS := As.mk (show list = m.stack.drop (p + 1) by rw [hlist]; congr 1; omega)
  have hlq : list.length = q := by rw [hlist, List.length_drop]; omega
  have hin : ∀ x ∈ list, 0 ≤ x ∧ x < m.nodes.length := by rw [hlist, hq]; exact hok.top _ (Nat.le_refl _)
  have HIN := As.mk hin
  have HMD := As.mk (show drop m (topN m.stack + 1) = drop m (list.length + 1) by rw [hlq, hq])
  have HLD := As.mk (show m.stack.drop (m.stack.length - topN m.stack) = list by rw [hlist, hq])
  have hln : list.length + 1 ≤ m.stack.length := by omega
  have hpl : p + 1 ≤ m.stack.length := by omega
  clear hq hqn hp hlist hlq hin ht hql
  obtain ⟨AN, cN, AS, cS, AM, cM, rfl, rfl, rfl, hrm, hcS⟩ := h.rm (by have := hok.nl; omega) (by have := hok.sl; omega) (by have := hok.ml; omega)
  have HX := As.mk (h.box (W := ((w.alloc (.cells #[.slice AN m.nodes.length cN, .slice AS m.stack.length cS, .slice AM m.memo.length cM, .bool m.done] 64)).alloc (.cells #[.int .i64 3, .int .i64 arg] 82)).alloc (.cells #[.slice none 0 0, .slice none 0 0, .slice none 0 0, .bool false] 64)) (fun k => k = w.heap.size ∨ k = w.heap.size + 1 ∨ k = w.heap.size + 1 + 1) (g := w.heap.size) (g2 := w.heap.size + 1 + 1) ((((Ext.rf w).al _).al _).al _) (((((Ext.rf _).al _)).al _).blk (al_new _ _)) (by have := al_new ((w.alloc (.cells #[.slice AN m.nodes.length cN, .slice AS m.stack.length cS, .slice AM m.memo.length cM, .bool m.done] 64)).alloc (.cells #[.int .i64 3, .int .i64 arg] 82)) (.cells #[.slice none 0 0, .slice none 0 0, .slice none 0 0, .bool false] 64); rw [al_size, al_size] at this; exact this) (.inl rfl) (.inr (.inr rfl)) (by omega) (fun k hk => by rw [al_size, al_size, al_size]; omega))
  have HO := As.mk (show (((w.alloc (.cells #[.slice AN m.nodes.length cN, .slice AS m.stack.length cS, .slice AM m.memo.length cM, .bool m.done] 64)).alloc (.cells #[.int .i64 3, .int .i64 arg] 82)).alloc (.cells #[.slice none 0 0, .slice none 0 0, .slice none 0 0, .bool false] 64)).heap[w.heap.size + 1]? = some (.cells #[.int .i64 3, .int .i64 arg] 82 (0, 0)) from by have := ((Ext.rf _).al (.cells #[.slice none 0 0, .slice none 0 0, .slice none 0 0, .bool false] 64)).blk (al_new (w.alloc (.cells #[.slice AN m.nodes.length cN, .slice AS m.stack.length cS, .slice AM m.memo.length cM, .bool m.done] 64)) (.cells #[.int .i64 3, .int .i64 arg] 82)); rw [al_size] at this; exact this)
  have HRM := As.mk (RdI.ext hrm.s ((((Ext.rf w).al (.cells #[.slice AN m.nodes.length cN, .slice AS m.stack.length cS, .slice AM m.memo.length cM, .bool m.done] 64)).al (.cells #[.int .i64 3, .int .i64 arg] 82)).al (.cells #[.slice none 0 0, .slice none 0 0, .slice none 0 0, .bool false] 64)))
  have HOK := As.mk hok
  have q1 := hok.nl
  have q2 := hok.sl
  have q3 : m.memo.length ≤ 1000000 := by have := hok.ml; omega
  clear h hrm hok
  go_enter Try.func148, Try.ntmps148
  go_upto_region 1 with fail
  obtain ⟨w1, hw1⟩ : ∃ w1, w1 = ((w.alloc (.cells #[.slice AN m.nodes.length cN, .slice AS m.stack.length cS, .slice AM m.memo.length cM, .bool m.done] 64)).alloc (.cells #[.int .i64 3, .int .i64 arg] 82)).alloc (.cells #[.slice none 0 0, .slice none 0 0, .slice none 0 0, .bool false] 64) := ⟨_, rfl⟩
  rw [← hw1] at HX HO HRM ⊢
  clear hw1
  obtain ⟨g, hg⟩ : ∃ g, g = w.heap.size := ⟨_, rfl⟩
  rw [← hg] at HX HO ⊢
  clear hg
  have c0 := MB.c0 HX.out.a.mb; have c1 := MB.c1 HX.out.a.mb; have c2 := MB.c2 HX.out.a.mb; have c3 := MB.c3 HX.out.a.mb
  obtain ⟨A1, s1, s2⟩ := slice_fromA AS cS m.stack list p HLS.out hpl hcS
  have r1 := s2 w1 HRM.out
  have HR1 := As.mk r1
  clear s2 r1
  obtain ⟨m1, hm1⟩ : ∃ m1, m1 = drop m (list.length + 1) := ⟨_, rfl⟩
  have HM1 := As.mk hm1.symm
  have HMQ := As.mk (show drop m (topN m.stack + 1) = m1 by rw [hm1, HMD.out])
  have hok1 : okM Bd m1 := by rw [hm1]; exact HOK.out.drop _
  have HOK1 := As.mk hok1
  have p1 := hok1.nl
  have p2 := hok1.sl
  have p3 : m1.memo.length ≤ 1000000 := by have := hok1.ml; omega
  have HMN := As.mk (show m1.nodes = m.nodes by rw [hm1]; rfl)
  clear hm1 hok1
  go_upto_region 2 with (go_at_call 171; refine (markAt_c _ _ _ _ _ _ _ _ m w1 HRM.out (by omega)).mono ?_; rw [HMK.out]; rintro e w2 ⟨rfl, hx⟩; have HE2 := As.mk hx; clear hx)
  have c1 := HE2.out.cellOf c1
  go_upto_region 5 with (go_at_call 132; refine (copyInts_c _ _ _ _ (HR1.out.ext HE2.out)).mono ?_; rintro e w3 ⟨A2, cL, rfl, hI, he, hf⟩; have HI := As.mk hI; have HE3 := As.mk (HE2.out.trans he); have HFR := As.mk hf; have hx3 := (HX.out.ext HE2.out).more he (fun k => (Value.slice A2 list.length cL).ownBlock = some k) (fun k hk => ⟨hf k hk, own_lt hI hk⟩); have HX3 := As.mk hx3; clear hI he hf hx3)
  have ho3 := HE3.out.blk HO.out
  have HO3 := As.mk ho3
  clear c0 c1 c2 c3 s1 HX HO HE2 HE3 HRM HR1 ho3
  have c0 := MB.c0 HX3.out.a.mb; have c1 := MB.c1 HX3.out.a.mb; have c2 := MB.c2 HX3.out.a.mb; have c3 := MB.c3 HX3.out.a.mb
  go_upto_region 6 with (go_at_call 172; refine (sdrop_c HX3.out.mw (list.length + 1) hln (by omega) (by omega) (by omega)).mono ?_; rw [HM1.out]; rintro e w4 ⟨l4, vN4, vS4, vM4, rfl, hv, hf⟩; obtain ⟨AN4, cN4, AS4, cS4, AM4, cM4, rfl, rfl, rfl, -, -⟩ := hv.rm (by omega) (by omega) p3; have HV4 := As.mk hv; have HF4 := As.mk hf; have hb := hf.blk HX3.out.a.mb (fun e => e.2 HX3.out.xg); have e0 := MB.c0 hb; have e1 := MB.c1 hb; have e2 := MB.c2 hb; have e3 := MB.c3 hb; have f0 := MB.fz hb 0; have f1 := MB.fz hb 1; have f2 := MB.fz hb 2; have f3 := MB.fz hb 3; clear hv hf hb)
  have hx5 := HX3.out.put HV4.out HF4.out
  have hf5 := Fr.set4 (S := fun k => k = g) (w := w4) (g := g) rfl (.slice AN4 m1.nodes.length cN4) (.slice AS4 m1.stack.length cS4) (.slice AM4 m1.memo.length cM4) (.bool m1.done)
  have ho5 := hf5.blk (HF4.out.blk HO3.out (fun e => e.2 (.inl (.inr (.inl rfl))))) (by omega)
  have hi5 := HI.out.keep (fun k hk => (hf5.block k (Nat.lt_of_lt_of_le (own_lt HI.out hk) HF4.out.size) (fun e => by subst e; exact own_ne_blk HI.out HX3.out.a.mb (by decide) hk)).trans (HF4.out.block k (own_lt HI.out hk) (fun e => e.2 (.inr hk))))
  have HX5 := As.mk hx5
  have HO5 := As.mk ho5
  have HI5 := As.mk hi5
  clear hx5 hf5 ho5 hi5 c0 c1 c2 c3 e0 e1 e2 e3 f0 f1 f2 f3 HO3 HI
  generalize ((((w4.setCell ⟨g, 0, none⟩ (.slice AN4 m1.nodes.length cN4)).setCell ⟨g, 1, none⟩ (.slice AS4 m1.stack.length cS4)).setCell ⟨g, 2, none⟩ (.slice AM4 m1.memo.length cM4)).setCell ⟨g, 3, none⟩ (.bool m1.done)) = w5 at HX5 HO5 HI5 ⊢
  clear HV4 HF4 HX3
  have HRS := As.mk (show RdI w5 AS4 m1.stack by
    obtain ⟨A', c', hv, _, hr⟩ := IR.rd HX5.out.a.sr (by omega)
    injection hv with e1
    rw [e1]; exact hr)
  obtain ⟨bl, hbl⟩ : ∃ bl, bl = topP m1 0 := ⟨_, rfl⟩
  have HBL := As.mk hbl
  clear hbl
  have c0 := MB.c0 HX5.out.a.mb; have c1 := MB.c1 HX5.out.a.mb; have c2 := MB.c2 HX5.out.a.mb; have c3 := MB.c3 HX5.out.a.mb
  go_upto_region 7 with (go_at_call 173; refine (stop_c _ _ _ _ _ _ _ _ m1 0 w5 HRS.out (by omega)).mono ?_; rw [← HBL.out]; rintro e w6 ⟨rfl, hx⟩; have HX6 := As.mk (HX5.out.ext hx); have HO6 := As.mk (hx.blk HO5.out); have HI6 := As.mk (HI5.out.ext hx); clear hx)
  clear c0 c1 c2 c3 HX5 HO5 HI5 HRS
  have c0 := MB.c0 HX6.out.a.mb; have c1 := MB.c1 HX6.out.a.mb; have c2 := MB.c2 HX6.out.a.mb; have c3 := MB.c3 HX6.out.a.mb
  have o0 : w6.cell? ⟨g + 1, 0, none⟩ = some (.int .i64 3) := by simp [World.cell?, HO6.out]
  have d0 := MB.c0 HX6.out.r; have d1 := MB.c1 HX6.out.r; have d2 := MB.c2 HX6.out.r; have d3 := MB.c3 HX6.out.r
  have f0 := MB.fz HX6.out.r 0; have f1 := MB.fz HX6.out.r 1; have f2 := MB.fz HX6.out.r 2; have f3 := MB.fz HX6.out.r 3
  have HX7 := As.mk (HX6.out.less (X := fun k => k = g ∨ k = g + 1 ∨ k = g + 1 + 1) (fun k hk => .inl hk) (.inl rfl) (.inr (.inr rfl)))
  have hlo : ∀ k, (Value.slice A2 list.length cL).ownBlock = some k → B k ∧ ¬ (k = g ∨ k = g + 1 ∨ k = g + 1 + 1) := fun k hk => ⟨HX6.out.up k (HX6.out.hx k (.inr hk)).1, fun e => by
    rcases e with e | e | e
    · subst e; exact own_ne_blk HI6.out HX6.out.a.mb (by decide) hk
    · subst e; exact own_ne_blk HI6.out HO6.out (by decide) hk
    · subst e; exact own_ne_blk HI6.out HX6.out.r (by decide) hk⟩
  have HLO := As.mk hlo
  clear hlo
  go_wp2_with (go_at_call 147; refine (spush_c HX7.out.mw 2 0 _ list HI6.out (by omega) HLO.out (fun p hp k h1 h2 => HX6.out.away HI6.out k (.inr (.inr (.inr (.inr ⟨p, hp, h1⟩)))) h2) (fun k h1 h2 => HX6.out.away HI6.out k (.inr (.inr (.inl h2))) h1) (fun k h1 h2 => HX6.out.away HI6.out k (.inr (.inr (.inr (.inl h2)))) h1) (by omega) (by omega) p3).mono ?_; rintro e w8 hr; obtain ⟨l8, B1, n1, e1, B2, n2, e2, B3, n3, e3, rfl, hv, hf⟩ := machS_of hr; have HV8 := As.mk hv; have HF8 := As.mk hf; have hb := hf.blk HX7.out.r (fun e => e.2 HX7.out.x2); have d0 := MB.c0 hb; have d1 := MB.c1 hb; have d2 := MB.c2 hb; have d3 := MB.c3 hb; have f0 := MB.fz hb 0; have f1 := MB.fz hb 1; have f2 := MB.fz hb 2; have f3 := MB.fz hb 3; clear hr hv hf hb)
  have ho := HX7.out.res HV8.out HF8.out
  refine bodyPost_ret (results_cellt rfl _ _ (g + 1 + 1) _ rfl (loadM ho.2.2)) rfl ?_
  refine ⟨_, _, _, _, _, _, _, _, _, _, rfl, ho.2.1, fun m' hm => ?_⟩
  rw [HMQ.out, HLD.out] at hm
  injection hm with hm
  subst hm
  exact ⟨rfl, _, ho.1⟩
set_option maxRecDepth 100000 in
set_option maxHeartbeats 4000000 in
theorem stepMark_9n {B Bd w l vN vS vM m} (h : MW B w l vN vS vM m) (hok : okM Bd m) (hBd : Bd ≤ 900000) (arg : Int) (ht : topN m.stack ≠ m.stack.length) (hk : kindP (drop m (topN m.stack + 1)) (topP (drop m (topN m.stack + 1)) 0) ≠ 3) :
    Calls Try.prog 148 #[.agg #[vN, vS, vM, .bool m.done], .agg #[.int .i64 9, .int .i64 arg]] w (StepX B (none) w) := by
  have hql := topN_le m.stack
  obtain ⟨q, hq⟩ : ∃ q, q = topN m.stack := ⟨_, rfl⟩
  have hqn : q + 1 ≤ m.stack.length := by omega
  have HMK := As.mk (show markP m = (m.stack.length - 1 - q : Nat) by unfold markP; rw [if_neg ht, ← hq]; omega)
  obtain ⟨p, hp⟩ : ∃ p, p = m.stack.length - 1 - q := ⟨_, rfl⟩
  rw [← hp] at HMK
  obtain ⟨list, hlist⟩ : ∃ list, list = m.stack.drop (m.stack.length - q) := ⟨_, rfl⟩
  have HLS := As.mk (show list = m.stack.drop (p + 1) by rw [hlist]; congr 1; omega)
  have hlq : list.length = q := by rw [hlist, List.length_drop]; omega
  have hin : ∀ x ∈ list, 0 ≤ x ∧ x < m.nodes.length := by rw [hlist, hq]; exact hok.top _ (Nat.le_refl _)
  have HIN := As.mk hin
  have HMD := As.mk (show drop m (topN m.stack + 1) = drop m (list.length + 1) by rw [hlq, hq])
  have HLD := As.mk (show m.stack.drop (m.stack.length - topN m.stack) = list by rw [hlist, hq])
  have hln : list.length + 1 ≤ m.stack.length := by omega
  have hpl : p + 1 ≤ m.stack.length := by omega
  clear hq hqn hp hlist hlq hin ht hql
  obtain ⟨AN, cN, AS, cS, AM, cM, rfl, rfl, rfl, hrm, hcS⟩ := h.rm (by have := hok.nl; omega) (by have := hok.sl; omega) (by have := hok.ml; omega)
  have HX := As.mk (h.box (W := ((w.alloc (.cells #[.slice AN m.nodes.length cN, .slice AS m.stack.length cS, .slice AM m.memo.length cM, .bool m.done] 64)).alloc (.cells #[.int .i64 9, .int .i64 arg] 82)).alloc (.cells #[.slice none 0 0, .slice none 0 0, .slice none 0 0, .bool false] 64)) (fun k => k = w.heap.size ∨ k = w.heap.size + 1 ∨ k = w.heap.size + 1 + 1) (g := w.heap.size) (g2 := w.heap.size + 1 + 1) ((((Ext.rf w).al _).al _).al _) (((((Ext.rf _).al _)).al _).blk (al_new _ _)) (by have := al_new ((w.alloc (.cells #[.slice AN m.nodes.length cN, .slice AS m.stack.length cS, .slice AM m.memo.length cM, .bool m.done] 64)).alloc (.cells #[.int .i64 9, .int .i64 arg] 82)) (.cells #[.slice none 0 0, .slice none 0 0, .slice none 0 0, .bool false] 64); rw [al_size, al_size] at this; exact this) (.inl rfl) (.inr (.inr rfl)) (by omega) (fun k hk => by rw [al_size, al_size, al_size]; omega))
  have HO := As.mk (show (((w.alloc (.cells #[.slice AN m.nodes.length cN, .slice AS m.stack.length cS, .slice AM m.memo.length cM, .bool m.done] 64)).alloc (.cells #[.int .i64 9, .int .i64 arg] 82)).alloc (.cells #[.slice none 0 0, .slice none 0 0, .slice none 0 0, .bool false] 64)).heap[w.heap.size + 1]? = some (.cells #[.int .i64 9, .int .i64 arg] 82 (0, 0)) from by have := ((Ext.rf _).al (.cells #[.slice none 0 0, .slice none 0 0, .slice none 0 0, .bool false] 64)).blk (al_new (w.alloc (.cells #[.slice AN m.nodes.length cN, .slice AS m.stack.length cS, .slice AM m.memo.length cM, .bool m.done] 64)) (.cells #[.int .i64 9, .int .i64 arg] 82)); rw [al_size] at this; exact this)
  have HRM := As.mk (RdI.ext hrm.s ((((Ext.rf w).al (.cells #[.slice AN m.nodes.length cN, .slice AS m.stack.length cS, .slice AM m.memo.length cM, .bool m.done] 64)).al (.cells #[.int .i64 9, .int .i64 arg] 82)).al (.cells #[.slice none 0 0, .slice none 0 0, .slice none 0 0, .bool false] 64)))
  have HOK := As.mk hok
  have q1 := hok.nl
  have q2 := hok.sl
  have q3 : m.memo.length ≤ 1000000 := by have := hok.ml; omega
  clear h hrm hok
  go_enter Try.func148, Try.ntmps148
  go_upto_region 1 with fail
  obtain ⟨w1, hw1⟩ : ∃ w1, w1 = ((w.alloc (.cells #[.slice AN m.nodes.length cN, .slice AS m.stack.length cS, .slice AM m.memo.length cM, .bool m.done] 64)).alloc (.cells #[.int .i64 9, .int .i64 arg] 82)).alloc (.cells #[.slice none 0 0, .slice none 0 0, .slice none 0 0, .bool false] 64) := ⟨_, rfl⟩
  rw [← hw1] at HX HO HRM ⊢
  clear hw1
  obtain ⟨g, hg⟩ : ∃ g, g = w.heap.size := ⟨_, rfl⟩
  rw [← hg] at HX HO ⊢
  clear hg
  have c0 := MB.c0 HX.out.a.mb; have c1 := MB.c1 HX.out.a.mb; have c2 := MB.c2 HX.out.a.mb; have c3 := MB.c3 HX.out.a.mb
  obtain ⟨A1, s1, s2⟩ := slice_fromA AS cS m.stack list p HLS.out hpl hcS
  have r1 := s2 w1 HRM.out
  have HR1 := As.mk r1
  clear s2 r1
  obtain ⟨m1, hm1⟩ : ∃ m1, m1 = drop m (list.length + 1) := ⟨_, rfl⟩
  have HM1 := As.mk hm1.symm
  have HMQ := As.mk (show drop m (topN m.stack + 1) = m1 by rw [hm1, HMD.out])
  have hok1 : okM Bd m1 := by rw [hm1]; exact HOK.out.drop _
  have HOK1 := As.mk hok1
  have p1 := hok1.nl
  have p2 := hok1.sl
  have p3 : m1.memo.length ≤ 1000000 := by have := hok1.ml; omega
  have HMN := As.mk (show m1.nodes = m.nodes by rw [hm1]; rfl)
  clear hm1 hok1
  go_upto_region 2 with (go_at_call 171; refine (markAt_c _ _ _ _ _ _ _ _ m w1 HRM.out (by omega)).mono ?_; rw [HMK.out]; rintro e w2 ⟨rfl, hx⟩; have HE2 := As.mk hx; clear hx)
  have c1 := HE2.out.cellOf c1
  go_upto_region 5 with (go_at_call 132; refine (copyInts_c _ _ _ _ (HR1.out.ext HE2.out)).mono ?_; rintro e w3 ⟨A2, cL, rfl, hI, he, hf⟩; have HI := As.mk hI; have HE3 := As.mk (HE2.out.trans he); have HFR := As.mk hf; have hx3 := (HX.out.ext HE2.out).more he (fun k => (Value.slice A2 list.length cL).ownBlock = some k) (fun k hk => ⟨hf k hk, own_lt hI hk⟩); have HX3 := As.mk hx3; clear hI he hf hx3)
  have ho3 := HE3.out.blk HO.out
  have HO3 := As.mk ho3
  clear c0 c1 c2 c3 s1 HX HO HE2 HE3 HRM HR1 ho3
  have c0 := MB.c0 HX3.out.a.mb; have c1 := MB.c1 HX3.out.a.mb; have c2 := MB.c2 HX3.out.a.mb; have c3 := MB.c3 HX3.out.a.mb
  go_upto_region 6 with (go_at_call 172; refine (sdrop_c HX3.out.mw (list.length + 1) hln (by omega) (by omega) (by omega)).mono ?_; rw [HM1.out]; rintro e w4 ⟨l4, vN4, vS4, vM4, rfl, hv, hf⟩; obtain ⟨AN4, cN4, AS4, cS4, AM4, cM4, rfl, rfl, rfl, -, -⟩ := hv.rm (by omega) (by omega) p3; have HV4 := As.mk hv; have HF4 := As.mk hf; have hb := hf.blk HX3.out.a.mb (fun e => e.2 HX3.out.xg); have e0 := MB.c0 hb; have e1 := MB.c1 hb; have e2 := MB.c2 hb; have e3 := MB.c3 hb; have f0 := MB.fz hb 0; have f1 := MB.fz hb 1; have f2 := MB.fz hb 2; have f3 := MB.fz hb 3; clear hv hf hb)
  have hx5 := HX3.out.put HV4.out HF4.out
  have hf5 := Fr.set4 (S := fun k => k = g) (w := w4) (g := g) rfl (.slice AN4 m1.nodes.length cN4) (.slice AS4 m1.stack.length cS4) (.slice AM4 m1.memo.length cM4) (.bool m1.done)
  have ho5 := hf5.blk (HF4.out.blk HO3.out (fun e => e.2 (.inl (.inr (.inl rfl))))) (by omega)
  have hi5 := HI.out.keep (fun k hk => (hf5.block k (Nat.lt_of_lt_of_le (own_lt HI.out hk) HF4.out.size) (fun e => by subst e; exact own_ne_blk HI.out HX3.out.a.mb (by decide) hk)).trans (HF4.out.block k (own_lt HI.out hk) (fun e => e.2 (.inr hk))))
  have HX5 := As.mk hx5
  have HO5 := As.mk ho5
  have HI5 := As.mk hi5
  clear hx5 hf5 ho5 hi5 c0 c1 c2 c3 e0 e1 e2 e3 f0 f1 f2 f3 HO3 HI
  generalize ((((w4.setCell ⟨g, 0, none⟩ (.slice AN4 m1.nodes.length cN4)).setCell ⟨g, 1, none⟩ (.slice AS4 m1.stack.length cS4)).setCell ⟨g, 2, none⟩ (.slice AM4 m1.memo.length cM4)).setCell ⟨g, 3, none⟩ (.bool m1.done)) = w5 at HX5 HO5 HI5 ⊢
  clear HV4 HF4 HX3
  have HRS := As.mk (show RdI w5 AS4 m1.stack by
    obtain ⟨A', c', hv, _, hr⟩ := IR.rd HX5.out.a.sr (by omega)
    injection hv with e1
    rw [e1]; exact hr)
  obtain ⟨bl, hbl⟩ : ∃ bl, bl = topP m1 0 := ⟨_, rfl⟩
  have HBL := As.mk hbl
  clear hbl
  have c0 := MB.c0 HX5.out.a.mb; have c1 := MB.c1 HX5.out.a.mb; have c2 := MB.c2 HX5.out.a.mb; have c3 := MB.c3 HX5.out.a.mb
  go_upto_region 7 with (go_at_call 173; refine (stop_c _ _ _ _ _ _ _ _ m1 0 w5 HRS.out (by omega)).mono ?_; rw [← HBL.out]; rintro e w6 ⟨rfl, hx⟩; have HX6 := As.mk (HX5.out.ext hx); have HO6 := As.mk (hx.blk HO5.out); have HI6 := As.mk (HI5.out.ext hx); clear hx)
  clear c0 c1 c2 c3 HX5 HO5 HI5 HRS
  have c0 := MB.c0 HX6.out.a.mb; have c1 := MB.c1 HX6.out.a.mb; have c2 := MB.c2 HX6.out.a.mb; have c3 := MB.c3 HX6.out.a.mb
  have o0 : w6.cell? ⟨g + 1, 0, none⟩ = some (.int .i64 9) := by simp [World.cell?, HO6.out]
  rw [HMQ.out, HBL.out.symm] at hk
  obtain ⟨kb, hkb⟩ : ∃ kb, kb = kindP m1 bl := ⟨_, rfl⟩
  rw [← hkb] at hk
  have HKB := As.mk hkb.symm
  have HRN := As.mk (show RdN w6 AN4 m1.nodes by
    obtain ⟨A', c', hv, _, hr⟩ := HX6.out.a.nr.rd (by have := HX6.out.a.nl; omega)
    injection hv with e1
    rw [e1, ← HX6.out.a.ns]; exact hr)
  have HLB := As.mk (show bl < m1.nodes.length by rw [HBL.out]; exact topP_lm HOK1.out 0)
  clear hkb
  go_wp2_with (go_at_call 174; refine (skindOf_c _ _ _ _ _ _ _ _ m1 bl w6 HRN.out HLB.out).mono ?_; rw [HKB.out]; rintro e w7 ⟨rfl, hx7⟩; have HX5 := As.mk (HX6.out.ext hx7); clear hx7; have d0 := MB.c0 HX5.out.r; have d1 := MB.c1 HX5.out.r; have d2 := MB.c2 HX5.out.r; have d3 := MB.c3 HX5.out.r; have f0 := MB.fz HX5.out.r 0; have f1 := MB.fz HX5.out.r 1; have f2 := MB.fz HX5.out.r 2; have f3 := MB.fz HX5.out.r 3; have c0 := MB.c0 HX5.out.a.mb; have c1 := MB.c1 HX5.out.a.mb; have c2 := MB.c2 HX5.out.a.mb; have c3 := MB.c3 HX5.out.a.mb)
  have ho := HX5.out.out
  refine bodyPost_ret (results_cellt rfl _ _ (g + 1 + 1) _ rfl (loadM ho.2.2)) rfl ?_
  exact ⟨_, _, _, _, _, _, _, _, _, _, rfl, ho.2.1, fun _ hm => nomatch hm⟩
set_option maxRecDepth 100000 in
set_option maxHeartbeats 4000000 in
theorem stepMark_12n {B Bd w l vN vS vM m} (h : MW B w l vN vS vM m) (hok : okM Bd m) (hBd : Bd ≤ 900000) (arg : Int) (ht : topN m.stack ≠ m.stack.length) (hk : kindP (drop m (topN m.stack + 1)) (topP (drop m (topN m.stack + 1)) 0) ≠ 4) :
    Calls Try.prog 148 #[.agg #[vN, vS, vM, .bool m.done], .agg #[.int .i64 12, .int .i64 arg]] w (StepX B (none) w) := by
  have hql := topN_le m.stack
  obtain ⟨q, hq⟩ : ∃ q, q = topN m.stack := ⟨_, rfl⟩
  have hqn : q + 1 ≤ m.stack.length := by omega
  have HMK := As.mk (show markP m = (m.stack.length - 1 - q : Nat) by unfold markP; rw [if_neg ht, ← hq]; omega)
  obtain ⟨p, hp⟩ : ∃ p, p = m.stack.length - 1 - q := ⟨_, rfl⟩
  rw [← hp] at HMK
  obtain ⟨list, hlist⟩ : ∃ list, list = m.stack.drop (m.stack.length - q) := ⟨_, rfl⟩
  have HLS := As.mk (show list = m.stack.drop (p + 1) by rw [hlist]; congr 1; omega)
  have hlq : list.length = q := by rw [hlist, List.length_drop]; omega
  have hin : ∀ x ∈ list, 0 ≤ x ∧ x < m.nodes.length := by rw [hlist, hq]; exact hok.top _ (Nat.le_refl _)
  have HIN := As.mk hin
  have HMD := As.mk (show drop m (topN m.stack + 1) = drop m (list.length + 1) by rw [hlq, hq])
  have HLD := As.mk (show m.stack.drop (m.stack.length - topN m.stack) = list by rw [hlist, hq])
  have hln : list.length + 1 ≤ m.stack.length := by omega
  have hpl : p + 1 ≤ m.stack.length := by omega
  clear hq hqn hp hlist hlq hin ht hql
  obtain ⟨AN, cN, AS, cS, AM, cM, rfl, rfl, rfl, hrm, hcS⟩ := h.rm (by have := hok.nl; omega) (by have := hok.sl; omega) (by have := hok.ml; omega)
  have HX := As.mk (h.box (W := ((w.alloc (.cells #[.slice AN m.nodes.length cN, .slice AS m.stack.length cS, .slice AM m.memo.length cM, .bool m.done] 64)).alloc (.cells #[.int .i64 12, .int .i64 arg] 82)).alloc (.cells #[.slice none 0 0, .slice none 0 0, .slice none 0 0, .bool false] 64)) (fun k => k = w.heap.size ∨ k = w.heap.size + 1 ∨ k = w.heap.size + 1 + 1) (g := w.heap.size) (g2 := w.heap.size + 1 + 1) ((((Ext.rf w).al _).al _).al _) (((((Ext.rf _).al _)).al _).blk (al_new _ _)) (by have := al_new ((w.alloc (.cells #[.slice AN m.nodes.length cN, .slice AS m.stack.length cS, .slice AM m.memo.length cM, .bool m.done] 64)).alloc (.cells #[.int .i64 12, .int .i64 arg] 82)) (.cells #[.slice none 0 0, .slice none 0 0, .slice none 0 0, .bool false] 64); rw [al_size, al_size] at this; exact this) (.inl rfl) (.inr (.inr rfl)) (by omega) (fun k hk => by rw [al_size, al_size, al_size]; omega))
  have HO := As.mk (show (((w.alloc (.cells #[.slice AN m.nodes.length cN, .slice AS m.stack.length cS, .slice AM m.memo.length cM, .bool m.done] 64)).alloc (.cells #[.int .i64 12, .int .i64 arg] 82)).alloc (.cells #[.slice none 0 0, .slice none 0 0, .slice none 0 0, .bool false] 64)).heap[w.heap.size + 1]? = some (.cells #[.int .i64 12, .int .i64 arg] 82 (0, 0)) from by have := ((Ext.rf _).al (.cells #[.slice none 0 0, .slice none 0 0, .slice none 0 0, .bool false] 64)).blk (al_new (w.alloc (.cells #[.slice AN m.nodes.length cN, .slice AS m.stack.length cS, .slice AM m.memo.length cM, .bool m.done] 64)) (.cells #[.int .i64 12, .int .i64 arg] 82)); rw [al_size] at this; exact this)
  have HRM := As.mk (RdI.ext hrm.s ((((Ext.rf w).al (.cells #[.slice AN m.nodes.length cN, .slice AS m.stack.length cS, .slice AM m.memo.length cM, .bool m.done] 64)).al (.cells #[.int .i64 12, .int .i64 arg] 82)).al (.cells #[.slice none 0 0, .slice none 0 0, .slice none 0 0, .bool false] 64)))
  have HOK := As.mk hok
  have q1 := hok.nl
  have q2 := hok.sl
  have q3 : m.memo.length ≤ 1000000 := by have := hok.ml; omega
  clear h hrm hok
  go_enter Try.func148, Try.ntmps148
  go_upto_region 1 with fail
  obtain ⟨w1, hw1⟩ : ∃ w1, w1 = ((w.alloc (.cells #[.slice AN m.nodes.length cN, .slice AS m.stack.length cS, .slice AM m.memo.length cM, .bool m.done] 64)).alloc (.cells #[.int .i64 12, .int .i64 arg] 82)).alloc (.cells #[.slice none 0 0, .slice none 0 0, .slice none 0 0, .bool false] 64) := ⟨_, rfl⟩
  rw [← hw1] at HX HO HRM ⊢
  clear hw1
  obtain ⟨g, hg⟩ : ∃ g, g = w.heap.size := ⟨_, rfl⟩
  rw [← hg] at HX HO ⊢
  clear hg
  have c0 := MB.c0 HX.out.a.mb; have c1 := MB.c1 HX.out.a.mb; have c2 := MB.c2 HX.out.a.mb; have c3 := MB.c3 HX.out.a.mb
  obtain ⟨A1, s1, s2⟩ := slice_fromA AS cS m.stack list p HLS.out hpl hcS
  have r1 := s2 w1 HRM.out
  have HR1 := As.mk r1
  clear s2 r1
  obtain ⟨m1, hm1⟩ : ∃ m1, m1 = drop m (list.length + 1) := ⟨_, rfl⟩
  have HM1 := As.mk hm1.symm
  have HMQ := As.mk (show drop m (topN m.stack + 1) = m1 by rw [hm1, HMD.out])
  have hok1 : okM Bd m1 := by rw [hm1]; exact HOK.out.drop _
  have HOK1 := As.mk hok1
  have p1 := hok1.nl
  have p2 := hok1.sl
  have p3 : m1.memo.length ≤ 1000000 := by have := hok1.ml; omega
  have HMN := As.mk (show m1.nodes = m.nodes by rw [hm1]; rfl)
  clear hm1 hok1
  go_upto_region 2 with (go_at_call 171; refine (markAt_c _ _ _ _ _ _ _ _ m w1 HRM.out (by omega)).mono ?_; rw [HMK.out]; rintro e w2 ⟨rfl, hx⟩; have HE2 := As.mk hx; clear hx)
  have c1 := HE2.out.cellOf c1
  go_upto_region 5 with (go_at_call 132; refine (copyInts_c _ _ _ _ (HR1.out.ext HE2.out)).mono ?_; rintro e w3 ⟨A2, cL, rfl, hI, he, hf⟩; have HI := As.mk hI; have HE3 := As.mk (HE2.out.trans he); have HFR := As.mk hf; have hx3 := (HX.out.ext HE2.out).more he (fun k => (Value.slice A2 list.length cL).ownBlock = some k) (fun k hk => ⟨hf k hk, own_lt hI hk⟩); have HX3 := As.mk hx3; clear hI he hf hx3)
  have ho3 := HE3.out.blk HO.out
  have HO3 := As.mk ho3
  clear c0 c1 c2 c3 s1 HX HO HE2 HE3 HRM HR1 ho3
  have c0 := MB.c0 HX3.out.a.mb; have c1 := MB.c1 HX3.out.a.mb; have c2 := MB.c2 HX3.out.a.mb; have c3 := MB.c3 HX3.out.a.mb
  go_upto_region 6 with (go_at_call 172; refine (sdrop_c HX3.out.mw (list.length + 1) hln (by omega) (by omega) (by omega)).mono ?_; rw [HM1.out]; rintro e w4 ⟨l4, vN4, vS4, vM4, rfl, hv, hf⟩; obtain ⟨AN4, cN4, AS4, cS4, AM4, cM4, rfl, rfl, rfl, -, -⟩ := hv.rm (by omega) (by omega) p3; have HV4 := As.mk hv; have HF4 := As.mk hf; have hb := hf.blk HX3.out.a.mb (fun e => e.2 HX3.out.xg); have e0 := MB.c0 hb; have e1 := MB.c1 hb; have e2 := MB.c2 hb; have e3 := MB.c3 hb; have f0 := MB.fz hb 0; have f1 := MB.fz hb 1; have f2 := MB.fz hb 2; have f3 := MB.fz hb 3; clear hv hf hb)
  have hx5 := HX3.out.put HV4.out HF4.out
  have hf5 := Fr.set4 (S := fun k => k = g) (w := w4) (g := g) rfl (.slice AN4 m1.nodes.length cN4) (.slice AS4 m1.stack.length cS4) (.slice AM4 m1.memo.length cM4) (.bool m1.done)
  have ho5 := hf5.blk (HF4.out.blk HO3.out (fun e => e.2 (.inl (.inr (.inl rfl))))) (by omega)
  have hi5 := HI.out.keep (fun k hk => (hf5.block k (Nat.lt_of_lt_of_le (own_lt HI.out hk) HF4.out.size) (fun e => by subst e; exact own_ne_blk HI.out HX3.out.a.mb (by decide) hk)).trans (HF4.out.block k (own_lt HI.out hk) (fun e => e.2 (.inr hk))))
  have HX5 := As.mk hx5
  have HO5 := As.mk ho5
  have HI5 := As.mk hi5
  clear hx5 hf5 ho5 hi5 c0 c1 c2 c3 e0 e1 e2 e3 f0 f1 f2 f3 HO3 HI
  generalize ((((w4.setCell ⟨g, 0, none⟩ (.slice AN4 m1.nodes.length cN4)).setCell ⟨g, 1, none⟩ (.slice AS4 m1.stack.length cS4)).setCell ⟨g, 2, none⟩ (.slice AM4 m1.memo.length cM4)).setCell ⟨g, 3, none⟩ (.bool m1.done)) = w5 at HX5 HO5 HI5 ⊢
  clear HV4 HF4 HX3
  have HRS := As.mk (show RdI w5 AS4 m1.stack by
    obtain ⟨A', c', hv, _, hr⟩ := IR.rd HX5.out.a.sr (by omega)
    injection hv with e1
    rw [e1]; exact hr)
  obtain ⟨bl, hbl⟩ : ∃ bl, bl = topP m1 0 := ⟨_, rfl⟩
  have HBL := As.mk hbl
  clear hbl
  have c0 := MB.c0 HX5.out.a.mb; have c1 := MB.c1 HX5.out.a.mb; have c2 := MB.c2 HX5.out.a.mb; have c3 := MB.c3 HX5.out.a.mb
  go_upto_region 7 with (go_at_call 173; refine (stop_c _ _ _ _ _ _ _ _ m1 0 w5 HRS.out (by omega)).mono ?_; rw [← HBL.out]; rintro e w6 ⟨rfl, hx⟩; have HX6 := As.mk (HX5.out.ext hx); have HO6 := As.mk (hx.blk HO5.out); have HI6 := As.mk (HI5.out.ext hx); clear hx)
  clear c0 c1 c2 c3 HX5 HO5 HI5 HRS
  have c0 := MB.c0 HX6.out.a.mb; have c1 := MB.c1 HX6.out.a.mb; have c2 := MB.c2 HX6.out.a.mb; have c3 := MB.c3 HX6.out.a.mb
  have o0 : w6.cell? ⟨g + 1, 0, none⟩ = some (.int .i64 12) := by simp [World.cell?, HO6.out]
  rw [HMQ.out, HBL.out.symm] at hk
  obtain ⟨kb, hkb⟩ : ∃ kb, kb = kindP m1 bl := ⟨_, rfl⟩
  rw [← hkb] at hk
  have HKB := As.mk hkb.symm
  have HRN := As.mk (show RdN w6 AN4 m1.nodes by
    obtain ⟨A', c', hv, _, hr⟩ := HX6.out.a.nr.rd (by have := HX6.out.a.nl; omega)
    injection hv with e1
    rw [e1, ← HX6.out.a.ns]; exact hr)
  have HLB := As.mk (show bl < m1.nodes.length by rw [HBL.out]; exact topP_lm HOK1.out 0)
  clear hkb
  go_wp2_with (go_at_call 174; refine (skindOf_c _ _ _ _ _ _ _ _ m1 bl w6 HRN.out HLB.out).mono ?_; rw [HKB.out]; rintro e w7 ⟨rfl, hx7⟩; have HX5 := As.mk (HX6.out.ext hx7); clear hx7; have d0 := MB.c0 HX5.out.r; have d1 := MB.c1 HX5.out.r; have d2 := MB.c2 HX5.out.r; have d3 := MB.c3 HX5.out.r; have f0 := MB.fz HX5.out.r 0; have f1 := MB.fz HX5.out.r 1; have f2 := MB.fz HX5.out.r 2; have f3 := MB.fz HX5.out.r 3; have c0 := MB.c0 HX5.out.a.mb; have c1 := MB.c1 HX5.out.a.mb; have c2 := MB.c2 HX5.out.a.mb; have c3 := MB.c3 HX5.out.a.mb)
  have ho := HX5.out.out
  refine bodyPost_ret (results_cellt rfl _ _ (g + 1 + 1) _ rfl (loadM ho.2.2)) rfl ?_
  exact ⟨_, _, _, _, _, _, _, _, _, _, rfl, ho.2.1, fun _ hm => nomatch hm⟩
set_option maxRecDepth 100000 in
set_option maxHeartbeats 4000000 in
theorem stepMark_9 {B Bd w l vN vS vM m} (h : MW B w l vN vS vM m) (hok : okM Bd m) (hBd : Bd ≤ 900000) (arg : Int) (ht : topN m.stack ≠ m.stack.length) (x : Nat) (hb : topP (drop m (topN m.stack + 1)) 0 = x) (hx : x < m.nodes.length) (hk : (nd m x).kind = 3) :
    Calls Try.prog 148 #[.agg #[vN, vS, vM, .bool m.done], .agg #[.int .i64 9, .int .i64 arg]] w (StepX B (some (setKids (drop m (topN m.stack + 1)) x ((nd m x).kids ++ m.stack.drop (m.stack.length - topN m.stack)))) w) := by
  have hql := topN_le m.stack
  obtain ⟨q, hq⟩ : ∃ q, q = topN m.stack := ⟨_, rfl⟩
  have hqn : q + 1 ≤ m.stack.length := by omega
  have HMK := As.mk (show markP m = (m.stack.length - 1 - q : Nat) by unfold markP; rw [if_neg ht, ← hq]; omega)
  obtain ⟨p, hp⟩ : ∃ p, p = m.stack.length - 1 - q := ⟨_, rfl⟩
  rw [← hp] at HMK
  obtain ⟨list, hlist⟩ : ∃ list, list = m.stack.drop (m.stack.length - q) := ⟨_, rfl⟩
  have HLS := As.mk (show list = m.stack.drop (p + 1) by rw [hlist]; congr 1; omega)
  have hlq : list.length = q := by rw [hlist, List.length_drop]; omega
  have hin : ∀ x ∈ list, 0 ≤ x ∧ x < m.nodes.length := by rw [hlist, hq]; exact hok.top _ (Nat.le_refl _)
  have HIN := As.mk hin
  have HMD := As.mk (show drop m (topN m.stack + 1) = drop m (list.length + 1) by rw [hlq, hq])
  have HLD := As.mk (show m.stack.drop (m.stack.length - topN m.stack) = list by rw [hlist, hq])
  have hln : list.length + 1 ≤ m.stack.length := by omega
  have hpl : p + 1 ≤ m.stack.length := by omega
  clear hq hqn hp hlist hlq hin ht hql
  obtain ⟨AN, cN, AS, cS, AM, cM, rfl, rfl, rfl, hrm, hcS⟩ := h.rm (by have := hok.nl; omega) (by have := hok.sl; omega) (by have := hok.ml; omega)
  have HX := As.mk (h.box (W := ((w.alloc (.cells #[.slice AN m.nodes.length cN, .slice AS m.stack.length cS, .slice AM m.memo.length cM, .bool m.done] 64)).alloc (.cells #[.int .i64 9, .int .i64 arg] 82)).alloc (.cells #[.slice none 0 0, .slice none 0 0, .slice none 0 0, .bool false] 64)) (fun k => k = w.heap.size ∨ k = w.heap.size + 1 ∨ k = w.heap.size + 1 + 1) (g := w.heap.size) (g2 := w.heap.size + 1 + 1) ((((Ext.rf w).al _).al _).al _) (((((Ext.rf _).al _)).al _).blk (al_new _ _)) (by have := al_new ((w.alloc (.cells #[.slice AN m.nodes.length cN, .slice AS m.stack.length cS, .slice AM m.memo.length cM, .bool m.done] 64)).alloc (.cells #[.int .i64 9, .int .i64 arg] 82)) (.cells #[.slice none 0 0, .slice none 0 0, .slice none 0 0, .bool false] 64); rw [al_size, al_size] at this; exact this) (.inl rfl) (.inr (.inr rfl)) (by omega) (fun k hk => by rw [al_size, al_size, al_size]; omega))
  have HO := As.mk (show (((w.alloc (.cells #[.slice AN m.nodes.length cN, .slice AS m.stack.length cS, .slice AM m.memo.length cM, .bool m.done] 64)).alloc (.cells #[.int .i64 9, .int .i64 arg] 82)).alloc (.cells #[.slice none 0 0, .slice none 0 0, .slice none 0 0, .bool false] 64)).heap[w.heap.size + 1]? = some (.cells #[.int .i64 9, .int .i64 arg] 82 (0, 0)) from by have := ((Ext.rf _).al (.cells #[.slice none 0 0, .slice none 0 0, .slice none 0 0, .bool false] 64)).blk (al_new (w.alloc (.cells #[.slice AN m.nodes.length cN, .slice AS m.stack.length cS, .slice AM m.memo.length cM, .bool m.done] 64)) (.cells #[.int .i64 9, .int .i64 arg] 82)); rw [al_size] at this; exact this)
  have HRM := As.mk (RdI.ext hrm.s ((((Ext.rf w).al (.cells #[.slice AN m.nodes.length cN, .slice AS m.stack.length cS, .slice AM m.memo.length cM, .bool m.done] 64)).al (.cells #[.int .i64 9, .int .i64 arg] 82)).al (.cells #[.slice none 0 0, .slice none 0 0, .slice none 0 0, .bool false] 64)))
  have HOK := As.mk hok
  have q1 := hok.nl
  have q2 := hok.sl
  have q3 : m.memo.length ≤ 1000000 := by have := hok.ml; omega
  clear h hrm hok
  go_enter Try.func148, Try.ntmps148
  go_upto_region 1 with fail
  obtain ⟨w1, hw1⟩ : ∃ w1, w1 = ((w.alloc (.cells #[.slice AN m.nodes.length cN, .slice AS m.stack.length cS, .slice AM m.memo.length cM, .bool m.done] 64)).alloc (.cells #[.int .i64 9, .int .i64 arg] 82)).alloc (.cells #[.slice none 0 0, .slice none 0 0, .slice none 0 0, .bool false] 64) := ⟨_, rfl⟩
  rw [← hw1] at HX HO HRM ⊢
  clear hw1
  obtain ⟨g, hg⟩ : ∃ g, g = w.heap.size := ⟨_, rfl⟩
  rw [← hg] at HX HO ⊢
  clear hg
  have c0 := MB.c0 HX.out.a.mb; have c1 := MB.c1 HX.out.a.mb; have c2 := MB.c2 HX.out.a.mb; have c3 := MB.c3 HX.out.a.mb
  obtain ⟨A1, s1, s2⟩ := slice_fromA AS cS m.stack list p HLS.out hpl hcS
  have r1 := s2 w1 HRM.out
  have HR1 := As.mk r1
  clear s2 r1
  obtain ⟨m1, hm1⟩ : ∃ m1, m1 = drop m (list.length + 1) := ⟨_, rfl⟩
  have HM1 := As.mk hm1.symm
  have HMQ := As.mk (show drop m (topN m.stack + 1) = m1 by rw [hm1, HMD.out])
  have hok1 : okM Bd m1 := by rw [hm1]; exact HOK.out.drop _
  have HOK1 := As.mk hok1
  have p1 := hok1.nl
  have p2 := hok1.sl
  have p3 : m1.memo.length ≤ 1000000 := by have := hok1.ml; omega
  have HMN := As.mk (show m1.nodes = m.nodes by rw [hm1]; rfl)
  clear hm1 hok1
  go_upto_region 2 with (go_at_call 171; refine (markAt_c _ _ _ _ _ _ _ _ m w1 HRM.out (by omega)).mono ?_; rw [HMK.out]; rintro e w2 ⟨rfl, hx⟩; have HE2 := As.mk hx; clear hx)
  have c1 := HE2.out.cellOf c1
  go_upto_region 5 with (go_at_call 132; refine (copyInts_c _ _ _ _ (HR1.out.ext HE2.out)).mono ?_; rintro e w3 ⟨A2, cL, rfl, hI, he, hf⟩; have HI := As.mk hI; have HE3 := As.mk (HE2.out.trans he); have HFR := As.mk hf; have hx3 := (HX.out.ext HE2.out).more he (fun k => (Value.slice A2 list.length cL).ownBlock = some k) (fun k hk => ⟨hf k hk, own_lt hI hk⟩); have HX3 := As.mk hx3; clear hI he hf hx3)
  have ho3 := HE3.out.blk HO.out
  have HO3 := As.mk ho3
  clear c0 c1 c2 c3 s1 HX HO HE2 HE3 HRM HR1 ho3
  have c0 := MB.c0 HX3.out.a.mb; have c1 := MB.c1 HX3.out.a.mb; have c2 := MB.c2 HX3.out.a.mb; have c3 := MB.c3 HX3.out.a.mb
  go_upto_region 6 with (go_at_call 172; refine (sdrop_c HX3.out.mw (list.length + 1) hln (by omega) (by omega) (by omega)).mono ?_; rw [HM1.out]; rintro e w4 ⟨l4, vN4, vS4, vM4, rfl, hv, hf⟩; obtain ⟨AN4, cN4, AS4, cS4, AM4, cM4, rfl, rfl, rfl, -, -⟩ := hv.rm (by omega) (by omega) p3; have HV4 := As.mk hv; have HF4 := As.mk hf; have hb := hf.blk HX3.out.a.mb (fun e => e.2 HX3.out.xg); have e0 := MB.c0 hb; have e1 := MB.c1 hb; have e2 := MB.c2 hb; have e3 := MB.c3 hb; have f0 := MB.fz hb 0; have f1 := MB.fz hb 1; have f2 := MB.fz hb 2; have f3 := MB.fz hb 3; clear hv hf hb)
  have hx5 := HX3.out.put HV4.out HF4.out
  have hf5 := Fr.set4 (S := fun k => k = g) (w := w4) (g := g) rfl (.slice AN4 m1.nodes.length cN4) (.slice AS4 m1.stack.length cS4) (.slice AM4 m1.memo.length cM4) (.bool m1.done)
  have ho5 := hf5.blk (HF4.out.blk HO3.out (fun e => e.2 (.inl (.inr (.inl rfl))))) (by omega)
  have hi5 := HI.out.keep (fun k hk => (hf5.block k (Nat.lt_of_lt_of_le (own_lt HI.out hk) HF4.out.size) (fun e => by subst e; exact own_ne_blk HI.out HX3.out.a.mb (by decide) hk)).trans (HF4.out.block k (own_lt HI.out hk) (fun e => e.2 (.inr hk))))
  have HX5 := As.mk hx5
  have HO5 := As.mk ho5
  have HI5 := As.mk hi5
  clear hx5 hf5 ho5 hi5 c0 c1 c2 c3 e0 e1 e2 e3 f0 f1 f2 f3 HO3 HI
  generalize ((((w4.setCell ⟨g, 0, none⟩ (.slice AN4 m1.nodes.length cN4)).setCell ⟨g, 1, none⟩ (.slice AS4 m1.stack.length cS4)).setCell ⟨g, 2, none⟩ (.slice AM4 m1.memo.length cM4)).setCell ⟨g, 3, none⟩ (.bool m1.done)) = w5 at HX5 HO5 HI5 ⊢
  clear HV4 HF4 HX3
  have HRS := As.mk (show RdI w5 AS4 m1.stack by
    obtain ⟨A', c', hv, _, hr⟩ := IR.rd HX5.out.a.sr (by omega)
    injection hv with e1
    rw [e1]; exact hr)
  obtain ⟨bl, hbl⟩ : ∃ bl, bl = topP m1 0 := ⟨_, rfl⟩
  have HBL := As.mk hbl
  clear hbl
  have c0 := MB.c0 HX5.out.a.mb; have c1 := MB.c1 HX5.out.a.mb; have c2 := MB.c2 HX5.out.a.mb; have c3 := MB.c3 HX5.out.a.mb
  go_upto_region 7 with (go_at_call 173; refine (stop_c _ _ _ _ _ _ _ _ m1 0 w5 HRS.out (by omega)).mono ?_; rw [← HBL.out]; rintro e w6 ⟨rfl, hx⟩; have HX6 := As.mk (HX5.out.ext hx); have HO6 := As.mk (hx.blk HO5.out); have HI6 := As.mk (HI5.out.ext hx); clear hx)
  clear c0 c1 c2 c3 HX5 HO5 HI5 HRS
  have c0 := MB.c0 HX6.out.a.mb; have c1 := MB.c1 HX6.out.a.mb; have c2 := MB.c2 HX6.out.a.mb; have c3 := MB.c3 HX6.out.a.mb
  have o0 : w6.cell? ⟨g + 1, 0, none⟩ = some (.int .i64 9) := by simp [World.cell?, HO6.out]
  have hx1 : x < m1.nodes.length := by rw [HMN.out]; exact hx
  have hndm : nd m1 x = nd m x := by unfold nd; rw [HMN.out]
  have HNDM := As.mk hndm
  have HKP := As.mk (show kindP m1 x = 3 by unfold kindP; rw [if_neg (by omega), hndm, hk])
  have hbx : bl = x := by rw [HBL.out, ← HMQ.out, hb]
  subst hbx
  have hdl : x < l4.length := by rw [← HX6.out.a.nl]; exact hx1
  have hld : l4[x].1 = m1.nodes[x] := by
    have : (l4.map Prod.fst)[x]'(by rw [List.length_map]; exact hdl) = m1.nodes[x] := by simp only [HX6.out.a.ns]
    rwa [List.getElem_map] at this
  have hnd : nd m1 x = m1.nodes[x] := by
    unfold nd
    rw [Int.toNat_natCast, List.getD_eq_getElem?_getD, List.getElem?_eq_getElem hx1]; rfl
  obtain ⟨kids, hkids⟩ : ∃ kids, kids = (nd m1 x).kids := ⟨_, rfl⟩
  have hki := HOK1.out.ki _ (List.getElem_mem hx1)
  rw [← hnd, ← hkids] at hki
  have hkb : kids.length ≤ 1000000 := Nat.le_trans (Nat.le_trans hki.1 hBd) (by decide)
  have HKI := As.mk (show (∀ z ∈ kids, 0 ≤ z ∧ z < m1.nodes.length) ∧ ((nd m1 x).kind = 4 → kids.length % 2 = 0) from hki.2)
  have HL1 := As.mk (show l4[x].1.kids = kids by rw [hld, hkids, hnd])
  have HKD := As.mk (show kids = (nd m x).kids by rw [hkids, hndm])
  have q4 : (x : Int) < m1.nodes.length := by omega
  have q5 : (0 : Int) ≤ x := by omega
  have HND1 := As.mk hnd
  have HKM := As.mk hkids
  clear hk hb hndm hld hnd hkids hki
  have HRN := As.mk (show RdN w6 AN4 m1.nodes by
    obtain ⟨A', c', hv, _, hr⟩ := HX6.out.a.nr.rd (by have := HX6.out.a.nl; omega)
    injection hv with e1
    rw [e1, ← HX6.out.a.ns]; exact hr)
  go_upto_region 13 with (go_at_call 174; refine (skindOf_c _ _ _ _ _ _ _ _ m1 x w6 HRN.out (by omega)).mono ?_; rw [HKP.out]; rintro e w7 ⟨rfl, hx7⟩; have HX7 := As.mk (HX6.out.ext hx7); have HI7 := As.mk (HI6.out.ext hx7); have HRN7 := As.mk (HRN.out.ext hx7); clear hx7; have c0 := MB.c0 HX7.out.a.mb; have c1 := MB.c1 HX7.out.a.mb; have c2 := MB.c2 HX7.out.a.mb; have c3 := MB.c3 HX7.out.a.mb)
  clear HX6 HRN
  obtain ⟨gN, cN', hv, _, _⟩ := HX7.out.a.hd (by omega) (by omega)
  injection hv with hv1 hv2 hv3
  subst hv1 hv3
  obtain ⟨hk2, K, cK, hkk, hkc, -⟩ := HX7.out.a.kid x hdl
  rw [HL1.out] at hkk hkc
  rw [hkk] at hk2
  have HKK := As.mk hkk
  have hIK : IR w7 (.slice K kids.length cK) kids := by
    have := (HX7.out.a.nr.2 _ (List.getElem_mem hdl)).1
    rwa [HKK.out, HL1.out] at this
  have HIK := As.mk hIK
  have HRL := As.mk (show RdI w7 A2 list by
    obtain ⟨A', c', hv, _, hr⟩ := IR.rd HI7.out (by omega)
    injection hv with e1
    rw [e1]; exact hr)
  clear hIK hkk c1 c2 c3 o0
  refine region_perm (fun w' => w'.cell? ⟨g, 0, none⟩ = some (.slice (some ⟨gN, 0, none⟩) m1.nodes.length cN4) ∧ w'.cell? ⟨gN, x * 3 + 2, none⟩ = some (.slice K kids.length cK)) [13] [(0, 0), (1, 1), (2, 0), (3, 0), (4, 1), (5, 0), (6, 0), (7, 0), (8, 1), (9, 0), (10, 2), (11, 0), (12, 0), (13, 3)] (by kernel_rfl) (by kernel_rfl) rfl (by kernel_rfl) (fun _ _ _ _ h => h) ?_
  have hS := And.intro c0 hk2
  repeat (first | refine wpP.c0 (h := ?_) | refine wpP.c1 (w := w7.drew) hS (h := ?_))
  refine wpP.ev (h := fun Kv hKv => ?_)
  have HE8 := As.mk ((Ext.rf w7).dr)
  generalize w7.drew = w8 at HE8 ⊢
  go_wp2_with ((at_builtin; refine app_intsA rfl _ _ rfl (.slice K kids.length cK) kids A2 list.length cL list rfl rfl rfl (HRL.out.ext HE8.out) (HIK.out.ext HE8.out) (by omega) ?_; intro A3 e3 w9 hap; have HAP := As.mk hap; clear hap))
  have HX8 := As.mk (HX7.out.ext HE8.out)
  have hap : AppS l4[x].2 l4[x].1.kids (l4[x].1.kids ++ list) w8 A3 e3 w9 := by rw [HL1.out, HKK.out]; exact HAP.out
  have hgr := HX8.out.a.grow x hdl list A3 e3 hap (by rw [HL1.out]; simp; omega)
  have hm4 := HX8.out.a.app l4[x] (List.getElem_mem hdl) hap.2.1 hap.2.2.2
  have e0 := MB.c0 hm4.mb
  have x4 := (hm4.kid x hdl).1
  rw [HKK.out] at x4
  have z4 := own_fz hm4.nr.1 (x * 3 + 2)
  have hx5 := HX8.out.to hgr.1 (HX8.out.foot hgr.2)
  have hl2 : (kids ++ list).length = kids.length + list.length := by simp
  rw [HL1.out, hl2] at hx5
  refine hKv.out _ _ ⟨e0, x4⟩ ?_
  clear hKv Kv
  have HX5 := As.mk hx5
  clear hgr hm4 hx5 hap c0 hk2 hl2
  repeat (first | refine wpP.c0 (h := ?_))
  refine wpP.last (h := fun Kv hKv => ?_)
  go_wp2_with fail
  refine hKv.out _ _ (wpP.done ?_)
  clear hKv Kv e0 x4 z4 HX7 HX8 hS
  generalize (w9.setCell ⟨gN, x * 3 + 2, none⟩ (.slice A3 (kids.length + list.length) e3)) = wA at HX5 ⊢
  have d0 := MB.c0 HX5.out.r; have d1 := MB.c1 HX5.out.r; have d2 := MB.c2 HX5.out.r; have d3 := MB.c3 HX5.out.r
  have f0 := MB.fz HX5.out.r 0; have f1 := MB.fz HX5.out.r 1; have f2 := MB.fz HX5.out.r 2; have f3 := MB.fz HX5.out.r 3
  have c0 := MB.c0 HX5.out.a.mb; have c1 := MB.c1 HX5.out.a.mb; have c2 := MB.c2 HX5.out.a.mb; have c3 := MB.c3 HX5.out.a.mb
  go_wp2_with fail
  have ho := HX5.out.out
  refine bodyPost_ret (results_cellt rfl _ _ (g + 1 + 1) _ rfl (loadM ho.2.2)) rfl ?_
  refine ⟨_, _, _, _, _, _, _, _, _, _, rfl, ho.2.1, fun m' hm => ?_⟩
  rw [HMQ.out, HLD.out, ← HKD.out] at hm
  injection hm with hm
  subst hm
  exact ⟨rfl, _, ho.1⟩
set_option maxRecDepth 100000 in
set_option maxHeartbeats 4000000 in
theorem stepMark_12k {B Bd w l vN vS vM m} (h : MW B w l vN vS vM m) (hok : okM Bd m) (hBd : Bd ≤ 900000) (arg : Int) (ht : topN m.stack ≠ m.stack.length) (x : Nat) (hb : topP (drop m (topN m.stack + 1)) 0 = x) (hx : x < m.nodes.length) (hk : (nd m x).kind = 4) (hkz : ∀ n ∈ m.nodes, 0 ≤ n.kind) (hgk : goodK m.nodes (m.stack.drop (m.stack.length - topN m.stack)) = false) :
    Calls Try.prog 148 #[.agg #[vN, vS, vM, .bool m.done], .agg #[.int .i64 12, .int .i64 arg]] w (StepX B (none) w) := by
  have hql := topN_le m.stack
  obtain ⟨q, hq⟩ : ∃ q, q = topN m.stack := ⟨_, rfl⟩
  have hqn : q + 1 ≤ m.stack.length := by omega
  have HMK := As.mk (show markP m = (m.stack.length - 1 - q : Nat) by unfold markP; rw [if_neg ht, ← hq]; omega)
  obtain ⟨p, hp⟩ : ∃ p, p = m.stack.length - 1 - q := ⟨_, rfl⟩
  rw [← hp] at HMK
  obtain ⟨list, hlist⟩ : ∃ list, list = m.stack.drop (m.stack.length - q) := ⟨_, rfl⟩
  have HLS := As.mk (show list = m.stack.drop (p + 1) by rw [hlist]; congr 1; omega)
  have hlq : list.length = q := by rw [hlist, List.length_drop]; omega
  have hin : ∀ x ∈ list, 0 ≤ x ∧ x < m.nodes.length := by rw [hlist, hq]; exact hok.top _ (Nat.le_refl _)
  have HIN := As.mk hin
  have HMD := As.mk (show drop m (topN m.stack + 1) = drop m (list.length + 1) by rw [hlq, hq])
  have HLD := As.mk (show m.stack.drop (m.stack.length - topN m.stack) = list by rw [hlist, hq])
  have hln : list.length + 1 ≤ m.stack.length := by omega
  have hpl : p + 1 ≤ m.stack.length := by omega
  clear hq hqn hp hlist hlq hin ht hql
  obtain ⟨AN, cN, AS, cS, AM, cM, rfl, rfl, rfl, hrm, hcS⟩ := h.rm (by have := hok.nl; omega) (by have := hok.sl; omega) (by have := hok.ml; omega)
  have HX := As.mk (h.box (W := ((w.alloc (.cells #[.slice AN m.nodes.length cN, .slice AS m.stack.length cS, .slice AM m.memo.length cM, .bool m.done] 64)).alloc (.cells #[.int .i64 12, .int .i64 arg] 82)).alloc (.cells #[.slice none 0 0, .slice none 0 0, .slice none 0 0, .bool false] 64)) (fun k => k = w.heap.size ∨ k = w.heap.size + 1 ∨ k = w.heap.size + 1 + 1) (g := w.heap.size) (g2 := w.heap.size + 1 + 1) ((((Ext.rf w).al _).al _).al _) (((((Ext.rf _).al _)).al _).blk (al_new _ _)) (by have := al_new ((w.alloc (.cells #[.slice AN m.nodes.length cN, .slice AS m.stack.length cS, .slice AM m.memo.length cM, .bool m.done] 64)).alloc (.cells #[.int .i64 12, .int .i64 arg] 82)) (.cells #[.slice none 0 0, .slice none 0 0, .slice none 0 0, .bool false] 64); rw [al_size, al_size] at this; exact this) (.inl rfl) (.inr (.inr rfl)) (by omega) (fun k hk => by rw [al_size, al_size, al_size]; omega))
  have HO := As.mk (show (((w.alloc (.cells #[.slice AN m.nodes.length cN, .slice AS m.stack.length cS, .slice AM m.memo.length cM, .bool m.done] 64)).alloc (.cells #[.int .i64 12, .int .i64 arg] 82)).alloc (.cells #[.slice none 0 0, .slice none 0 0, .slice none 0 0, .bool false] 64)).heap[w.heap.size + 1]? = some (.cells #[.int .i64 12, .int .i64 arg] 82 (0, 0)) from by have := ((Ext.rf _).al (.cells #[.slice none 0 0, .slice none 0 0, .slice none 0 0, .bool false] 64)).blk (al_new (w.alloc (.cells #[.slice AN m.nodes.length cN, .slice AS m.stack.length cS, .slice AM m.memo.length cM, .bool m.done] 64)) (.cells #[.int .i64 12, .int .i64 arg] 82)); rw [al_size] at this; exact this)
  have HRM := As.mk (RdI.ext hrm.s ((((Ext.rf w).al (.cells #[.slice AN m.nodes.length cN, .slice AS m.stack.length cS, .slice AM m.memo.length cM, .bool m.done] 64)).al (.cells #[.int .i64 12, .int .i64 arg] 82)).al (.cells #[.slice none 0 0, .slice none 0 0, .slice none 0 0, .bool false] 64)))
  have HOK := As.mk hok
  have q1 := hok.nl
  have q2 := hok.sl
  have q3 : m.memo.length ≤ 1000000 := by have := hok.ml; omega
  clear h hrm hok
  go_enter Try.func148, Try.ntmps148
  go_upto_region 1 with fail
  obtain ⟨w1, hw1⟩ : ∃ w1, w1 = ((w.alloc (.cells #[.slice AN m.nodes.length cN, .slice AS m.stack.length cS, .slice AM m.memo.length cM, .bool m.done] 64)).alloc (.cells #[.int .i64 12, .int .i64 arg] 82)).alloc (.cells #[.slice none 0 0, .slice none 0 0, .slice none 0 0, .bool false] 64) := ⟨_, rfl⟩
  rw [← hw1] at HX HO HRM ⊢
  clear hw1
  obtain ⟨g, hg⟩ : ∃ g, g = w.heap.size := ⟨_, rfl⟩
  rw [← hg] at HX HO ⊢
  clear hg
  have c0 := MB.c0 HX.out.a.mb; have c1 := MB.c1 HX.out.a.mb; have c2 := MB.c2 HX.out.a.mb; have c3 := MB.c3 HX.out.a.mb
  obtain ⟨A1, s1, s2⟩ := slice_fromA AS cS m.stack list p HLS.out hpl hcS
  have r1 := s2 w1 HRM.out
  have HR1 := As.mk r1
  clear s2 r1
  obtain ⟨m1, hm1⟩ : ∃ m1, m1 = drop m (list.length + 1) := ⟨_, rfl⟩
  have HM1 := As.mk hm1.symm
  have HMQ := As.mk (show drop m (topN m.stack + 1) = m1 by rw [hm1, HMD.out])
  have hok1 : okM Bd m1 := by rw [hm1]; exact HOK.out.drop _
  have HOK1 := As.mk hok1
  have p1 := hok1.nl
  have p2 := hok1.sl
  have p3 : m1.memo.length ≤ 1000000 := by have := hok1.ml; omega
  have HMN := As.mk (show m1.nodes = m.nodes by rw [hm1]; rfl)
  clear hm1 hok1
  go_upto_region 2 with (go_at_call 171; refine (markAt_c _ _ _ _ _ _ _ _ m w1 HRM.out (by omega)).mono ?_; rw [HMK.out]; rintro e w2 ⟨rfl, hx⟩; have HE2 := As.mk hx; clear hx)
  have c1 := HE2.out.cellOf c1
  go_upto_region 5 with (go_at_call 132; refine (copyInts_c _ _ _ _ (HR1.out.ext HE2.out)).mono ?_; rintro e w3 ⟨A2, cL, rfl, hI, he, hf⟩; have HI := As.mk hI; have HE3 := As.mk (HE2.out.trans he); have HFR := As.mk hf; have hx3 := (HX.out.ext HE2.out).more he (fun k => (Value.slice A2 list.length cL).ownBlock = some k) (fun k hk => ⟨hf k hk, own_lt hI hk⟩); have HX3 := As.mk hx3; clear hI he hf hx3)
  have ho3 := HE3.out.blk HO.out
  have HO3 := As.mk ho3
  clear c0 c1 c2 c3 s1 HX HO HE2 HE3 HRM HR1 ho3
  have c0 := MB.c0 HX3.out.a.mb; have c1 := MB.c1 HX3.out.a.mb; have c2 := MB.c2 HX3.out.a.mb; have c3 := MB.c3 HX3.out.a.mb
  go_upto_region 6 with (go_at_call 172; refine (sdrop_c HX3.out.mw (list.length + 1) hln (by omega) (by omega) (by omega)).mono ?_; rw [HM1.out]; rintro e w4 ⟨l4, vN4, vS4, vM4, rfl, hv, hf⟩; obtain ⟨AN4, cN4, AS4, cS4, AM4, cM4, rfl, rfl, rfl, -, -⟩ := hv.rm (by omega) (by omega) p3; have HV4 := As.mk hv; have HF4 := As.mk hf; have hb := hf.blk HX3.out.a.mb (fun e => e.2 HX3.out.xg); have e0 := MB.c0 hb; have e1 := MB.c1 hb; have e2 := MB.c2 hb; have e3 := MB.c3 hb; have f0 := MB.fz hb 0; have f1 := MB.fz hb 1; have f2 := MB.fz hb 2; have f3 := MB.fz hb 3; clear hv hf hb)
  have hx5 := HX3.out.put HV4.out HF4.out
  have hf5 := Fr.set4 (S := fun k => k = g) (w := w4) (g := g) rfl (.slice AN4 m1.nodes.length cN4) (.slice AS4 m1.stack.length cS4) (.slice AM4 m1.memo.length cM4) (.bool m1.done)
  have ho5 := hf5.blk (HF4.out.blk HO3.out (fun e => e.2 (.inl (.inr (.inl rfl))))) (by omega)
  have hi5 := HI.out.keep (fun k hk => (hf5.block k (Nat.lt_of_lt_of_le (own_lt HI.out hk) HF4.out.size) (fun e => by subst e; exact own_ne_blk HI.out HX3.out.a.mb (by decide) hk)).trans (HF4.out.block k (own_lt HI.out hk) (fun e => e.2 (.inr hk))))
  have HX5 := As.mk hx5
  have HO5 := As.mk ho5
  have HI5 := As.mk hi5
  clear hx5 hf5 ho5 hi5 c0 c1 c2 c3 e0 e1 e2 e3 f0 f1 f2 f3 HO3 HI
  generalize ((((w4.setCell ⟨g, 0, none⟩ (.slice AN4 m1.nodes.length cN4)).setCell ⟨g, 1, none⟩ (.slice AS4 m1.stack.length cS4)).setCell ⟨g, 2, none⟩ (.slice AM4 m1.memo.length cM4)).setCell ⟨g, 3, none⟩ (.bool m1.done)) = w5 at HX5 HO5 HI5 ⊢
  clear HV4 HF4 HX3
  have HRS := As.mk (show RdI w5 AS4 m1.stack by
    obtain ⟨A', c', hv, _, hr⟩ := IR.rd HX5.out.a.sr (by omega)
    injection hv with e1
    rw [e1]; exact hr)
  obtain ⟨bl, hbl⟩ : ∃ bl, bl = topP m1 0 := ⟨_, rfl⟩
  have HBL := As.mk hbl
  clear hbl
  have c0 := MB.c0 HX5.out.a.mb; have c1 := MB.c1 HX5.out.a.mb; have c2 := MB.c2 HX5.out.a.mb; have c3 := MB.c3 HX5.out.a.mb
  go_upto_region 7 with (go_at_call 173; refine (stop_c _ _ _ _ _ _ _ _ m1 0 w5 HRS.out (by omega)).mono ?_; rw [← HBL.out]; rintro e w6 ⟨rfl, hx⟩; have HX6 := As.mk (HX5.out.ext hx); have HO6 := As.mk (hx.blk HO5.out); have HI6 := As.mk (HI5.out.ext hx); clear hx)
  clear c0 c1 c2 c3 HX5 HO5 HI5 HRS
  have c0 := MB.c0 HX6.out.a.mb; have c1 := MB.c1 HX6.out.a.mb; have c2 := MB.c2 HX6.out.a.mb; have c3 := MB.c3 HX6.out.a.mb
  have o0 : w6.cell? ⟨g + 1, 0, none⟩ = some (.int .i64 12) := by simp [World.cell?, HO6.out]
  have hx1 : x < m1.nodes.length := by rw [HMN.out]; exact hx
  have hndm : nd m1 x = nd m x := by unfold nd; rw [HMN.out]
  have HNDM := As.mk hndm
  have HKP := As.mk (show kindP m1 x = 4 by unfold kindP; rw [if_neg (by omega), hndm, hk])
  have hbx : bl = x := by rw [HBL.out, ← HMQ.out, hb]
  subst hbx
  have hdl : x < l4.length := by rw [← HX6.out.a.nl]; exact hx1
  have hld : l4[x].1 = m1.nodes[x] := by
    have : (l4.map Prod.fst)[x]'(by rw [List.length_map]; exact hdl) = m1.nodes[x] := by simp only [HX6.out.a.ns]
    rwa [List.getElem_map] at this
  have hnd : nd m1 x = m1.nodes[x] := by
    unfold nd
    rw [Int.toNat_natCast, List.getD_eq_getElem?_getD, List.getElem?_eq_getElem hx1]; rfl
  obtain ⟨kids, hkids⟩ : ∃ kids, kids = (nd m1 x).kids := ⟨_, rfl⟩
  have hki := HOK1.out.ki _ (List.getElem_mem hx1)
  rw [← hnd, ← hkids] at hki
  have hkb : kids.length ≤ 1000000 := Nat.le_trans (Nat.le_trans hki.1 hBd) (by decide)
  have HKI := As.mk (show (∀ z ∈ kids, 0 ≤ z ∧ z < m1.nodes.length) ∧ ((nd m1 x).kind = 4 → kids.length % 2 = 0) from hki.2)
  have HL1 := As.mk (show l4[x].1.kids = kids by rw [hld, hkids, hnd])
  have HKD := As.mk (show kids = (nd m x).kids by rw [hkids, hndm])
  have q4 : (x : Int) < m1.nodes.length := by omega
  have q5 : (0 : Int) ≤ x := by omega
  have HND1 := As.mk hnd
  have HKM := As.mk hkids
  clear hk hb hndm hld hnd hkids hki
  have HRN := As.mk (show RdN w6 AN4 m1.nodes by
    obtain ⟨A', c', hv, _, hr⟩ := HX6.out.a.nr.rd (by have := HX6.out.a.nl; omega)
    injection hv with e1
    rw [e1, ← HX6.out.a.ns]; exact hr)
  have HIN1 := As.mk (show ∀ z ∈ list, 0 ≤ z ∧ z < m1.nodes.length by rw [HMN.out]; exact HIN.out)
  have HKZ := As.mk (show ∀ n ∈ m1.nodes, 0 ≤ n.kind by rw [HMN.out]; exact hkz)
  have HGK := As.mk (show goodK m1.nodes list = false by rw [HMN.out, ← HLD.out]; exact hgk)
  clear hkz hgk
  go_wp2_with (first | (go_at_call 174; refine (skindOf_c _ _ _ _ _ _ _ _ m1 x w6 HRN.out (by omega)).mono ?_; rw [HKP.out]; rintro e w7 ⟨rfl, hx7⟩; have HX7 := As.mk (HX6.out.ext hx7); have HI7 := As.mk (HI6.out.ext hx7); have HRN7 := As.mk (HRN.out.ext hx7); clear hx7; have c0 := MB.c0 HX7.out.a.mb; have c1 := MB.c1 HX7.out.a.mb; have c2 := MB.c2 HX7.out.a.mb; have c3 := MB.c3 HX7.out.a.mb; have HRL := As.mk (show RdI w7 A2 list by { obtain ⟨A', c', hv, _, hr⟩ := IR.rd HI7.out (by omega); injection hv with e1; rw [e1]; exact hr })) | (go_at_call 175; refine (sgoodKeys_c _ _ _ _ _ _ _ _ m1 _ _ list.length list _ HRN7.out HRL.out rfl (by omega) HIN1.out HKZ.out).mono ?_; rw [HGK.out]; rintro e w8 ⟨rfl, hx8⟩; have HX8 := As.mk (HX7.out.ext hx8); have HI8 := As.mk (HI7.out.ext hx8); clear hx8; have d0 := MB.c0 HX8.out.r; have d1 := MB.c1 HX8.out.r; have d2 := MB.c2 HX8.out.r; have d3 := MB.c3 HX8.out.r; have f0 := MB.fz HX8.out.r 0; have f1 := MB.fz HX8.out.r 1; have f2 := MB.fz HX8.out.r 2; have f3 := MB.fz HX8.out.r 3; have c0 := MB.c0 HX8.out.a.mb; have c1 := MB.c1 HX8.out.a.mb; have c2 := MB.c2 HX8.out.a.mb; have c3 := MB.c3 HX8.out.a.mb))
  have ho := HX8.out.out
  refine bodyPost_ret (results_cellt rfl _ _ (g + 1 + 1) _ rfl (loadM ho.2.2)) rfl ?_
  exact ⟨_, _, _, _, _, _, _, _, _, _, rfl, ho.2.1, fun _ hm => nomatch hm⟩
set_option maxRecDepth 100000 in
set_option maxHeartbeats 4000000 in
theorem stepMark_12 {B Bd w l vN vS vM m} (h : MW B w l vN vS vM m) (hok : okM Bd m) (hBd : Bd ≤ 900000) (arg : Int) (ht : topN m.stack ≠ m.stack.length) (x : Nat) (hb : topP (drop m (topN m.stack + 1)) 0 = x) (hx : x < m.nodes.length) (hk : (nd m x).kind = 4) (hkz : ∀ n ∈ m.nodes, 0 ≤ n.kind) (hgk : goodK m.nodes (m.stack.drop (m.stack.length - topN m.stack)) = true) :
    Calls Try.prog 148 #[.agg #[vN, vS, vM, .bool m.done], .agg #[.int .i64 12, .int .i64 arg]] w (StepX B (some (setKids (drop m (topN m.stack + 1)) x (putAll m.nodes (nd m x).kids (m.stack.drop (m.stack.length - topN m.stack))))) w) := by
  have hql := topN_le m.stack
  obtain ⟨q, hq⟩ : ∃ q, q = topN m.stack := ⟨_, rfl⟩
  have hqn : q + 1 ≤ m.stack.length := by omega
  have HMK := As.mk (show markP m = (m.stack.length - 1 - q : Nat) by unfold markP; rw [if_neg ht, ← hq]; omega)
  obtain ⟨p, hp⟩ : ∃ p, p = m.stack.length - 1 - q := ⟨_, rfl⟩
  rw [← hp] at HMK
  obtain ⟨list, hlist⟩ : ∃ list, list = m.stack.drop (m.stack.length - q) := ⟨_, rfl⟩
  have HLS := As.mk (show list = m.stack.drop (p + 1) by rw [hlist]; congr 1; omega)
  have hlq : list.length = q := by rw [hlist, List.length_drop]; omega
  have hin : ∀ x ∈ list, 0 ≤ x ∧ x < m.nodes.length := by rw [hlist, hq]; exact hok.top _ (Nat.le_refl _)
  have HIN := As.mk hin
  have HMD := As.mk (show drop m (topN m.stack + 1) = drop m (list.length + 1) by rw [hlq, hq])
  have HLD := As.mk (show m.stack.drop (m.stack.length - topN m.stack) = list by rw [hlist, hq])
  have hln : list.length + 1 ≤ m.stack.length := by omega
  have hpl : p + 1 ≤ m.stack.length := by omega
  clear hq hqn hp hlist hlq hin ht hql
  obtain ⟨AN, cN, AS, cS, AM, cM, rfl, rfl, rfl, hrm, hcS⟩ := h.rm (by have := hok.nl; omega) (by have := hok.sl; omega) (by have := hok.ml; omega)
  have HX := As.mk (h.box (W := ((w.alloc (.cells #[.slice AN m.nodes.length cN, .slice AS m.stack.length cS, .slice AM m.memo.length cM, .bool m.done] 64)).alloc (.cells #[.int .i64 12, .int .i64 arg] 82)).alloc (.cells #[.slice none 0 0, .slice none 0 0, .slice none 0 0, .bool false] 64)) (fun k => k = w.heap.size ∨ k = w.heap.size + 1 ∨ k = w.heap.size + 1 + 1) (g := w.heap.size) (g2 := w.heap.size + 1 + 1) ((((Ext.rf w).al _).al _).al _) (((((Ext.rf _).al _)).al _).blk (al_new _ _)) (by have := al_new ((w.alloc (.cells #[.slice AN m.nodes.length cN, .slice AS m.stack.length cS, .slice AM m.memo.length cM, .bool m.done] 64)).alloc (.cells #[.int .i64 12, .int .i64 arg] 82)) (.cells #[.slice none 0 0, .slice none 0 0, .slice none 0 0, .bool false] 64); rw [al_size, al_size] at this; exact this) (.inl rfl) (.inr (.inr rfl)) (by omega) (fun k hk => by rw [al_size, al_size, al_size]; omega))
  have HO := As.mk (show (((w.alloc (.cells #[.slice AN m.nodes.length cN, .slice AS m.stack.length cS, .slice AM m.memo.length cM, .bool m.done] 64)).alloc (.cells #[.int .i64 12, .int .i64 arg] 82)).alloc (.cells #[.slice none 0 0, .slice none 0 0, .slice none 0 0, .bool false] 64)).heap[w.heap.size + 1]? = some (.cells #[.int .i64 12, .int .i64 arg] 82 (0, 0)) from by have := ((Ext.rf _).al (.cells #[.slice none 0 0, .slice none 0 0, .slice none 0 0, .bool false] 64)).blk (al_new (w.alloc (.cells #[.slice AN m.nodes.length cN, .slice AS m.stack.length cS, .slice AM m.memo.length cM, .bool m.done] 64)) (.cells #[.int .i64 12, .int .i64 arg] 82)); rw [al_size] at this; exact this)
  have HRM := As.mk (RdI.ext hrm.s ((((Ext.rf w).al (.cells #[.slice AN m.nodes.length cN, .slice AS m.stack.length cS, .slice AM m.memo.length cM, .bool m.done] 64)).al (.cells #[.int .i64 12, .int .i64 arg] 82)).al (.cells #[.slice none 0 0, .slice none 0 0, .slice none 0 0, .bool false] 64)))
  have HOK := As.mk hok
  have q1 := hok.nl
  have q2 := hok.sl
  have q3 : m.memo.length ≤ 1000000 := by have := hok.ml; omega
  clear h hrm hok
  go_enter Try.func148, Try.ntmps148
  go_upto_region 1 with fail
  obtain ⟨w1, hw1⟩ : ∃ w1, w1 = ((w.alloc (.cells #[.slice AN m.nodes.length cN, .slice AS m.stack.length cS, .slice AM m.memo.length cM, .bool m.done] 64)).alloc (.cells #[.int .i64 12, .int .i64 arg] 82)).alloc (.cells #[.slice none 0 0, .slice none 0 0, .slice none 0 0, .bool false] 64) := ⟨_, rfl⟩
  rw [← hw1] at HX HO HRM ⊢
  clear hw1
  obtain ⟨g, hg⟩ : ∃ g, g = w.heap.size := ⟨_, rfl⟩
  rw [← hg] at HX HO ⊢
  clear hg
  have c0 := MB.c0 HX.out.a.mb; have c1 := MB.c1 HX.out.a.mb; have c2 := MB.c2 HX.out.a.mb; have c3 := MB.c3 HX.out.a.mb
  obtain ⟨A1, s1, s2⟩ := slice_fromA AS cS m.stack list p HLS.out hpl hcS
  have r1 := s2 w1 HRM.out
  have HR1 := As.mk r1
  clear s2 r1
  obtain ⟨m1, hm1⟩ : ∃ m1, m1 = drop m (list.length + 1) := ⟨_, rfl⟩
  have HM1 := As.mk hm1.symm
  have HMQ := As.mk (show drop m (topN m.stack + 1) = m1 by rw [hm1, HMD.out])
  have hok1 : okM Bd m1 := by rw [hm1]; exact HOK.out.drop _
  have HOK1 := As.mk hok1
  have p1 := hok1.nl
  have p2 := hok1.sl
  have p3 : m1.memo.length ≤ 1000000 := by have := hok1.ml; omega
  have HMN := As.mk (show m1.nodes = m.nodes by rw [hm1]; rfl)
  clear hm1 hok1
  go_upto_region 2 with (go_at_call 171; refine (markAt_c _ _ _ _ _ _ _ _ m w1 HRM.out (by omega)).mono ?_; rw [HMK.out]; rintro e w2 ⟨rfl, hx⟩; have HE2 := As.mk hx; clear hx)
  have c1 := HE2.out.cellOf c1
  go_upto_region 5 with (go_at_call 132; refine (copyInts_c _ _ _ _ (HR1.out.ext HE2.out)).mono ?_; rintro e w3 ⟨A2, cL, rfl, hI, he, hf⟩; have HI := As.mk hI; have HE3 := As.mk (HE2.out.trans he); have HFR := As.mk hf; have hx3 := (HX.out.ext HE2.out).more he (fun k => (Value.slice A2 list.length cL).ownBlock = some k) (fun k hk => ⟨hf k hk, own_lt hI hk⟩); have HX3 := As.mk hx3; clear hI he hf hx3)
  have ho3 := HE3.out.blk HO.out
  have HO3 := As.mk ho3
  clear c0 c1 c2 c3 s1 HX HO HE2 HE3 HRM HR1 ho3
  have c0 := MB.c0 HX3.out.a.mb; have c1 := MB.c1 HX3.out.a.mb; have c2 := MB.c2 HX3.out.a.mb; have c3 := MB.c3 HX3.out.a.mb
  go_upto_region 6 with (go_at_call 172; refine (sdrop_c HX3.out.mw (list.length + 1) hln (by omega) (by omega) (by omega)).mono ?_; rw [HM1.out]; rintro e w4 ⟨l4, vN4, vS4, vM4, rfl, hv, hf⟩; obtain ⟨AN4, cN4, AS4, cS4, AM4, cM4, rfl, rfl, rfl, -, -⟩ := hv.rm (by omega) (by omega) p3; have HV4 := As.mk hv; have HF4 := As.mk hf; have hb := hf.blk HX3.out.a.mb (fun e => e.2 HX3.out.xg); have e0 := MB.c0 hb; have e1 := MB.c1 hb; have e2 := MB.c2 hb; have e3 := MB.c3 hb; have f0 := MB.fz hb 0; have f1 := MB.fz hb 1; have f2 := MB.fz hb 2; have f3 := MB.fz hb 3; clear hv hf hb)
  have hx5 := HX3.out.put HV4.out HF4.out
  have hf5 := Fr.set4 (S := fun k => k = g) (w := w4) (g := g) rfl (.slice AN4 m1.nodes.length cN4) (.slice AS4 m1.stack.length cS4) (.slice AM4 m1.memo.length cM4) (.bool m1.done)
  have ho5 := hf5.blk (HF4.out.blk HO3.out (fun e => e.2 (.inl (.inr (.inl rfl))))) (by omega)
  have hi5 := HI.out.keep (fun k hk => (hf5.block k (Nat.lt_of_lt_of_le (own_lt HI.out hk) HF4.out.size) (fun e => by subst e; exact own_ne_blk HI.out HX3.out.a.mb (by decide) hk)).trans (HF4.out.block k (own_lt HI.out hk) (fun e => e.2 (.inr hk))))
  have HX5 := As.mk hx5
  have HO5 := As.mk ho5
  have HI5 := As.mk hi5
  clear hx5 hf5 ho5 hi5 c0 c1 c2 c3 e0 e1 e2 e3 f0 f1 f2 f3 HO3 HI
  generalize ((((w4.setCell ⟨g, 0, none⟩ (.slice AN4 m1.nodes.length cN4)).setCell ⟨g, 1, none⟩ (.slice AS4 m1.stack.length cS4)).setCell ⟨g, 2, none⟩ (.slice AM4 m1.memo.length cM4)).setCell ⟨g, 3, none⟩ (.bool m1.done)) = w5 at HX5 HO5 HI5 ⊢
  clear HV4 HF4 HX3
  have HRS := As.mk (show RdI w5 AS4 m1.stack by
    obtain ⟨A', c', hv, _, hr⟩ := IR.rd HX5.out.a.sr (by omega)
    injection hv with e1
    rw [e1]; exact hr)
  obtain ⟨bl, hbl⟩ : ∃ bl, bl = topP m1 0 := ⟨_, rfl⟩
  have HBL := As.mk hbl
  clear hbl
  have c0 := MB.c0 HX5.out.a.mb; have c1 := MB.c1 HX5.out.a.mb; have c2 := MB.c2 HX5.out.a.mb; have c3 := MB.c3 HX5.out.a.mb
  go_upto_region 7 with (go_at_call 173; refine (stop_c _ _ _ _ _ _ _ _ m1 0 w5 HRS.out (by omega)).mono ?_; rw [← HBL.out]; rintro e w6 ⟨rfl, hx⟩; have HX6 := As.mk (HX5.out.ext hx); have HO6 := As.mk (hx.blk HO5.out); have HI6 := As.mk (HI5.out.ext hx); clear hx)
  clear c0 c1 c2 c3 HX5 HO5 HI5 HRS
  have c0 := MB.c0 HX6.out.a.mb; have c1 := MB.c1 HX6.out.a.mb; have c2 := MB.c2 HX6.out.a.mb; have c3 := MB.c3 HX6.out.a.mb
  have o0 : w6.cell? ⟨g + 1, 0, none⟩ = some (.int .i64 12) := by simp [World.cell?, HO6.out]
  have hx1 : x < m1.nodes.length := by rw [HMN.out]; exact hx
  have hndm : nd m1 x = nd m x := by unfold nd; rw [HMN.out]
  have HNDM := As.mk hndm
  have HKP := As.mk (show kindP m1 x = 4 by unfold kindP; rw [if_neg (by omega), hndm, hk])
  have hbx : bl = x := by rw [HBL.out, ← HMQ.out, hb]
  subst hbx
  have hdl : x < l4.length := by rw [← HX6.out.a.nl]; exact hx1
  have hld : l4[x].1 = m1.nodes[x] := by
    have : (l4.map Prod.fst)[x]'(by rw [List.length_map]; exact hdl) = m1.nodes[x] := by simp only [HX6.out.a.ns]
    rwa [List.getElem_map] at this
  have hnd : nd m1 x = m1.nodes[x] := by
    unfold nd
    rw [Int.toNat_natCast, List.getD_eq_getElem?_getD, List.getElem?_eq_getElem hx1]; rfl
  obtain ⟨kids, hkids⟩ : ∃ kids, kids = (nd m1 x).kids := ⟨_, rfl⟩
  have hki := HOK1.out.ki _ (List.getElem_mem hx1)
  rw [← hnd, ← hkids] at hki
  have hkb : kids.length ≤ 1000000 := Nat.le_trans (Nat.le_trans hki.1 hBd) (by decide)
  have HKI := As.mk (show (∀ z ∈ kids, 0 ≤ z ∧ z < m1.nodes.length) ∧ ((nd m1 x).kind = 4 → kids.length % 2 = 0) from hki.2)
  have HL1 := As.mk (show l4[x].1.kids = kids by rw [hld, hkids, hnd])
  have HKD := As.mk (show kids = (nd m x).kids by rw [hkids, hndm])
  have q4 : (x : Int) < m1.nodes.length := by omega
  have q5 : (0 : Int) ≤ x := by omega
  have HND1 := As.mk hnd
  have HKM := As.mk hkids
  clear hk hb hndm hld hnd hkids hki
  have HRN := As.mk (show RdN w6 AN4 m1.nodes by
    obtain ⟨A', c', hv, _, hr⟩ := HX6.out.a.nr.rd (by have := HX6.out.a.nl; omega)
    injection hv with e1
    rw [e1, ← HX6.out.a.ns]; exact hr)
  have HIN1 := As.mk (show ∀ z ∈ list, 0 ≤ z ∧ z < m1.nodes.length by rw [HMN.out]; exact HIN.out)
  have HKZ := As.mk (show ∀ n ∈ m1.nodes, 0 ≤ n.kind by rw [HMN.out]; exact hkz)
  have HGK := As.mk (show goodK m1.nodes list = true by rw [HMN.out, ← HLD.out]; exact hgk)
  clear hkz hgk
  go_upto_region 17 with (first | (go_at_call 174; refine (skindOf_c _ _ _ _ _ _ _ _ m1 x w6 HRN.out (by omega)).mono ?_; rw [HKP.out]; rintro e w7 ⟨rfl, hx7⟩; have HX7 := As.mk (HX6.out.ext hx7); have HI7 := As.mk (HI6.out.ext hx7); have HRN7 := As.mk (HRN.out.ext hx7); clear hx7; have c0 := MB.c0 HX7.out.a.mb; have c1 := MB.c1 HX7.out.a.mb; have c2 := MB.c2 HX7.out.a.mb; have c3 := MB.c3 HX7.out.a.mb; have HRL := As.mk (show RdI w7 A2 list by { obtain ⟨A', c', hv, _, hr⟩ := IR.rd HI7.out (by omega); injection hv with e1; rw [e1]; exact hr })) | (go_at_call 175; refine (sgoodKeys_c _ _ _ _ _ _ _ _ m1 _ _ list.length list _ HRN7.out HRL.out rfl (by omega) HIN1.out HKZ.out).mono ?_; rw [HGK.out]; rintro e w8 ⟨rfl, hx8⟩; have HX8 := As.mk (HX7.out.ext hx8); have HI8 := As.mk (HI7.out.ext hx8); clear hx8))
  have h0 : SetQ B (fun k => (k = g ∨ k = g + 1 ∨ k = g + 1 + 1) ∨ (Value.slice A2 list.length cL).ownBlock = some k) w g (g + 1 + 1) m1 x (.slice A2 list.length cL) list kids Bd 0 w8 := by
    refine ⟨l4, AN4, m1.nodes.length, cN4, AS4, m1.stack.length, cS4, AM4, m1.memo.length, cM4, kids, rfl, ?_, HI8.out, ?_, HKI.out.2 ?_, HKI.out.1, rfl⟩
    · rw [HKM.out, setKids_self m1 x hx1]; exact HX8.out
    · rw [HKM.out, HND1.out]; exact (HOK1.out.ki _ (List.getElem_mem hx1)).1
    · have := HKP.out; unfold kindP at this; rwa [if_neg (by omega)] at this
  have HEV := As.mk (show list.length % 2 = 0 by
    by_cases he : list.length % 2 = 0
    · exact he
    · have h1 := goodK_odd m1.nodes list he
      rw [HGK.out] at h1; exact nomatch h1)
  have H0 := As.mk h0
  clear h0 HX6 HX7 HX8 HI6 HI7 HI8 HRN HRN7 HRL c0 c1 c2 c3 o0 hdl HL1
  go_upto_region 18 with fail
  go_loopw [9] (fun i wr => ∃ k : Nat, k ≤ list.length ∧ i = .int .i64 k ∧ As (SetQ B (fun k => (k = g ∨ k = g + 1 ∨ k = g + 1 + 1) ∨ (Value.slice A2 list.length cL).ownBlock = some k) w g (g + 1 + 1) m1 x (.slice A2 list.length cL) list kids Bd k wr)) (fun i _ => list.length - (intOf i).toNat)
  case atStart => exact ⟨0, Nat.zero_le _, rfl, H0⟩
  case round =>
    obtain ⟨k, hk, rfl, hst⟩ := hrel
    obtain ⟨lR, ANr, nNr, cNr, ASr, nSr, cSr, AMr, nMr, cMr, kr, hp, hx, hi, hb, he, hz, hk2⟩ := hst.out
    have HP := As.mk hp
    have HX := As.mk hx
    have HI := As.mk hi
    have HZ := As.mk hz
    have HE2 := As.mk (And.intro he hk2)
    clear hp hx hi he hz hst H0 hk2
    have c0 := MB.c0 HX.out.a.mb; have c1 := MB.c1 HX.out.a.mb; have c2 := MB.c2 HX.out.a.mb; have c3 := MB.c3 HX.out.a.mb
    by_cases hlt : k < list.length
    · have hk1 : k + 1 < list.length := by have := HEV.out; have := HE2.out.2; omega
      obtain ⟨aL, rfl⟩ : ∃ aL, A2 = some aL := by
        obtain ⟨A', c', hv, _, hr⟩ := IR.rd HI.out (by omega)
        injection hv with e1
        obtain ⟨aL, hA, _⟩ := hr.2 k hlt
        exact ⟨aL, by rw [e1, hA]⟩
      obtain ⟨bL, rfl⟩ := own_ad HI.out
      have hin1 := HIN1.out _ (List.getElem_mem hlt)
      obtain ⟨y, hy⟩ := Int.eq_ofNat_of_zero_le hin1.1
      have hyl : y < m1.nodes.length := by have := hin1.2; omega
      obtain ⟨z, hz⟩ : ∃ z, list[k + 1] = z := ⟨_, rfl⟩
      have hin2 := HIN1.out _ (List.getElem_mem hk1)
      rw [hz] at hin2
      have m0 := ir_cell HI.out (by omega) k hlt y hy
      have m1c := ir_cell HI.out (by omega) (k + 1) hk1 z hz
      have HY := As.mk hy
      have HZZ := As.mk hz
      have HYZ := As.mk (show putAll m1.nodes kr (list.drop k) = putAll m1.nodes (put1 m1.nodes kr y z) (list.drop (k + 2)) by rw [putAll_at _ _ _ _ hk1, hy, hz])
      have HZI := As.mk hin2
      have HPE := As.mk (show setKids (setKids m1 x kr) x (put1 (setKids m1 x kr).nodes kr y z) = setKids m1 x (put1 m1.nodes kr y z) by
        rw [setKids_again _ _ _ _ hx1]
        congr 1
        exact put1_same _ _ (same_set m1.nodes x kr) kr y z)
      have q6 : (k : Int) < list.length := by omega
      have q7 : (k : Int) + 1 < list.length := by omega
      clear hy hz hin1 hin2
      have q8 : (0 : Int) ≤ (k : Int) + 1 := by omega
      have q9 : ((k : Int) + 1).toNat = k + 1 := by omega
      have q10 : IntKind.i64.wrap ((k : Int) + 1) = (k : Int) + 1 := by rw [IntKind.wrap_i64]; omega
      have HS1 := As.mk (setKids_len m1 x kr)
      go_upto_region 20 with fail
      refine region_perm (fun w' => w'.cell? ⟨g, 0, none⟩ = some (.slice ANr nNr cNr) ∧ w'.cell? ⟨g, 1, none⟩ = some (.slice ASr nSr cSr) ∧ w'.cell? ⟨g, 2, none⟩ = some (.slice AMr nMr cMr) ∧ w'.cell? ⟨g, 3, none⟩ = some (.bool (setKids m1 x kr).done) ∧ w'.cell? ⟨bL, k, none⟩ = some (.int .i64 y) ∧ w'.cell? ⟨bL, k + 1, none⟩ = some (.int .i64 z)) [12] [(0, 1), (1, 0), (2, 0), (3, 0), (4, 0), (5, 1), (6, 0), (7, 0), (8, 0), (9, 0), (10, 1), (11, 2), (12, 3)] (by kernel_rfl) (by kernel_rfl) rfl (by kernel_rfl) (fun _ _ _ _ h => h) ?_
      have hS := And.intro c0 (And.intro c1 (And.intro c2 (And.intro c3 (And.intro m0 m1c))))
      repeat (first | refine wpP.c0 (h := ?_) | refine wpP.c1 (w := wr.drew) hS (h := ?_))
      refine wpP.ev (h := fun Kv hKv => ?_)
      have hE8 := (Ext.rf wr).dr
      have HX8 := As.mk (HX.out.ext hE8)
      have HI8 := As.mk (HI.out.ext hE8)
      clear hE8 HX HI hS c0 c1 c2 c3 m0 m1c
      generalize wr.drew = w8 at HX8 HI8 ⊢
      go_wp2_with (go_at_call 176; refine (sputItem_c HX8.out.mw x y z kr (by rw [HS1.out]; exact hx1) (setKids_at _ _ _ _) (by rw [HS1.out]; exact hyl) (by rw [HS1.out]; exact HZ.out) HE2.out.1 (by omega) (by rw [HS1.out]; omega) (by show m1.stack.length ≤ _; omega) (by show m1.memo.length ≤ _; omega)).mono ?_; rw [HPE.out]; rintro e w9 hr; obtain ⟨l9, B1, n1, e1, B2, n2, e2, B3, n3, e3, rfl, hv, hf⟩ := machS_of hr; have HV9 := As.mk hv; have HF9 := As.mk hf; clear hr hv hf)
      have hb := HF9.out.blk HX8.out.a.mb (fun e => e.2 HX8.out.xg)
      have hi9 := HI8.out.keep (fun k hk => HF9.out.block k (own_lt HI8.out hk) (fun e => e.2 (.inr hk)))
      refine hKv.out _ _ ⟨MB.c0 hb, MB.c1 hb, MB.c2 hb, MB.c3 hb, ir_cell hi9 (by omega) k hlt y HY.out, ir_cell hi9 (by omega) (k + 1) hk1 z HZZ.out⟩ ?_
      clear hKv Kv
      have b0 := MB.c0 hb; have b1 := MB.c1 hb; have b2 := MB.c2 hb; have b3 := MB.c3 hb
      have f0 := MB.fz hb 0; have f1 := MB.fz hb 1; have f2 := MB.fz hb 2; have f3 := MB.fz hb 3
      have hxA := HX8.out.put HV9.out HF9.out
      have hfA := Fr.set4 (S := fun k => k = g) (w := w9) (g := g) rfl (.slice B1 n1 e1) (.slice B2 n2 e2) (.slice B3 n3 e3) (.bool (setKids m1 x (put1 m1.nodes kr y z)).done)
      have hiA := hi9.keep (fun k hk => hfA.block k (own_lt hi9 hk) (fun e => own_ne_blk hi9 hb (by decide) (by rw [hk, e])))
      have HXA := As.mk hxA
      have HIA := As.mk hiA
      clear hb hi9 hxA hfA hiA
      repeat (first | refine wpP.c0 (h := ?_))
      refine wpP.last (h := fun Kv hKv => ?_)
      go_wp2_with fail
      refine hKv.out _ _ (wpP.done ?_)
      clear hKv Kv b0 b1 b2 b3 f0 f1 f2 f3 HV9 HF9 HX8 HI8
      go_wp2_with fail
      go_roundw
      case measure => simp only [intOf]; omega
      case rel =>
        have hpl := put1_len m1.nodes kr y z
        refine ⟨k + 2, by omega, by go_num, ⟨_, _, _, _, _, _, _, _, _, _, put1 m1.nodes kr y z, HP.out.trans HYZ.out, HXA.out, HIA.out, by omega, by have := HE2.out.1; omega, fun u hu => ?_, by have := HE2.out.2; omega⟩⟩
        rcases put1_mem _ _ _ _ _ hu with h | rfl | rfl
        · exact HZ.out u h
        · omega
        · exact HZI.out
    · have hkn : k = list.length := by omega
      have HKN := As.mk (show putAll m1.nodes kids list = kr by
        rw [HP.out, hkn, List.drop_length]; rfl)
      have q6 : ¬ (k : Int) < list.length := by omega
      clear hkn hlt c0 c1 c2 c3
      have d0 := MB.c0 HX.out.r; have d1 := MB.c1 HX.out.r; have d2 := MB.c2 HX.out.r; have d3 := MB.c3 HX.out.r
      have f0 := MB.fz HX.out.r 0; have f1 := MB.fz HX.out.r 1; have f2 := MB.fz HX.out.r 2; have f3 := MB.fz HX.out.r 3
      have c0 := MB.c0 HX.out.a.mb; have c1 := MB.c1 HX.out.a.mb; have c2 := MB.c2 HX.out.a.mb; have c3 := MB.c3 HX.out.a.mb
      go_wp2_with fail
      have ho := HX.out.out
      refine bodyPost_ret (results_cellt rfl _ _ (g + 1 + 1) _ rfl (loadM ho.2.2)) rfl ?_
      refine ⟨_, _, _, _, _, _, _, _, _, _, rfl, ho.2.1, fun m' hm => ?_⟩
      rw [← HMN.out, HMQ.out, HLD.out, ← HKD.out, HKN.out] at hm
      injection hm with hm
      subst hm
      exact ⟨rfl, _, ho.1⟩
end Go.Proofs.Ytcodbpjaamggeaa.C
