/- What an order does, V: the memo. -/
import Derived.Test.YtcodbpjaamggeaaCm
set_option linter.unusedVariables false
set_option linter.unusedSimpArgs false
namespace Go.Proofs.Ytcodbpjaamggeaa.C
open Go.RowKit Go.Proofs.Ytcodbpjaamggeaa.W Go.Proofs.Ytcodbpjaamggeaa.P

theorem MR.mem {base w g l vN vS vM m} (h : MR base w g l vN vS vM m) (hml : m.memo.length = 20) : ∃ gM cM, vM = .slice (some ⟨gM, 0, none⟩) 20 cM ∧ (∀ j, w.frozen? ⟨gM, j, none⟩ = false) ∧ (∀ (j : Nat) (hj : j < m.memo.length), w.cell? ⟨gM, j, none⟩ = some (.int .i64 m.memo[j])) ∧ 20 ≤ cM := by
  obtain ⟨A, c, rfl, hc, hr⟩ := IR.rd h.me (by omega)
  have h2 := h.me
  obtain ⟨b, rfl, hf⟩ := IR.hdr h2 (by omega)
  refine ⟨b, c, by rw [hml], hf, fun j hj => ?_, by omega⟩
  obtain ⟨ad, had, hcell⟩ := hr.2 j hj
  cases had
  rwa [(add_at b j 0).1] at hcell

set_option maxRecDepth 100000 in
set_option maxHeartbeats 1000000 in
/-- OcPut. -/
theorem do_15 {B base w g l vN vS vM m} (h : MR base w g l vN vS vM m) (hok : okM B m) (arg : Int) (ha0 : 0 ≤ arg) (ha : arg ≤ 19) :
    Calls Try.prog 134 #[.pointer (some ⟨g, 0, none⟩), .agg #[.int .i64 15, .int .i64 arg]] w (Does base g l vN vS vM m (doP m ⟨15, arg⟩) w) := by
  have hln := hok.nl
  have hls := hok.sl
  have htl := topN_le m.stack
  obtain ⟨A, c, rfl, hc, hrS⟩ := h.rdS (by omega)
  obtain ⟨gM, cM, rfl, hfz, hme, hcM⟩ := h.mem hok.ml
  have H := As.mk h
  have HO := As.mk hok
  clear h hok
  obtain ⟨j, rfl⟩ := Int.eq_ofNat_of_zero_le ha0
  by_cases hn : 1 ≤ topN m.stack
  · have ht : (1 : Int) ≤ topN m.stack := by omega
    have ht' : ¬ (topN m.stack : Int) < 1 := by omega
    have hr : doP m ⟨15, j⟩ = some { m with memo := m.memo.set j (st m.stack 0) } := by simp [doP, hn]
    obtain ⟨aS, rfl, hcS⟩ := hrS.2 (m.stack.length - 1) (by omega)
    rw [show m.stack[m.stack.length - 1]'(by omega) = st m.stack 0 by rw [st_at m.stack 0 (by omega)]; rfl] at hcS
    obtain ⟨vj, hjm⟩ : ∃ vj, w.cell? ⟨gM, j, none⟩ = some (.int .i64 vj) := ⟨_, hme j (by have := HO.out.ml; omega)⟩
    have hfj := hfz j
    have HR := As.mk hr
    clear hr hn hfz hme hrS
    have c1 := H.out.mb.c1
    have c2 := H.out.mb.c2
    obtain ⟨v, hv⟩ : ∃ v, v = st m.stack 0 := ⟨_, rfl⟩
    rw [← hv] at hcS
    have HV := As.mk hv
    clear hv
    have r1 : ((m.stack.length : Int) - 1).toNat = m.stack.length - 1 := by omega
    have r2 : IntKind.i64.wrap ((m.stack.length : Int) - 1) = (m.stack.length : Int) - 1 := by rw [IntKind.wrap_i64]; omega
    have r3 : (0 : Int) ≤ (m.stack.length : Int) - 1 := by omega
    have r4 : (m.stack.length : Int) - 1 < m.stack.length := by omega
    have r5 : (j : Int) < 20 := by omega
    have r6 : ¬ (m.stack.length : Int) < 1 := by omega
    have r7 : (1 : Int) ≤ m.stack.length := by omega
    go_enter Try.func134, Try.ntmps134
    go_wp2_with (go_at_call 153; refine (nodes_m H.out (by omega) (by (repeat (first | exact Ext.rf _ | refine Ext.al ?_ _ | refine Ext.dr ?_ | refine Ext.dN ?_ _)))).mono ?_; rintro e w1 ⟨rfl, nq, rfl⟩)
    obtain ⟨w1, hw1⟩ : ∃ w1, w1 = (w.alloc (.cells #[.int .i64 15, .int .i64 j] 82)).drewN nq := ⟨_, rfl⟩
    have hX : Ext w w1 := by rw [hw1]; exact ((Ext.rf w).al _).dN nq
    have b1 : w1.cell? ⟨w.heap.size, 1, none⟩ = some (.int .i64 j) := by rw [hw1]; exact World.cell?_alloc_new ..
    rw [← hw1]
    have HX := As.mk hX
    have d1 := hX.cellOf c1
    have d2 := hX.cellOf c2
    have dS := hX.cellOf hcS
    have dM := hX.cellOf hjm
    have dF := own_fz (H.out.ext hX).me j
    clear c1 c2 hcS hjm hfj hX hw1
    refine region_perm (fun w' => w'.cell? ⟨g, 2, none⟩ = some (.slice (some ⟨gM, 0, none⟩) 20 cM) ∧ w'.cell? ⟨w.heap.size, 1, none⟩ = some (.int .i64 j) ∧ w'.cell? ⟨g, 1, none⟩ = some (.slice (some aS) m.stack.length c) ∧ w'.cell? (aS.add (m.stack.length - 1)) = some (.int .i64 v)) [19] [(0, 0), (1, 0), (2, 0), (3, 1), (4, 0), (5, 1), (6, 0), (7, 0), (8, 0), (9, 1), (10, 0), (11, 0), (12, 0), (13, 1), (14, 0), (15, 0), (16, 0), (17, 1), (18, 0), (19, 3)] (by kernel_rfl) (by kernel_rfl) rfl (by kernel_rfl) (fun _ _ _ _ h => h) ?_
    have hS := And.intro d2 (And.intro b1 (And.intro d1 dS))
    repeat (first | refine wpP.c0 (h := ?_) | refine wpP.c1 (w := w1.drew) hS (h := ?_))
    refine wpP.last (h := fun Kv hKv => ?_)
    go_wp2_with fail
    refine hKv.out _ _ (wpP.done ?_)
    clear hKv Kv hS
    go_wp2_with fail
    go_ret
    have hv := HV.out
    subst hv
    rw [HR.out]
    refine ⟨rfl, (Fr.ofExt HX.out).trans ((Fr.set _ _ (.inr (.inr (.inr (.inl rfl))))).trans (Fr.ofExt ((Ext.rf _).dr))), fun m' hm' => ?_, fun h => nomatch h⟩
    injection hm' with hm'
    subst hm'
    exact ⟨l, vN, _, ((H.out.ext HX.out).put j _).ext ((Ext.rf _).dr)⟩
  · have ht2 : (topN m.stack : Int) < 1 := by omega
    have hr : doP m ⟨15, j⟩ = none := by simp [doP, hn]
    have HR := As.mk hr
    clear hr hn hrS hfz hme
    go_enter Try.func134, Try.ntmps134
    go_wp2_with (go_at_call 153; refine (nodes_m H.out (by omega) (by (repeat (first | exact Ext.rf _ | refine Ext.al ?_ _ | refine Ext.dr ?_ | refine Ext.dN ?_ _)))).mono ?_; rintro e w1 ⟨rfl, nq, rfl⟩)
    go_ret
    exact Does.no H.out HR.out (by (repeat (first | exact Ext.rf _ | refine Ext.al ?_ _ | refine Ext.dr ?_ | refine Ext.dN ?_ _)))

theorem MR.memo_cell {base w g l vN vS gM cM m} (h : MR base w g l vN vS (.slice (some ⟨gM, 0, none⟩) 20 cM) m) (hml : m.memo.length = 20) (j : Nat) (hj : j < m.memo.length) : w.cell? ⟨gM, j, none⟩ = some (.int .i64 (m.memo.getD j 0)) := by
  obtain ⟨g', c', h1, _, h2, _⟩ := h.mem hml
  injection h1 with h1
  injection h1 with h1
  injection h1 with h1
  subst h1
  rw [h2 j hj, List.getD_eq_getElem?_getD, List.getElem?_eq_getElem hj]; rfl
theorem push_keeps {base g l vN vS gM cM m i w e w'} (h : Does base g l vN vS (.slice (some ⟨gM, 0, none⟩) 20 cM) m (push m i) w e w') (hml : m.memo.length = 20) (j : Nat) (hj : j < m.memo.length) :
    w'.cell? ⟨g, 2, none⟩ = some (.slice (some ⟨gM, 0, none⟩) 20 cM) ∧ w'.cell? ⟨gM, j, none⟩ = some (.int .i64 (m.memo.getD j 0)) := by
  obtain ⟨_, _, h3, h4⟩ := h
  cases hp : push m i with
  | none =>
    obtain ⟨⟨_, _, h5⟩, h6, h7⟩ := h4 hp
    refine ⟨h5.c2, ?_⟩
    obtain ⟨A, c, h8, _, h9⟩ := IR.rd h7 (by omega)
    injection h8 with h8 h10 h11
    subst h8
    obtain ⟨ad, had, hc⟩ := h9.2 j hj
    cases had
    rw [(add_at gM j 0).1] at hc
    rw [hc, List.getD_eq_getElem?_getD, List.getElem?_eq_getElem hj]; rfl
  | some m' =>
    have hm' : m'.memo = m.memo := by
      unfold push at hp
      split at hp
      · injection hp with hp; subst hp; rfl
      · exact nomatch hp
    obtain ⟨l', vN', vS', h5⟩ := h3 m' hp
    refine ⟨h5.mb.c2, ?_⟩
    rw [← hm'] at hml hj ⊢
    exact h5.memo_cell hml j hj

set_option maxRecDepth 100000 in
set_option maxHeartbeats 1000000 in
/-- OcGet. -/
theorem do_16 {B base w g l vN vS vM m} (h : MR base w g l vN vS vM m) (hok : okM B m) (arg : Int) (ha0 : 0 ≤ arg) (ha : arg ≤ 19) :
    Calls Try.prog 134 #[.pointer (some ⟨g, 0, none⟩), .agg #[.int .i64 16, .int .i64 arg]] w (Does base g l vN vS vM m (doP m ⟨16, arg⟩) w) := by
  have hln := hok.nl
  have hls := hok.sl
  obtain ⟨A, c, rfl, hc, hrS⟩ := h.rdS (by omega)
  obtain ⟨gM, cM, rfl, hfz, hme, hcM⟩ := h.mem hok.ml
  have H := As.mk h
  have HO := As.mk hok
  clear h hok hrS
  obtain ⟨j, rfl⟩ := Int.eq_ofNat_of_zero_le ha0
  have hjl : j < m.memo.length := by have := HO.out.ml; omega
  obtain ⟨v, hv, hjm⟩ : ∃ v, v = m.memo.getD j 0 ∧ w.cell? ⟨gM, j, none⟩ = some (.int .i64 v) := ⟨_, rfl, by rw [List.getD_eq_getElem?_getD, List.getElem?_eq_getElem hjl]; exact hme j hjl⟩
  have HJ := As.mk hjl
  clear hme hfz
  have c2 := H.out.mb.c2
  have r5 : (j : Int) < 20 := by omega
  rcases bcase ((0 : Int) ≤ v) with hn | hn
  · have hr : doP m ⟨16, j⟩ = push m v := by rw [List.getD_eq_getElem?_getD] at hv; simp [doP, ← hv, hn]
    rw [hr]
    have HV := As.mk hv
    clear hr hv
    go_enter Try.func134, Try.ntmps134
    go_wp2_with (go_at_call 153; refine (nodes_m H.out (by omega) (by (repeat (first | exact Ext.rf _ | refine Ext.al ?_ _ | refine Ext.dr ?_ | refine Ext.dN ?_ _)))).mono ?_; rintro e w1 ⟨rfl, nq, rfl⟩)
    obtain ⟨w1, hw1⟩ : ∃ w1, w1 = (w.alloc (.cells #[.int .i64 16, .int .i64 j] 82)).drewN nq := ⟨_, rfl⟩
    have hX : Ext w w1 := by rw [hw1]; exact ((Ext.rf w).al _).dN nq
    have b1 : w1.cell? ⟨w.heap.size, 1, none⟩ = some (.int .i64 j) := by rw [hw1]; exact World.cell?_alloc_new ..
    rw [← hw1]
    have HX := As.mk hX
    have d2 := hX.cellOf c2
    have dM := hX.cellOf hjm
    clear c2 hjm hX hw1
    refine region_perm (fun w' => w'.cell? ⟨g, 2, none⟩ = some (.slice (some ⟨gM, 0, none⟩) 20 cM) ∧ w'.cell? ⟨w.heap.size, 1, none⟩ = some (.int .i64 j) ∧ w'.cell? ⟨gM, j, none⟩ = some (.int .i64 v)) [] [(0, 0), (1, 0), (2, 0), (3, 1), (4, 0), (5, 1), (6, 0), (7, 1), (8, 0), (9, 0), (10, 0), (11, 0), (12, 0), (13, 0), (14, 1), (15, 0), (16, 1), (17, 0), (18, 1), (19, 2), (20, 0), (21, 0)] (by kernel_rfl) (by kernel_rfl) rfl (by kernel_rfl) (fun _ _ _ _ h => h) ?_
    have hS := And.intro d2 (And.intro b1 dM)
    repeat (first | refine wpP.c0 (h := ?_) | refine wpP.c1 (w := w1.drew) hS (h := ?_))
    refine wpP.ev (h := fun Kv hKv => ?_)
    go_wp2_with (go_at_call 155; refine (push_m ((H.out.ext HX.out).ext (by (repeat (first | exact Ext.rf _ | refine Ext.al ?_ _ | refine Ext.dr ?_ | refine Ext.dN ?_ _)))) v (by omega)).mono ?_; rintro e w2 ⟨rfl, hd⟩; have HD := As.mk hd; clear hd)
    obtain ⟨k1, k2⟩ := push_keeps (Does.ext ⟨rfl, HD.out⟩ (HX.out.trans (by (repeat (first | exact Ext.rf _ | refine Ext.al ?_ _ | refine Ext.dr ?_ | refine Ext.dN ?_ _))))) HO.out.ml j HJ.out
    rw [← HV.out] at k2
    have k3 : w2.cell? ⟨w.heap.size, 1, none⟩ = some (.int .i64 j) := HD.out.1.cell b1 (fun hk => by have := H.out.foot_lt _ hk; exact Nat.lt_irrefl _ this)
    refine hKv.out _ _ ⟨k1, k3, k2⟩ ?_
    clear hKv Kv hS k1 k2 k3
    repeat (first | refine wpP.c0 (h := ?_))
    refine wpP.done ?_
    go_wp2_with fail
    go_ret
    exact Does.ext ⟨rfl, HD.out⟩ (HX.out.trans (by (repeat (first | exact Ext.rf _ | refine Ext.al ?_ _ | refine Ext.dr ?_ | refine Ext.dN ?_ _))))
  · have hr : doP m ⟨16, j⟩ = none := by
      have : ¬ 0 ≤ v := by simpa using hn
      rw [List.getD_eq_getElem?_getD] at hv; simp [doP, ← hv, this]
    have HR := As.mk hr
    clear hr hv
    go_enter Try.func134, Try.ntmps134
    go_wp2_with (go_at_call 153; refine (nodes_m H.out (by omega) (by (repeat (first | exact Ext.rf _ | refine Ext.al ?_ _ | refine Ext.dr ?_ | refine Ext.dN ?_ _)))).mono ?_; rintro e w1 ⟨rfl, nq, rfl⟩)
    obtain ⟨w1, hw1⟩ : ∃ w1, w1 = (w.alloc (.cells #[.int .i64 16, .int .i64 j] 82)).drewN nq := ⟨_, rfl⟩
    have hX : Ext w w1 := by rw [hw1]; exact ((Ext.rf w).al _).dN nq
    have b1 : w1.cell? ⟨w.heap.size, 1, none⟩ = some (.int .i64 j) := by rw [hw1]; exact World.cell?_alloc_new ..
    rw [← hw1]
    have HX := As.mk hX
    have d2 := hX.cellOf c2
    have dM := hX.cellOf hjm
    clear c2 hjm hX hw1
    refine region_perm (fun w' => w'.cell? ⟨g, 2, none⟩ = some (.slice (some ⟨gM, 0, none⟩) 20 cM) ∧ w'.cell? ⟨w.heap.size, 1, none⟩ = some (.int .i64 j) ∧ w'.cell? ⟨gM, j, none⟩ = some (.int .i64 v)) [] [(0, 0), (1, 0), (2, 0), (3, 1), (4, 0), (5, 1), (6, 0), (7, 1), (8, 0), (9, 0), (10, 0), (11, 0), (12, 0), (13, 0), (14, 1), (15, 0), (16, 1), (17, 0), (18, 1), (19, 2), (20, 0), (21, 0)] (by kernel_rfl) (by kernel_rfl) rfl (by kernel_rfl) (fun _ _ _ _ h => h) ?_
    have hS := And.intro d2 (And.intro b1 dM)
    repeat (first | refine wpP.c0 (h := ?_) | refine wpP.c1 (w := w1.drew) hS (h := ?_) | refine wpP.c0off (h := ?_) | refine wpP.c1off (w := w1.drew) hS (h := ?_))
    refine wpP.ev (h := fun Kv hKv => ?_)
    go_wp2_with fail
    refine hKv.out _ _ hS ?_
    clear hKv Kv hS
    repeat (first | refine wpP.c0 (h := ?_))
    refine wpP.done ?_
    go_wp2_with fail
    go_ret
    exact Does.no H.out HR.out (HX.out.trans (by (repeat (first | exact Ext.rf _ | refine Ext.al ?_ _ | refine Ext.dr ?_ | refine Ext.dN ?_ _))))
end Go.Proofs.Ytcodbpjaamggeaa.C
