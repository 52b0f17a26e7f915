/- What an order does, IV. -/
import Derived.Test.YtcodbpjaamggeaaCl
set_option linter.unusedVariables false
set_option linter.unusedSimpArgs false
namespace Go.Proofs.Ytcodbpjaamggeaa.C
open Go.RowKit Go.Proofs.Ytcodbpjaamggeaa.W Go.Proofs.Ytcodbpjaamggeaa.P

theorem Does.state {base g l A c gN cN n0 vM m n kids b w w1 w2 r} (h : MR base w g l (.slice (some ⟨gN, 0, none⟩) n0 cN) (.slice A m.stack.length c) vM m) (hc : Cut base g l (.slice (some ⟨gN, 0, none⟩) n0 cN) vM A c m n kids (some ⟨b, 0, none⟩) w w1) (hX : Ext w1 w2) (x : Nat) (hx : x < l.length) (c' : Nat)
    (hI : IR w1 (.slice (some ⟨b, 0, none⟩) kids.length c') kids) (hb : w.heap.size ≤ b) (hk : kids.length ≤ 1000000000000) (hr : r = some (setKids (drop m n) x kids)) {W : World} (hW : Ext (w2.setCell ⟨gN, x * 3 + 2, none⟩ (.slice (some ⟨b, 0, none⟩) kids.length c')) W) :
    Does base g l (.slice (some ⟨gN, 0, none⟩) n0 cN) (.slice A m.stack.length c) vM m r w (.returned (.bool true)) W := by
  have hne : ∀ k, Foot g l (.slice (some ⟨gN, 0, none⟩) n0 cN) (.slice A (m.stack.length - n) c) vM k → k ≠ b := fun k hk e => by
    rw [foot_cut g l _ vM A _ m.stack.length c] at hk
    have := h.foot_lt k hk
    omega
  have hob : ∀ k, (Value.slice (some ⟨b, 0, none⟩) kids.length c').ownBlock = some k → k = b := fun k hk => by injection hk with hk; exact hk.symm
  have h1 := (hc.1.ext hX).kids x hx (.slice (some ⟨b, 0, none⟩) kids.length c') kids (hI.ext hX) hk
    (fun k hk => by rw [hob k hk]; exact h.up b hb)
    (fun k hk hs => hne k (.inr (.inr (.inl hs))) (hob k hk)) (fun k hk hs => hne k (.inr (.inr (.inr (.inl hs)))) (hob k hk))
    (fun j hj _ k hk hs => hne k (.inr (.inr (.inr (.inr ⟨_, List.getElem_mem hj, hk⟩)))) (hob k hs))
  subst hr
  refine Does.cut hc ⟨rfl, (Fr.ofExt hX).trans ((Fr.set _ _ (.inr (.inl rfl))).trans (Fr.ofExt hW)), fun m' hm' => ?_, fun h => nomatch h⟩
  injection hm' with hm'
  subst hm'
  exact ⟨_, _, _, h1.ext hW⟩
theorem MR.fin {base w g l vN vS vM m} (h : MR base w g l vN vS vM m) (b : Bool) : MR base (w.setCell ⟨g, 3, none⟩ (.bool b)) g l vN vS vM { m with done := b } :=
  ⟨h.mb.set.2.2 b, NR.setG h.nr h.mb _ _, h.ns, IR.setG h.sr h.mb _ _, IR.setG h.me h.mb _ _, h.lo, h.kk, h.ks, h.km, h.sm, fun k hk => h.up k (by simpa [World.setCell] using hk)⟩
theorem MR.put {base w g l vN vS gM n c m} (h : MR base w g l vN vS (.slice (some ⟨gM, 0, none⟩) n c) m) (j : Nat) (v : Int) : MR base (w.setCell ⟨gM, j, none⟩ (.int .i64 v)) g l vN vS (.slice (some ⟨gM, 0, none⟩) n c) { m with memo := m.memo.set j v } := by
  have hob : (Value.slice (some ⟨gM, 0, none⟩) n c).ownBlock = some gM := rfl
  have hkeep : ∀ k, k ≠ gM → (w.setCell ⟨gM, j, none⟩ (.int .i64 v)).heap[k]? = w.heap[k]? := fun k hk => Below.heap_setCell _ _ _ _ hk
  refine ⟨(hkeep g (fun e => own_ne_blk h.me h.mb (by decide) (by rw [hob, e]))).trans h.mb, h.nr.keep (fun k hk => hkeep k (fun e => ?_)), h.ns, h.sr.keep (fun k hk => hkeep k (fun e => h.sm k hk (by rw [hob, e]))), ?_, h.lo, h.kk, h.ks, h.km, h.sm, fun k hk => h.up k (by simpa [World.setCell] using hk)⟩
  · rcases hk with hk | ⟨p, hp, hk⟩
    · exact own_ne_type h.nr.1 h.me (by decide) hk (by rw [hob, e])
    · exact h.km p hp k hk (by rw [hob, e])
  · have h2 : w.ownsRow 0 3 1 (.slice (some ⟨gM, 0, none⟩) n c) m.memo.length (nums m.memo) := h.me
    have hn : n = m.memo.length := by
      rcases h2.2 with ⟨hv, _⟩ | ⟨g', cap, cur, hv, _⟩
      · exact nomatch hv
      · injection hv
    subst hn
    have h3 := own_set h2 j (.int .i64 v)
    rw [show (nums m.memo).set j (.int .i64 v) = nums (m.memo.set j v) by simp [nums, List.map_set]] at h3
    show World.ownsRow _ 0 3 1 _ (m.memo.set j v).length _
    rw [List.length_set]
    exact h3

set_option maxRecDepth 100000 in
set_option maxHeartbeats 1000000 in
/-- OcState. -/
theorem do_14 {B base w g l vN vS vM m} (h : MR base w g l vN vS vM m) (hok : okM B m) (hB : B ≤ 2000000) (arg : Int) :
    Calls Try.prog 134 #[.pointer (some ⟨g, 0, none⟩), .agg #[.int .i64 14, .int .i64 arg]] w (Does base g l vN vS vM m (doP m ⟨14, arg⟩) w) := by
  have hln := hok.nl
  have hls := hok.sl
  have htl := topN_le m.stack
  obtain ⟨A, c, rfl, _, _⟩ := h.rdS (by omega)
  have H := As.mk h
  have HO := As.mk hok
  clear h hok
  by_cases hn : 2 ≤ topN m.stack
  · have ht : (2 : Int) ≤ topN m.stack := by omega
    have ht' : ¬ (topN m.stack : Int) < 2 := by omega
    have hkk : m.stack.drop (m.stack.length - 1) = [st m.stack 0] := drop_one _ (by omega)
    have htd : topN (drop m 1).stack = topN m.stack - 1 := topN_take _ _ (by omega)
    have HKK := As.mk hkk
    obtain ⟨x, hx, hxl⟩ := top_ok (HO.out.drop 1) (by omega)
    obtain ⟨gN, cN, rfl, hcN, hN⟩ := H.out.hd (Nat.lt_of_le_of_lt (Nat.zero_le _) hxl) (by omega)
    have hxl : x < m.nodes.length := hxl
    have hxl' : x < l.length := by rw [← H.out.nl]; exact hxl
    obtain ⟨e1, e2⟩ := H.out.nd_at x hxl' hxl
    obtain ⟨_, K, cK, hK, hcK, _⟩ := H.out.kid x hxl'
    have hkl := (HO.out.ki _ (List.getElem_mem hxl)).1
    rw [← e1] at hkl
    have htk : topK (drop m 1) 5 = if m.nodes[x].kind = 5 then some (x : Int) else none := by
      unfold topK
      rw [if_neg (by omega), hx]
      show (if (nd m x).kind = 5 then _ else _) = _
      rw [e2]
    have HT : As (0 < topN (drop m 1).stack) := ⟨by omega⟩
    have HX := As.mk hx
    have HK := As.mk hK
    rcases bceq m.nodes[x].kind 5 with hk | hk
    · rcases bcase ((0 : Int) < l[x].1.kids.length) with hz | hz
      · have hr : doP m ⟨14, arg⟩ = none := by
          rw [if_pos hk] at htk
          have : ¬ l[x].1.kids = [] := fun e => by rw [e] at hz; exact absurd hz (by simp)
          rw [e1] at this
          simp [doP, hn, htk, e2, this]
        have HR := As.mk hr
        clear hr htk hx htd hkk hN e1 e2 hK hn
        go_enter Try.func134, Try.ntmps134
        go_wp2_with (first | (go_at_call 153; refine (nodes_m H.out (by omega) (by (repeat (first | exact Ext.rf _ | refine Ext.al ?_ _ | refine Ext.dr ?_ | refine Ext.dN ?_ _)))).mono ?_; rintro e w1 ⟨rfl, nq, rfl⟩) | (go_at_call 157; refine (take_x H.out (by omega) 1 (by omega) (by omega) (by (repeat (first | exact Ext.rf _ | refine Ext.al ?_ _ | refine Ext.dr ?_ | refine Ext.dN ?_ _))) [st m.stack 0] HKK.out.symm).mono ?_; rintro e w2 ⟨b, cK2, rfl, _, hI, hb, hc⟩; (have x2 : w2.cell? ⟨gN, x * 3 + 2, none⟩ = some (.slice K l[x].1.kids.length cK) := (by have := (hc.1.kid x hxl').1; rwa [HK.out] at this)); have z2 := own_fz hc.1.nr.1 (x * 3 + 2); have HC := As.mk hc; have HI := As.mk hI; have HB := As.mk hb; clear hc hI hb) | (go_at_call 158; refine (HC.out.top1 (by omega) (by omega) _ x HT.out HX.out hxl (by (repeat (first | exact Ext.rf _ | refine Ext.al ?_ _ | refine Ext.dr ?_ | refine Ext.dN ?_ _)))).mono ?_; rw [hk]; rintro e w3 ⟨rfl, nr, rfl⟩))
        go_ret
        exact Does.cutNo HC.out HR.out (by (repeat (first | exact Ext.rf _ | refine Ext.al ?_ _ | refine Ext.dr ?_ | refine Ext.dN ?_ _)))
      · have hr : doP m ⟨14, arg⟩ = some (setKids (drop m 1) x [st m.stack 0]) := by
          rw [if_pos hk] at htk
          have : l[x].1.kids = [] := List.length_eq_zero_iff.1 (by simp at hz; simp [hz])
          rw [e1] at this
          simp [doP, hn, htk, e2, this]
        have HR := As.mk hr
        have hz3 : (l[x].1.kids.length : Int) = 0 := by simp at hz; simp [hz]
        clear hz
        clear hr htk hx htd hkk hN e1 e2 hK hn
        go_enter Try.func134, Try.ntmps134
        go_wp2_with (first | (go_at_call 153; refine (nodes_m H.out (by omega) (by (repeat (first | exact Ext.rf _ | refine Ext.al ?_ _ | refine Ext.dr ?_ | refine Ext.dN ?_ _)))).mono ?_; rintro e w1 ⟨rfl, nq, rfl⟩) | (go_at_call 157; refine (take_x H.out (by omega) 1 (by omega) (by omega) (by (repeat (first | exact Ext.rf _ | refine Ext.al ?_ _ | refine Ext.dr ?_ | refine Ext.dN ?_ _))) [st m.stack 0] HKK.out.symm).mono ?_; rintro e w2 ⟨b, cK2, rfl, _, hI, hb, hc⟩; (have x2 : w2.cell? ⟨gN, x * 3 + 2, none⟩ = some (.slice K l[x].1.kids.length cK) := (by have := (hc.1.kid x hxl').1; rwa [HK.out] at this)); have z2 := own_fz hc.1.nr.1 (x * 3 + 2); have HC := As.mk hc; have HI := As.mk hI; have HB := As.mk hb; clear hc hI hb) | (go_at_call 158; refine (HC.out.top1 (by omega) (by omega) _ x HT.out HX.out hxl (by (repeat (first | exact Ext.rf _ | refine Ext.al ?_ _ | refine Ext.dr ?_ | refine Ext.dN ?_ _)))).mono ?_; rw [hk]; rintro e w3 ⟨rfl, nr, rfl⟩))
        go_ret
        exact Does.state H.out HC.out ((Ext.rf w2).dN nr) x hxl' cK2 HI.out HB.out (by simp) HR.out (by exact Ext.rf _)
    · have hr : doP m ⟨14, arg⟩ = none := by
        rw [if_neg (by simpa using hk)] at htk
        simp [doP, hn, htk]
      have HR := As.mk hr
      clear hr htk hx htd hkk hN e1 e2 hK hn
      go_enter Try.func134, Try.ntmps134
      go_wp2_with (first | (go_at_call 153; refine (nodes_m H.out (by omega) (by (repeat (first | exact Ext.rf _ | refine Ext.al ?_ _ | refine Ext.dr ?_ | refine Ext.dN ?_ _)))).mono ?_; rintro e w1 ⟨rfl, nq, rfl⟩) | (go_at_call 157; refine (take_x H.out (by omega) 1 (by omega) (by omega) (by (repeat (first | exact Ext.rf _ | refine Ext.al ?_ _ | refine Ext.dr ?_ | refine Ext.dN ?_ _))) [st m.stack 0] HKK.out.symm).mono ?_; rintro e w2 ⟨b, cK2, rfl, _, hI, hb, hc⟩; (have x2 : w2.cell? ⟨gN, x * 3 + 2, none⟩ = some (.slice K l[x].1.kids.length cK) := (by have := (hc.1.kid x hxl').1; rwa [HK.out] at this)); have z2 := own_fz hc.1.nr.1 (x * 3 + 2); have HC := As.mk hc; have HI := As.mk hI; have HB := As.mk hb; clear hc hI hb) | (go_at_call 158; refine (HC.out.top1 (by omega) (by omega) _ x HT.out HX.out hxl (by (repeat (first | exact Ext.rf _ | refine Ext.al ?_ _ | refine Ext.dr ?_ | refine Ext.dN ?_ _)))).mono ?_; rw [hk]; rintro e w3 ⟨rfl, nr, rfl⟩))
      go_ret
      exact Does.cutNo HC.out HR.out (by (repeat (first | exact Ext.rf _ | refine Ext.al ?_ _ | refine Ext.dr ?_ | refine Ext.dN ?_ _)))
  · have ht : (topN m.stack : Int) < 2 := by omega
    have hr : doP m ⟨14, arg⟩ = none := by simp [doP, hn]
    have HR := As.mk hr
    clear hr hn
    go_enter Try.func134, Try.ntmps134
    go_wp2_with (go_at_call 153; refine (nodes_m H.out (by omega) (by (repeat (first | exact Ext.rf _ | refine Ext.al ?_ _ | refine Ext.dr ?_ | refine Ext.dN ?_ _)))).mono ?_; rintro e w1 ⟨rfl, nq, rfl⟩)
    go_ret
    exact Does.no H.out HR.out (by (repeat (first | exact Ext.rf _ | refine Ext.al ?_ _ | refine Ext.dr ?_ | refine Ext.dN ?_ _)))

set_option maxRecDepth 100000 in
set_option maxHeartbeats 1000000 in
/-- OcStop. -/
theorem do_19 {B base w g l vN vS vM m} (h : MR base w g l vN vS vM m) (hok : okM B m) (hd : m.done = false) (arg : Int) :
    Calls Try.prog 134 #[.pointer (some ⟨g, 0, none⟩), .agg #[.int .i64 19, .int .i64 arg]] w (Does base g l vN vS vM m (doP m ⟨19, arg⟩) w) := by
  have hln := hok.nl
  have hls := hok.sl
  have htl := topN_le m.stack
  obtain ⟨A, c, rfl, _, _⟩ := h.rdS (by omega)
  have H := As.mk h
  have HO := As.mk hok
  clear h hok
  have c1 : ∀ o, (w.alloc o).cell? ⟨g, 1, none⟩ = _ := fun o => (H.out.ext ((Ext.rf w).al o)).mb.c1
  have c3 : ∀ o, (w.alloc o).cell? ⟨g, 3, none⟩ = some (.bool false) := fun o => by rw [← hd]; exact (H.out.ext ((Ext.rf w).al o)).mb.c3
  have f3 : ∀ o, (w.alloc o).frozen? ⟨g, 3, none⟩ = false := fun o => (H.out.ext ((Ext.rf w).al o)).mb.fz 3
  have HD := As.mk hd
  clear hd
  have hr : doP m ⟨19, arg⟩ = if m.stack.length = 1 ∧ topN m.stack = 1 then some { m with done := true } else none := by simp [doP]
  have HR := As.mk hr
  clear hr
  have hno : ∀ W, Ext w W → ¬ (m.stack.length = 1 ∧ topN m.stack = 1) → Does base g l vN (.slice A m.stack.length c) vM m (doP m ⟨19, arg⟩) w (.returned (.bool false)) (W.setCell ⟨g, 3, none⟩ (.bool false)) := fun W hW hn => by
    rw [HR.out, if_neg hn]
    have h3 := ((H.out.ext hW).fin false).left
    rw [show (false : Bool) = m.done from HD.out.symm] at h3 ⊢
    exact ⟨by rw [HD.out]; rfl, (Fr.ofExt hW).trans (Fr.set _ _ (.inl rfl)), fun m' hm' => (nomatch hm'), fun _ => h3⟩
  have HNO := As.mk hno
  clear hno
  rcases bceq (m.stack.length : Int) 1 with h1 | h1
  · rcases bceq (topN m.stack : Int) 1 with h2 | h2
    · go_enter Try.func134, Try.ntmps134
      go_wp2_with (go_at_call 153; refine (nodes_m H.out (by omega) (by (repeat (first | exact Ext.rf _ | refine Ext.al ?_ _ | refine Ext.dr ?_ | refine Ext.dN ?_ _)))).mono ?_; rintro e w1 ⟨rfl, nq, rfl⟩)
      go_ret
      rw [HR.out, if_pos ⟨by omega, by omega⟩]
      refine ⟨rfl, (Fr.ofExt (((Ext.rf w).al _).dN nq)).trans (Fr.set _ _ (.inl rfl)), fun m' hm' => ?_, fun h => nomatch h⟩
      injection hm' with hm'
      subst hm'
      exact ⟨l, vN, _, (H.out.ext (((Ext.rf w).al _).dN nq)).fin true⟩
    · go_enter Try.func134, Try.ntmps134
      go_wp2_with (go_at_call 153; refine (nodes_m H.out (by omega) (by (repeat (first | exact Ext.rf _ | refine Ext.al ?_ _ | refine Ext.dr ?_ | refine Ext.dN ?_ _)))).mono ?_; rintro e w1 ⟨rfl, nq, rfl⟩)
      go_ret
      exact HNO.out _ (((Ext.rf w).al _).dN nq) (fun h => by simp at h2; omega)
  · go_enter Try.func134, Try.ntmps134
    go_wp2_with (go_at_call 153; refine (nodes_m H.out (by omega) (by (repeat (first | exact Ext.rf _ | refine Ext.al ?_ _ | refine Ext.dr ?_ | refine Ext.dN ?_ _)))).mono ?_; rintro e w1 ⟨rfl, nq, rfl⟩)
    go_ret
    exact HNO.out _ (((Ext.rf w).al _).dN nq) (fun h => by simp at h1; omega)
end Go.Proofs.Ytcodbpjaamggeaa.C
