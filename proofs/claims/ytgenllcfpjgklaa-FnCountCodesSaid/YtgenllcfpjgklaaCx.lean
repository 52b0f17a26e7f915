/- Shapes in memory: an order. -/
import Derived.Test.YtgenllcfpjgklaaCw
set_option linter.unusedVariables false
set_option linter.unusedSimpArgs false
namespace Go.Proofs.Ytgenllcfpjgklaa.C
open Go.RowKit Go.Proofs.Ytgenllcfpjgklaa.W Go.Proofs.Ytgenllcfpjgklaa.P

theorem takeShapes_c (vK vF vS vM : Value) (s : Sh) (c arg : Int) (w : World) (hs : SV w vK vF vS vM s) (hok : okS s) (ho : okO ⟨c, arg⟩ = true) (hc : c = 5 ∨ c = 6 ∨ c = 8 ∨ c = 11 ∨ c = 14 ∨ c = 15 ∨ c = 17 ∨ c = 19) :
    Calls Try.prog 120 #[.agg #[vK, vF, vS, vM, .bool s.done], .agg #[.int .i64 c, .int .i64 arg]] w (TPost vK vF vS vM (takeS s ⟨c, arg⟩) w) := by
  rcases hc with rfl | rfl | rfl | rfl | rfl | rfl | rfl | rfl
  · exact take_5 vK vF vS vM s arg w hs hok
  · exact take_6 vK vF vS vM s arg w hs hok
  · exact take_8 vK vF vS vM s arg w hs hok
  · exact take_11 vK vF vS vM s arg w hs hok
  · exact take_14 vK vF vS vM s arg w hs hok
  · have h := of_decide_eq_true ho
    exact take_15 vK vF vS vM s arg w hs hok h.2.2.1 h.2.2.2
  · exact take_17 vK vF vS vM s arg w hs hok
  · exact take_19 vK vF vS vM s arg w hs hok
/-- What a call leaves in the box. -/
theorem Box.put {v0K v0F v0S v0M w0 w w' g g2 vK vF vS vM s vK' vF' vS' vM' s'} (h : Box v0K v0F v0S v0M w0 w g g2 vK vF vS vM s) (hp : SPost vK vF vS vM s' w vK' vF' vS' vM' w') :
    Box v0K v0F v0S v0M w0 (((((w'.setCell ⟨g, 0, none⟩ vK').setCell ⟨g, 1, none⟩ vF').setCell ⟨g, 2, none⟩ vS').setCell ⟨g, 3, none⟩ vM').setCell ⟨g, 4, none⟩ (.bool s'.done)) g g2 vK' vF' vS' vM' s' := by
  have hb := hp.2.1.blk h.b (fun e => h.v.nb h.b e)
  have hr := hp.2.1.blk h.r (fun e => h.v.nb h.r e)
  have hf := Fr.set5 (S := fun k => k = g) (w := w') (g := g) rfl vK' vF' vS' vM' (.bool s'.done)
  refine ⟨SB.all _ _ _ _ _ hb, hf.blk hr h.ne.symm, hp.1.fr hf (fun k hk e => hp.1.nb hb (by rw [← e]; exact hk)), (h.f.then hp.2.1 (fun i hi => h.o i hi)).then hf (fun i hi => .inr (by have := h.lo.1; omega)), fun k hk => ?_, h.ne, h.lo⟩
  rcases hp.2.2 k hk with e | e
  · exact h.o k e
  · have := h.f.size; exact .inr (by omega)
/-- Whatever a call leaves. -/
theorem Box.bad {v0K v0F v0S v0M w0 w w' g g2 vK vF vS vM s} (h : Box v0K v0F v0S v0M w0 w g g2 vK vF vS vM s) (hf : Fr (SF vK vF vS vM) w w') :
    SB w' g vK vF vS vM s.done ∧ SB w' g2 (.slice none 0 0) (.slice none 0 0) (.slice none 0 0) (.slice none 0 0) false ∧ (∀ a b c d x a' b' c' d' x', Fr (SF v0K v0F v0S v0M) w0 ((((((((((w'.setCell ⟨g, 0, none⟩ a).setCell ⟨g, 1, none⟩ b).setCell ⟨g, 2, none⟩ c).setCell ⟨g, 3, none⟩ d).setCell ⟨g, 4, none⟩ x).setCell ⟨g2, 0, none⟩ a').setCell ⟨g2, 1, none⟩ b').setCell ⟨g2, 2, none⟩ c').setCell ⟨g2, 3, none⟩ d').setCell ⟨g2, 4, none⟩ x')) := by
  refine ⟨hf.blk h.b (fun e => h.v.nb h.b e), hf.blk h.r (fun e => h.v.nb h.r e), fun a b c d x a' b' c' d' x' => ?_⟩
  have h1 := Fr.set5 (S := fun k => k = g) (w := w') (g := g) rfl a b c d x
  have h2 := Fr.set5 (S := fun k => k = g2) (w := (((((w'.setCell ⟨g, 0, none⟩ a).setCell ⟨g, 1, none⟩ b).setCell ⟨g, 2, none⟩ c).setCell ⟨g, 3, none⟩ d).setCell ⟨g, 4, none⟩ x)) (g := g2) rfl a' b' c' d' x'
  exact ((h.f.then hf (fun i hi => h.o i hi)).then h1 (fun i hi => .inr (by have := h.lo.1; omega))).then h2 (fun i hi => .inr (by have := h.lo.2; omega))
theorem newKind_c (c : Int) (w : World) : Calls Try.prog 117 #[.int .i64 c] w fun e w' => e = .returned (.int .i64 (newK c)) ∧ w = w' := by
  by_cases h0 : c = 0
  · subst h0; go_enter Try.func117, Try.ntmps117; go_wp2; go_ret; exact ⟨rfl, rfl⟩
  by_cases h1 : c = 1
  · subst h1; go_enter Try.func117, Try.ntmps117; go_wp2; go_ret; exact ⟨rfl, rfl⟩
  by_cases h2 : c = 4
  · subst h2; go_enter Try.func117, Try.ntmps117; go_wp2; go_ret; exact ⟨rfl, rfl⟩
  by_cases h3 : c = 7
  · subst h3; go_enter Try.func117, Try.ntmps117; go_wp2; go_ret; exact ⟨rfl, rfl⟩
  by_cases h4 : c = 10
  · subst h4; go_enter Try.func117, Try.ntmps117; go_wp2; go_ret; exact ⟨rfl, rfl⟩
  by_cases h5 : c = 13
  · subst h5; go_enter Try.func117, Try.ntmps117; go_wp2; go_ret; exact ⟨rfl, rfl⟩
  go_enter Try.func117, Try.ntmps117
  go_wp2
  go_ret
  exact ⟨by simp [newK, h0, h1, h2, h3, h4, h5], rfl⟩
def memoS (s : Sh) (k : Nat) : Option Sh := if s.memo.getD k 0 < 0 then none else fitS (some { s with stack := s.stack ++ [s.memo.getD k 0] })
theorem fit_some {s : Sh} (h1 : s.kinds.length ≤ 300) (h2 : s.stack.length ≤ 300) : fitS (some s) = some s := if_pos ⟨h1, h2⟩
theorem fit_none {s : Sh} (h : ¬ (s.kinds.length ≤ 300 ∧ s.stack.length ≤ 300)) : fitS (some s) = none := if_neg h

set_option maxRecDepth 100000 in
set_option maxHeartbeats 1000000 in
theorem step_done (vK vF vS vM : Value) (s : Sh) (c arg : Int) (w : World) (hs : SV w vK vF vS vM s) (hok : okS s) (hd : s.done = true) :
    Calls Try.prog 96 #[.agg #[vK, vF, vS, vM, .bool s.done], .agg #[.int .i64 c, .int .i64 arg]] w (TPost vK vF vS vM (none) w) := by
  obtain ⟨AK, cK, AF, cF, AS, cS, AM, cM, rfl, rfl, rfl, rfl, q1, q2, q3, q4, r1, r2, r3, r4⟩ := hs.rd hok.siz.k hok.siz.f hok.siz.t hok.siz.m
  have hkl := hok.kl
  have hsl := hok.sl
  have HN := As.mk (Box.new2 hs c arg)
  have HOK := As.mk hok
  clear hs hok r1 r2 r3 r4
  have HD := As.mk hd
  clear hd
  go_enter Try.func96, Try.ntmps96
  go_upto_region 1 with fail
  generalize ((w.alloc (.cells #[.slice AK s.kinds.length cK, .slice AF s.full.length cF, .slice AS s.stack.length cS, .slice AM s.memo.length cM, .bool s.done] 91)).alloc (.cells #[.int .i64 c, .int .i64 arg] 52)).alloc (.cells #[.slice none 0 0, .slice none 0 0, .slice none 0 0, .slice none 0 0, .bool false] 91) = w1 at HN ⊢
  have HB := As.mk HN.out.1
  have HO := As.mk HN.out.2
  have o0 := OB.c0 HO.out
  have o1 := OB.c1 HO.out
  clear HN
  have c0 := HB.out.b.c0; have c1 := HB.out.b.c1; have c2 := HB.out.b.c2; have c3 := HB.out.b.c3; have c4 := HB.out.b.c4
  have b0 := HB.out.b.fz 0; have b1 := HB.out.b.fz 1; have b2 := HB.out.b.fz 2; have b3 := HB.out.b.fz 3; have b4 := HB.out.b.fz 4
  rw [HD.out] at c4
  go_upto_region 3 with fail
  clear c4
  have c4 := HB.out.b.c4
  have d0 := HB.out.r.c0; have d1 := HB.out.r.c1; have d2 := HB.out.r.c2; have d3 := HB.out.r.c3; have d4 := HB.out.r.c4
  have f0 := HB.out.r.fz 0; have f1 := HB.out.r.fz 1; have f2 := HB.out.r.fz 2; have f3 := HB.out.r.fz 3; have f4 := HB.out.r.fz 4
  go_wp2_with fail
  have ho := HB.out.out
  refine bodyPost_ret (results_cellt rfl _ _ (w.heap.size + 1 + 1) _ rfl (loadS ho.1)) rfl ?_
  exact HB.out.tpost none (.inl rfl)
set_option maxRecDepth 100000 in
set_option maxHeartbeats 1000000 in
theorem step_new (vK vF vS vM : Value) (s : Sh) (c arg kd : Int) (w : World) (hs : SV w vK vF vS vM s) (hok : okS s) (hk : newK c = kd) (hk0 : 0 ≤ kd) (hd : s.done = false) :
    Calls Try.prog 96 #[.agg #[vK, vF, vS, vM, .bool s.done], .agg #[.int .i64 c, .int .i64 arg]] w (TPost vK vF vS vM (fitS (some (pushS s kd))) w) := by
  obtain ⟨AK, cK, AF, cF, AS, cS, AM, cM, rfl, rfl, rfl, rfl, q1, q2, q3, q4, r1, r2, r3, r4⟩ := hs.rd hok.siz.k hok.siz.f hok.siz.t hok.siz.m
  have hkl := hok.kl
  have hsl := hok.sl
  have HN := As.mk (Box.new2 hs c arg)
  have HOK := As.mk hok
  clear hs hok r1 r2 r3 r4
  have HD := As.mk hd
  have HK := As.mk hk
  clear hd hk
  go_enter Try.func96, Try.ntmps96
  go_upto_region 1 with fail
  generalize ((w.alloc (.cells #[.slice AK s.kinds.length cK, .slice AF s.full.length cF, .slice AS s.stack.length cS, .slice AM s.memo.length cM, .bool s.done] 91)).alloc (.cells #[.int .i64 c, .int .i64 arg] 52)).alloc (.cells #[.slice none 0 0, .slice none 0 0, .slice none 0 0, .slice none 0 0, .bool false] 91) = w1 at HN ⊢
  have HB := As.mk HN.out.1
  have HO := As.mk HN.out.2
  have o0 := OB.c0 HO.out
  have o1 := OB.c1 HO.out
  clear HN
  have c0 := HB.out.b.c0; have c1 := HB.out.b.c1; have c2 := HB.out.b.c2; have c3 := HB.out.b.c3; have c4 := HB.out.b.c4
  have b0 := HB.out.b.fz 0; have b1 := HB.out.b.fz 1; have b2 := HB.out.b.fz 2; have b3 := HB.out.b.fz 3; have b4 := HB.out.b.fz 4
  rw [HD.out] at c4
  go_upto_region 6 with (go_at_call 117; refine (newKind_c _ _).mono ?_; rw [HK.out]; rintro e w2 ⟨rfl, rfl⟩)
  refine region_perm (fun w' => w'.cell? ⟨w.heap.size, 0, none⟩ = some (.slice AK s.kinds.length cK) ∧ w'.cell? ⟨w.heap.size, 1, none⟩ = some (.slice AF s.full.length cF) ∧ w'.cell? ⟨w.heap.size, 2, none⟩ = some (.slice AS s.stack.length cS) ∧ w'.cell? ⟨w.heap.size, 3, none⟩ = some (.slice AM s.memo.length cM) ∧ w'.cell? ⟨w.heap.size, 4, none⟩ = some (.bool false) ∧ w'.cell? ⟨w.heap.size + 1, 0, none⟩ = some (.int .i64 c)) [4, 5] [(0, 1), (1, 0), (2, 1), (3, 2), (4, 3), (5, 3)] (by kernel_rfl) (by kernel_rfl) rfl (by kernel_rfl) (fun _ _ _ _ h => h) ?_
  generalize hwd : World.drew w1 = w2
  have hS := (show _ ∧ _ ∧ _ ∧ _ ∧ _ ∧ _ from ⟨c0, c1, c2, c3, c4, o0⟩)
  have hS : w2.cell? ⟨w.heap.size, 0, none⟩ = some (.slice AK s.kinds.length cK) ∧ w2.cell? ⟨w.heap.size, 1, none⟩ = some (.slice AF s.full.length cF) ∧ w2.cell? ⟨w.heap.size, 2, none⟩ = some (.slice AS s.stack.length cS) ∧ w2.cell? ⟨w.heap.size, 3, none⟩ = some (.slice AM s.memo.length cM) ∧ w2.cell? ⟨w.heap.size, 4, none⟩ = some (.bool false) ∧ w2.cell? ⟨w.heap.size + 1, 0, none⟩ = some (.int .i64 c) := by rw [← hwd]; exact hS
  have hb6 := HB.out.ext (show Ext w1 w2 by rw [← hwd]; exact (Ext.rf w1).dr)
  clear hwd HB HO o0 o1 c0 c1 c2 c3 c4 b0 b1 b2 b3 b4
  have HB := As.mk hb6
  clear hb6
  repeat (first | refine wpP.c0 (h := ?_) | refine wpP.c1 hS (h := ?_))
  refine wpP.ev (h := fun Kv hKv => ?_)
  go_wp2_with (go_at_call 117; refine (newKind_c _ _).mono ?_; rw [HK.out]; rintro e w3 ⟨rfl, rfl⟩)
  refine hKv.out _ _ hS ?_
  clear hKv Kv
  obtain ⟨s1, hs1⟩ : ∃ s1, s1 = pushS s kd := ⟨_, rfl⟩
  have H1 := As.mk hs1
  clear hs1
  refine wpP.last (h := fun Kv hKv => ?_)
  go_wp2_with (go_at_call 118; refine ((show Calls Try.prog 118 #[.agg #[.slice AK s.kinds.length cK, .slice AF s.full.length cF, .slice AS s.stack.length cS, .slice AM s.memo.length cM, .bool false], .int .i64 kd] _ _ from by rw [← HD.out]; exact pushShape_c _ _ _ _ s kd _ HB.out.v HOK.out.siz.k HOK.out.siz.f HOK.out.siz.t)).mono ?_; rw [← H1.out]; rintro e w3 ⟨vK', vF', vS', vM', rfl, hp⟩; obtain ⟨B1, e1, B2, e2, B3, e3, B4, e4, rfl, rfl, rfl, rfl⟩ := hp.1.forms; have HP := As.mk hp; clear hp)
  refine hKv.out _ _ ?_
  clear hKv Kv
  have hd1 : s.done = s1.done := by rw [H1.out]; rfl
  have hbb := (HB.out.bad HP.out.2.1).1
  rw [hd1] at hbb
  have c0 := hbb.c0; have c1 := hbb.c1; have c2 := hbb.c2; have c3 := hbb.c3; have c4 := hbb.c4
  have b0 := hbb.fz 0; have b1 := hbb.fz 1; have b2 := hbb.fz 2; have b3 := hbb.fz 3; have b4 := hbb.fz 4
  have hpp := HB.out.put HP.out
  rw [hd1]
  have HD1 := As.mk hd1
  clear hbb hS hd1
  refine wpP.last (h := fun Kv hKv => ?_)
  go_wp2_with fail
  refine hKv.out _ _ (wpP.done ?_)
  clear hKv Kv c0 c1 c2 c3 c4 b0 b1 b2 b3 b4
  have HR : As (fitS (some (pushS s kd)) = fitS (some s1)) := ⟨by rw [H1.out]⟩
  clear HB
  generalize (((((w3.setCell ⟨w.heap.size, 0, none⟩ (.slice B1 s1.kinds.length e1)).setCell ⟨w.heap.size, 1, none⟩ (.slice B2 s1.full.length e2)).setCell ⟨w.heap.size, 2, none⟩ (.slice B3 s1.stack.length e3)).setCell ⟨w.heap.size, 3, none⟩ (.slice B4 s1.memo.length e4)).setCell ⟨w.heap.size, 4, none⟩ (.bool s1.done)) = w5 at hpp ⊢
  have HB := As.mk hpp
  clear hpp
  go_upto_region 15 with fail
  rcases bcase ((s1.kinds.length : Int) ≤ 300) with h1 | h1
  · rcases bcase ((s1.stack.length : Int) ≤ 300) with h2 | h2
    · refine region_perm (fun w' => w'.cell? ⟨w.heap.size, 0, none⟩ = some (.slice B1 s1.kinds.length e1) ∧ w'.cell? ⟨w.heap.size, 1, none⟩ = some (.slice B2 s1.full.length e2) ∧ w'.cell? ⟨w.heap.size, 2, none⟩ = some (.slice B3 s1.stack.length e3) ∧ w'.cell? ⟨w.heap.size, 3, none⟩ = some (.slice B4 s1.memo.length e4) ∧ w'.cell? ⟨w.heap.size, 4, none⟩ = some (.bool s1.done)) [] [(0, 1), (1, 0), (2, 0), (3, 0), (4, 1), (5, 0), (6, 0), (7, 0), (8, 0), (9, 0), (10, 1), (11, 0), (12, 0), (13, 0), (14, 2), (15, 0)] (by kernel_rfl) (by kernel_rfl) rfl (by kernel_rfl) (fun _ _ _ _ h => h) ?_
      generalize hwd : World.drew w5 = w6
      have hb6 := HB.out.ext (show Ext w5 w6 by rw [← hwd]; exact (Ext.rf w5).dr)
      clear hwd HB
      have HB := As.mk hb6
      have hS := And.intro hb6.b.c0 (And.intro hb6.b.c1 (And.intro hb6.b.c2 (And.intro hb6.b.c3 hb6.b.c4)))
      clear hb6
      repeat (first | refine wpP.c0 (h := ?_) | refine wpP.c1 hS (h := ?_) | refine wpP.c0off (h := ?_) | refine wpP.c1off hS (h := ?_))
      refine wpP.ev (h := fun Kv hKv => ?_)
      have d0 := HB.out.r.c0; have d1 := HB.out.r.c1; have d2 := HB.out.r.c2; have d3 := HB.out.r.c3; have d4 := HB.out.r.c4
      have f0 := HB.out.r.fz 0; have f1 := HB.out.r.fz 1; have f2 := HB.out.r.fz 2; have f3 := HB.out.r.fz 3; have f4 := HB.out.r.fz 4
      go_wp2_with fail
      have hbo := (Fr.set5 (S := fun k => k = w.heap.size + 1 + 1) (w := w6) (g := w.heap.size + 1 + 1) rfl (.slice B1 s1.kinds.length e1) (.slice B2 s1.full.length e2) (.slice B3 s1.stack.length e3) (.slice B4 s1.memo.length e4) (.bool s1.done)).blk HB.out.b HB.out.ne
      refine hKv.out _ _ (And.intro (SB.c0 hbo) (And.intro (SB.c1 hbo) (And.intro (SB.c2 hbo) (And.intro (SB.c3 hbo) (SB.c4 hbo))))) ?_
      clear hbo
      clear hKv Kv hS d0 d1 d2 d3 d4 f0 f1 f2 f3 f4
      repeat (first | refine wpP.c0 (h := ?_))
      refine wpP.done ?_
      go_wp2_with fail
      have ho := HB.out.out
      refine bodyPost_ret (results_cellt rfl _ _ (w.heap.size + 1 + 1) _ rfl (loadS ho.1)) rfl ?_
      rw [HR.out, fit_some (by omega) (by omega)]
      exact HB.out.tpost _ (.inr rfl)
    · refine region_perm (fun w' => w'.cell? ⟨w.heap.size, 0, none⟩ = some (.slice B1 s1.kinds.length e1) ∧ w'.cell? ⟨w.heap.size, 1, none⟩ = some (.slice B2 s1.full.length e2) ∧ w'.cell? ⟨w.heap.size, 2, none⟩ = some (.slice B3 s1.stack.length e3) ∧ w'.cell? ⟨w.heap.size, 3, none⟩ = some (.slice B4 s1.memo.length e4) ∧ w'.cell? ⟨w.heap.size, 4, none⟩ = some (.bool s1.done)) [] [(0, 1), (1, 0), (2, 0), (3, 0), (4, 1), (5, 0), (6, 0), (7, 0), (8, 0), (9, 0), (10, 1), (11, 0), (12, 0), (13, 0), (14, 2), (15, 0)] (by kernel_rfl) (by kernel_rfl) rfl (by kernel_rfl) (fun _ _ _ _ h => h) ?_
      generalize hwd : World.drew w5 = w6
      have hb6 := HB.out.ext (show Ext w5 w6 by rw [← hwd]; exact (Ext.rf w5).dr)
      clear hwd HB
      have HB := As.mk hb6
      have hS := And.intro hb6.b.c0 (And.intro hb6.b.c1 (And.intro hb6.b.c2 (And.intro hb6.b.c3 hb6.b.c4)))
      clear hb6
      repeat (first | refine wpP.c0 (h := ?_) | refine wpP.c1 hS (h := ?_) | refine wpP.c0off (h := ?_) | refine wpP.c1off hS (h := ?_))
      refine wpP.ev (h := fun Kv hKv => ?_)
      have d0 := HB.out.r.c0; have d1 := HB.out.r.c1; have d2 := HB.out.r.c2; have d3 := HB.out.r.c3; have d4 := HB.out.r.c4
      have f0 := HB.out.r.fz 0; have f1 := HB.out.r.fz 1; have f2 := HB.out.r.fz 2; have f3 := HB.out.r.fz 3; have f4 := HB.out.r.fz 4
      go_wp2_with fail
      have hbo := (Fr.set5 (S := fun k => k = w.heap.size + 1 + 1) (w := w6) (g := w.heap.size + 1 + 1) rfl (.slice B1 s1.kinds.length e1) (.slice B2 s1.full.length e2) (.slice B3 s1.stack.length e3) (.slice B4 s1.memo.length e4) (.bool s1.done)).blk HB.out.b HB.out.ne
      refine hKv.out _ _ (And.intro (SB.c0 hbo) (And.intro (SB.c1 hbo) (And.intro (SB.c2 hbo) (And.intro (SB.c3 hbo) (SB.c4 hbo))))) ?_
      clear hbo
      clear hKv Kv hS d0 d1 d2 d3 d4 f0 f1 f2 f3 f4
      repeat (first | refine wpP.c0 (h := ?_))
      refine wpP.done ?_
      go_wp2_with fail
      have ho := HB.out.out
      refine bodyPost_ret (results_cellt rfl _ _ (w.heap.size + 1 + 1) _ rfl (loadS ho.1)) rfl ?_
      rw [HR.out, fit_none (by simp at h2; omega)]
      exact HB.out.tpost none (.inl rfl)
  · refine region_perm (fun w' => w'.cell? ⟨w.heap.size, 0, none⟩ = some (.slice B1 s1.kinds.length e1) ∧ w'.cell? ⟨w.heap.size, 1, none⟩ = some (.slice B2 s1.full.length e2) ∧ w'.cell? ⟨w.heap.size, 2, none⟩ = some (.slice B3 s1.stack.length e3) ∧ w'.cell? ⟨w.heap.size, 3, none⟩ = some (.slice B4 s1.memo.length e4) ∧ w'.cell? ⟨w.heap.size, 4, none⟩ = some (.bool s1.done)) [] [(0, 1), (1, 0), (2, 0), (3, 0), (4, 1), (5, 0), (6, 0), (7, 0), (8, 0), (9, 0), (10, 1), (11, 0), (12, 0), (13, 0), (14, 2), (15, 0)] (by kernel_rfl) (by kernel_rfl) rfl (by kernel_rfl) (fun _ _ _ _ h => h) ?_
    generalize hwd : World.drew w5 = w6
    have hb6 := HB.out.ext (show Ext w5 w6 by rw [← hwd]; exact (Ext.rf w5).dr)
    clear hwd HB
    have HB := As.mk hb6
    have hS := And.intro hb6.b.c0 (And.intro hb6.b.c1 (And.intro hb6.b.c2 (And.intro hb6.b.c3 hb6.b.c4)))
    clear hb6
    repeat (first | refine wpP.c0 (h := ?_) | refine wpP.c1 hS (h := ?_) | refine wpP.c0off (h := ?_) | refine wpP.c1off hS (h := ?_))
    refine wpP.ev (h := fun Kv hKv => ?_)
    have d0 := HB.out.r.c0; have d1 := HB.out.r.c1; have d2 := HB.out.r.c2; have d3 := HB.out.r.c3; have d4 := HB.out.r.c4
    have f0 := HB.out.r.fz 0; have f1 := HB.out.r.fz 1; have f2 := HB.out.r.fz 2; have f3 := HB.out.r.fz 3; have f4 := HB.out.r.fz 4
    go_wp2_with fail
    have hbo := (Fr.set5 (S := fun k => k = w.heap.size + 1 + 1) (w := w6) (g := w.heap.size + 1 + 1) rfl (.slice B1 s1.kinds.length e1) (.slice B2 s1.full.length e2) (.slice B3 s1.stack.length e3) (.slice B4 s1.memo.length e4) (.bool s1.done)).blk HB.out.b HB.out.ne
    refine hKv.out _ _ (And.intro (SB.c0 hbo) (And.intro (SB.c1 hbo) (And.intro (SB.c2 hbo) (And.intro (SB.c3 hbo) (SB.c4 hbo))))) ?_
    clear hbo
    clear hKv Kv hS d0 d1 d2 d3 d4 f0 f1 f2 f3 f4
    repeat (first | refine wpP.c0 (h := ?_))
    refine wpP.done ?_
    go_wp2_with fail
    have ho := HB.out.out
    refine bodyPost_ret (results_cellt rfl _ _ (w.heap.size + 1 + 1) _ rfl (loadS ho.1)) rfl ?_
    rw [HR.out, fit_none (by simp at h1; omega)]
    exact HB.out.tpost none (.inl rfl)
set_option maxRecDepth 100000 in
set_option maxHeartbeats 1000000 in
theorem step_2 (vK vF vS vM : Value) (s : Sh) (arg : Int) (w : World) (hs : SV w vK vF vS vM s) (hok : okS s) (hd : s.done = false) :
    Calls Try.prog 96 #[.agg #[vK, vF, vS, vM, .bool s.done], .agg #[.int .i64 2, .int .i64 arg]] w (TPost vK vF vS vM (fitS (some { s with stack := s.stack ++ [-1] })) w) := by
  obtain ⟨AK, cK, AF, cF, AS, cS, AM, cM, rfl, rfl, rfl, rfl, q1, q2, q3, q4, r1, r2, r3, r4⟩ := hs.rd hok.siz.k hok.siz.f hok.siz.t hok.siz.m
  have hkl := hok.kl
  have hsl := hok.sl
  have HN := As.mk (Box.new2 hs 2 arg)
  have HOK := As.mk hok
  clear hs hok r1 r2 r3 r4
  have HD := As.mk hd
  have HK : As (newK 2 = -1) := ⟨rfl⟩
  clear hd
  go_enter Try.func96, Try.ntmps96
  go_upto_region 1 with fail
  generalize ((w.alloc (.cells #[.slice AK s.kinds.length cK, .slice AF s.full.length cF, .slice AS s.stack.length cS, .slice AM s.memo.length cM, .bool s.done] 91)).alloc (.cells #[.int .i64 2, .int .i64 arg] 52)).alloc (.cells #[.slice none 0 0, .slice none 0 0, .slice none 0 0, .slice none 0 0, .bool false] 91) = w1 at HN ⊢
  have HB := As.mk HN.out.1
  have HO := As.mk HN.out.2
  have o0 := OB.c0 HO.out
  have o1 := OB.c1 HO.out
  clear HN
  have c0 := HB.out.b.c0; have c1 := HB.out.b.c1; have c2 := HB.out.b.c2; have c3 := HB.out.b.c3; have c4 := HB.out.b.c4
  have b0 := HB.out.b.fz 0; have b1 := HB.out.b.fz 1; have b2 := HB.out.b.fz 2; have b3 := HB.out.b.fz 3; have b4 := HB.out.b.fz 4
  rw [HD.out] at c4
  have hnm : 0 ≤ 1 := by omega
  go_upto_region 15 with (first | (go_at_call 117; refine (newKind_c _ _).mono ?_; rw [HK.out]; rintro e w2 ⟨rfl, rfl⟩) | (at_builtin; refine app_int rfl _ _ rfl (.slice AS s.stack.length cS) s.stack (-1) rfl rfl HB.out.v.t (by omega) ?_; intro gS cS' w2 hap; have hb : SB w2 w.heap.size _ _ _ _ s.done := hap.2.1.blk HB.out.b (fun e => HB.out.v.nb HB.out.b (.inr (.inr (.inl e)))); have HP := As.mk hap; clear hap; have e0 := hb.c2; have f0 := hb.fz 2; clear hb))
  have hb3 := HB.out.t HP.out.1 HP.out.2.1 (fresh_of HP.out.2.2.1)
  clear HB HP e0 f0 c0 c1 c2 c3 c4 b0 b1 b2 b3 b4 o0 o1 HO
  simp only [List.length_append, List.length_singleton] at hb3
  generalize (w2.setCell ⟨w.heap.size, 2, none⟩ (.slice (some ⟨gS, 0, none⟩) (s.stack.length + 1) cS')) = w5 at hb3 ⊢
  have HB := As.mk hb3
  clear hb3
  rcases bcase ((s.kinds.length : Int) ≤ 300) with h1 | h1
  · rcases bcase ((s.stack.length : Int) + 1 ≤ 300) with h2 | h2
    · refine region_perm (fun w' => w'.cell? ⟨w.heap.size, 0, none⟩ = some (.slice AK s.kinds.length cK) ∧ w'.cell? ⟨w.heap.size, 1, none⟩ = some (.slice AF s.full.length cF) ∧ w'.cell? ⟨w.heap.size, 2, none⟩ = some (.slice (some ⟨gS, 0, none⟩) (s.stack.length + 1) cS') ∧ w'.cell? ⟨w.heap.size, 3, none⟩ = some (.slice AM s.memo.length cM) ∧ w'.cell? ⟨w.heap.size, 4, none⟩ = some (.bool s.done)) [] [(0, 1), (1, 0), (2, 0), (3, 0), (4, 1), (5, 0), (6, 0), (7, 0), (8, 0), (9, 0), (10, 1), (11, 0), (12, 0), (13, 0), (14, 2), (15, 0)] (by kernel_rfl) (by kernel_rfl) rfl (by kernel_rfl) (fun _ _ _ _ h => h) ?_
      generalize hwd : World.drew w5 = w6
      have hb6 := HB.out.ext (show Ext w5 w6 by rw [← hwd]; exact (Ext.rf w5).dr)
      clear hwd HB
      have HB := As.mk hb6
      have hS := And.intro hb6.b.c0 (And.intro hb6.b.c1 (And.intro hb6.b.c2 (And.intro hb6.b.c3 hb6.b.c4)))
      clear hb6
      repeat (first | refine wpP.c0 (h := ?_) | refine wpP.c1 hS (h := ?_) | refine wpP.c0off (h := ?_) | refine wpP.c1off hS (h := ?_))
      refine wpP.ev (h := fun Kv hKv => ?_)
      have d0 := HB.out.r.c0; have d1 := HB.out.r.c1; have d2 := HB.out.r.c2; have d3 := HB.out.r.c3; have d4 := HB.out.r.c4
      have f0 := HB.out.r.fz 0; have f1 := HB.out.r.fz 1; have f2 := HB.out.r.fz 2; have f3 := HB.out.r.fz 3; have f4 := HB.out.r.fz 4
      go_wp2_with fail
      have hbo := (Fr.set5 (S := fun k => k = w.heap.size + 1 + 1) (w := w6) (g := w.heap.size + 1 + 1) rfl (.slice AK s.kinds.length cK) (.slice AF s.full.length cF) (.slice (some ⟨gS, 0, none⟩) (s.stack.length + 1) cS') (.slice AM s.memo.length cM) (.bool s.done)).blk HB.out.b HB.out.ne
      refine hKv.out _ _ (And.intro (SB.c0 hbo) (And.intro (SB.c1 hbo) (And.intro (SB.c2 hbo) (And.intro (SB.c3 hbo) (SB.c4 hbo))))) ?_
      clear hbo
      clear hKv Kv hS d0 d1 d2 d3 d4 f0 f1 f2 f3 f4
      repeat (first | refine wpP.c0 (h := ?_))
      refine wpP.done ?_
      go_wp2_with fail
      have ho := HB.out.out
      refine bodyPost_ret (results_cellt rfl _ _ (w.heap.size + 1 + 1) _ rfl (loadS ho.1)) rfl ?_
      rw [fit_some (by show s.kinds.length ≤ 300; omega) (by simp only [List.length_append, List.length_singleton]; omega)]
      exact HB.out.tpost _ (.inr rfl)
    · refine region_perm (fun w' => w'.cell? ⟨w.heap.size, 0, none⟩ = some (.slice AK s.kinds.length cK) ∧ w'.cell? ⟨w.heap.size, 1, none⟩ = some (.slice AF s.full.length cF) ∧ w'.cell? ⟨w.heap.size, 2, none⟩ = some (.slice (some ⟨gS, 0, none⟩) (s.stack.length + 1) cS') ∧ w'.cell? ⟨w.heap.size, 3, none⟩ = some (.slice AM s.memo.length cM) ∧ w'.cell? ⟨w.heap.size, 4, none⟩ = some (.bool s.done)) [] [(0, 1), (1, 0), (2, 0), (3, 0), (4, 1), (5, 0), (6, 0), (7, 0), (8, 0), (9, 0), (10, 1), (11, 0), (12, 0), (13, 0), (14, 2), (15, 0)] (by kernel_rfl) (by kernel_rfl) rfl (by kernel_rfl) (fun _ _ _ _ h => h) ?_
      generalize hwd : World.drew w5 = w6
      have hb6 := HB.out.ext (show Ext w5 w6 by rw [← hwd]; exact (Ext.rf w5).dr)
      clear hwd HB
      have HB := As.mk hb6
      have hS := And.intro hb6.b.c0 (And.intro hb6.b.c1 (And.intro hb6.b.c2 (And.intro hb6.b.c3 hb6.b.c4)))
      clear hb6
      repeat (first | refine wpP.c0 (h := ?_) | refine wpP.c1 hS (h := ?_) | refine wpP.c0off (h := ?_) | refine wpP.c1off hS (h := ?_))
      refine wpP.ev (h := fun Kv hKv => ?_)
      have d0 := HB.out.r.c0; have d1 := HB.out.r.c1; have d2 := HB.out.r.c2; have d3 := HB.out.r.c3; have d4 := HB.out.r.c4
      have f0 := HB.out.r.fz 0; have f1 := HB.out.r.fz 1; have f2 := HB.out.r.fz 2; have f3 := HB.out.r.fz 3; have f4 := HB.out.r.fz 4
      go_wp2_with fail
      have hbo := (Fr.set5 (S := fun k => k = w.heap.size + 1 + 1) (w := w6) (g := w.heap.size + 1 + 1) rfl (.slice AK s.kinds.length cK) (.slice AF s.full.length cF) (.slice (some ⟨gS, 0, none⟩) (s.stack.length + 1) cS') (.slice AM s.memo.length cM) (.bool s.done)).blk HB.out.b HB.out.ne
      refine hKv.out _ _ (And.intro (SB.c0 hbo) (And.intro (SB.c1 hbo) (And.intro (SB.c2 hbo) (And.intro (SB.c3 hbo) (SB.c4 hbo))))) ?_
      clear hbo
      clear hKv Kv hS d0 d1 d2 d3 d4 f0 f1 f2 f3 f4
      repeat (first | refine wpP.c0 (h := ?_))
      refine wpP.done ?_
      go_wp2_with fail
      have ho := HB.out.out
      refine bodyPost_ret (results_cellt rfl _ _ (w.heap.size + 1 + 1) _ rfl (loadS ho.1)) rfl ?_
      rw [fit_none (fun h => by have := h.2; simp only [List.length_append, List.length_singleton] at this; simp at h2; omega)]
      exact HB.out.tpost none (.inl rfl)
  · refine region_perm (fun w' => w'.cell? ⟨w.heap.size, 0, none⟩ = some (.slice AK s.kinds.length cK) ∧ w'.cell? ⟨w.heap.size, 1, none⟩ = some (.slice AF s.full.length cF) ∧ w'.cell? ⟨w.heap.size, 2, none⟩ = some (.slice (some ⟨gS, 0, none⟩) (s.stack.length + 1) cS') ∧ w'.cell? ⟨w.heap.size, 3, none⟩ = some (.slice AM s.memo.length cM) ∧ w'.cell? ⟨w.heap.size, 4, none⟩ = some (.bool s.done)) [] [(0, 1), (1, 0), (2, 0), (3, 0), (4, 1), (5, 0), (6, 0), (7, 0), (8, 0), (9, 0), (10, 1), (11, 0), (12, 0), (13, 0), (14, 2), (15, 0)] (by kernel_rfl) (by kernel_rfl) rfl (by kernel_rfl) (fun _ _ _ _ h => h) ?_
    generalize hwd : World.drew w5 = w6
    have hb6 := HB.out.ext (show Ext w5 w6 by rw [← hwd]; exact (Ext.rf w5).dr)
    clear hwd HB
    have HB := As.mk hb6
    have hS := And.intro hb6.b.c0 (And.intro hb6.b.c1 (And.intro hb6.b.c2 (And.intro hb6.b.c3 hb6.b.c4)))
    clear hb6
    repeat (first | refine wpP.c0 (h := ?_) | refine wpP.c1 hS (h := ?_) | refine wpP.c0off (h := ?_) | refine wpP.c1off hS (h := ?_))
    refine wpP.ev (h := fun Kv hKv => ?_)
    have d0 := HB.out.r.c0; have d1 := HB.out.r.c1; have d2 := HB.out.r.c2; have d3 := HB.out.r.c3; have d4 := HB.out.r.c4
    have f0 := HB.out.r.fz 0; have f1 := HB.out.r.fz 1; have f2 := HB.out.r.fz 2; have f3 := HB.out.r.fz 3; have f4 := HB.out.r.fz 4
    go_wp2_with fail
    have hbo := (Fr.set5 (S := fun k => k = w.heap.size + 1 + 1) (w := w6) (g := w.heap.size + 1 + 1) rfl (.slice AK s.kinds.length cK) (.slice AF s.full.length cF) (.slice (some ⟨gS, 0, none⟩) (s.stack.length + 1) cS') (.slice AM s.memo.length cM) (.bool s.done)).blk HB.out.b HB.out.ne
    refine hKv.out _ _ (And.intro (SB.c0 hbo) (And.intro (SB.c1 hbo) (And.intro (SB.c2 hbo) (And.intro (SB.c3 hbo) (SB.c4 hbo))))) ?_
    clear hbo
    clear hKv Kv hS d0 d1 d2 d3 d4 f0 f1 f2 f3 f4
    repeat (first | refine wpP.c0 (h := ?_))
    refine wpP.done ?_
    go_wp2_with fail
    have ho := HB.out.out
    refine bodyPost_ret (results_cellt rfl _ _ (w.heap.size + 1 + 1) _ rfl (loadS ho.1)) rfl ?_
    rw [fit_none (fun h => by have : s.kinds.length ≤ 300 := h.1; simp at h1; omega)]
    exact HB.out.tpost none (.inl rfl)
set_option maxRecDepth 100000 in
set_option maxHeartbeats 1000000 in
theorem step_16 (vK vF vS vM : Value) (s : Sh) (k : Nat) (w : World) (hs : SV w vK vF vS vM s) (hok : okS s) (hd : s.done = false) (hk : k ≤ 19) :
    Calls Try.prog 96 #[.agg #[vK, vF, vS, vM, .bool s.done], .agg #[.int .i64 16, .int .i64 (k : Int)]] w (TPost vK vF vS vM (memoS s k) w) := by
  obtain ⟨AK, cK, AF, cF, AS, cS, AM, cM, rfl, rfl, rfl, rfl, q1, q2, q3, q4, r1, r2, r3, r4⟩ := hs.rd hok.siz.k hok.siz.f hok.siz.t hok.siz.m
  have hkl := hok.kl
  have hsl := hok.sl
  have HN := As.mk (Box.new2 hs 16 (k : Int))
  have HOK := As.mk hok
  clear hs hok r1 r2 r3 r4
  have HD := As.mk hd
  have HK : As (newK 16 = -1) := ⟨rfl⟩
  clear hd
  go_enter Try.func96, Try.ntmps96
  go_upto_region 1 with fail
  generalize ((w.alloc (.cells #[.slice AK s.kinds.length cK, .slice AF s.full.length cF, .slice AS s.stack.length cS, .slice AM s.memo.length cM, .bool s.done] 91)).alloc (.cells #[.int .i64 16, .int .i64 (k : Int)] 52)).alloc (.cells #[.slice none 0 0, .slice none 0 0, .slice none 0 0, .slice none 0 0, .bool false] 91) = w1 at HN ⊢
  have HB := As.mk HN.out.1
  have HO := As.mk HN.out.2
  have o0 := OB.c0 HO.out
  have o1 := OB.c1 HO.out
  clear HN
  have c0 := HB.out.b.c0; have c1 := HB.out.b.c1; have c2 := HB.out.b.c2; have c3 := HB.out.b.c3; have c4 := HB.out.b.c4
  have b0 := HB.out.b.fz 0; have b1 := HB.out.b.fz 1; have b2 := HB.out.b.fz 2; have b3 := HB.out.b.fz 3; have b4 := HB.out.b.fz 4
  rw [HD.out] at c4
  have hmk : k < s.memo.length := by have := HOK.out.ml; omega
  obtain ⟨aM, hA, m1⟩ := (rdA_I HB.out.v.m HOK.out.siz.m).2 k hmk
  subst hA
  obtain ⟨x, hx⟩ : ∃ x, x = s.memo[k] := ⟨_, rfl⟩
  rw [← hx] at m1
  have HX : As (s.memo.getD k 0 = x) := ⟨by rw [hx, List.getD_eq_getElem?_getD, List.getElem?_eq_getElem hmk]; rfl⟩
  clear hx
  have hx4 : (k : Int) < s.memo.length := by omega
  by_cases hneg : x < 0
  · go_upto_region 11 with (go_at_call 117; refine (newKind_c _ _).mono ?_; rw [HK.out]; rintro e w2 ⟨rfl, rfl⟩)
    clear c4
    have c4 := HB.out.b.c4
    have d0 := HB.out.r.c0; have d1 := HB.out.r.c1; have d2 := HB.out.r.c2; have d3 := HB.out.r.c3; have d4 := HB.out.r.c4
    have f0 := HB.out.r.fz 0; have f1 := HB.out.r.fz 1; have f2 := HB.out.r.fz 2; have f3 := HB.out.r.fz 3; have f4 := HB.out.r.fz 4
    go_wp2_with fail
    have ho := HB.out.out
    refine bodyPost_ret (results_cellt rfl _ _ (w.heap.size + 1 + 1) _ rfl (loadS ho.1)) rfl ?_
    have hr : memoS s k = none := if_pos (by rw [HX.out]; exact hneg)
    rw [hr]
    exact HB.out.tpost none (.inl rfl)
  · have hx0 : 0 ≤ x := by omega
    clear hneg
    go_upto_region 12 with (go_at_call 117; refine (newKind_c _ _).mono ?_; rw [HK.out]; rintro e w2 ⟨rfl, rfl⟩)
    refine region_perm (fun w' => w'.cell? ⟨w.heap.size, 2, none⟩ = some (.slice AS s.stack.length cS) ∧ w'.cell? ⟨w.heap.size, 3, none⟩ = some (.slice (some aM) s.memo.length cM) ∧ w'.cell? ⟨w.heap.size + 1, 1, none⟩ = some (.int .i64 k) ∧ w'.cell? (aM.add k) = some (.int .i64 x)) [11] [(0, 0), (1, 1), (2, 0), (3, 1), (4, 0), (5, 1), (6, 0), (7, 1), (8, 2), (9, 2), (10, 0), (11, 3)] (by kernel_rfl) (by kernel_rfl) rfl (by kernel_rfl) (fun _ _ _ _ h => h) ?_
    generalize hwd : World.drew w1 = w2
    have he2 : Ext w1 w2 := by rw [← hwd]; exact (Ext.rf w1).dr
    clear hwd
    have hS := And.intro (he2.cellOf c2) (And.intro (he2.cellOf c3) (And.intro (he2.cellOf o1) (he2.cellOf m1)))
    have hb6 := HB.out.ext he2
    have HO2 : As (OB w2 (w.heap.size + 1) 16 (k : Int)) := As.mk (he2.blk HO.out)
    clear HB HO o0 o1 c0 c1 c2 c3 c4 b0 b1 b2 b3 b4 m1 he2
    have HB := As.mk hb6
    clear hb6
    repeat (first | refine wpP.c0 (h := ?_) | refine wpP.c1 hS (h := ?_))
    refine wpP.ev (h := fun Kv hKv => ?_)
    go_wp2_with fail
    have hal : ∀ o, Ext w2 (w2.alloc o) := fun o => (Ext.rf w2).al o
    refine hKv.out _ _ ⟨(hal _).cellOf hS.1, (hal _).cellOf hS.2.1, (hal _).cellOf hS.2.2.1, (hal _).cellOf hS.2.2.2⟩ ?_
    clear hKv Kv hal
    refine wpP.ev (h := fun Kv hKv => ?_)
    go_wp2_with ((at_builtin; refine app_int rfl _ _ rfl (.slice AS s.stack.length cS) s.stack x rfl rfl HB.out.v.t (by omega) ?_; intro gS cS' w3 hap; have HP := As.mk hap; clear hap))
    have hb' : SB w3 w.heap.size _ _ _ _ s.done := HP.out.2.1.blk HB.out.b (fun e => HB.out.v.nb HB.out.b (.inr (.inr (.inl e))))
    have ho3 : OB w3 (w.heap.size + 1) 16 (k : Int) := HP.out.2.1.blk HO2.out (fun e => own_ne_blk HB.out.v.t HO2.out (by decide) e)
    have hm3 := HP.out.2.1.cell hS.2.2.2 (fun e => by
      have e : (Value.slice AS s.stack.length cS).ownBlock = some (aM.add k).block := e
      rw [add_block] at e
      obtain ⟨gM, hgM⟩ := own_ad HB.out.v.m
      refine HB.out.v.sm _ e ?_
      rw [hgM]; rfl)
    refine hKv.out _ _ ⟨hb'.c2, hb'.c3, OB.c1 ho3, hm3⟩ ?_
    clear hKv Kv hS hb' ho3 hm3
    have hb : SB w3 w.heap.size _ _ _ _ s.done := HP.out.2.1.blk HB.out.b (fun e => HB.out.v.nb HB.out.b (.inr (.inr (.inl e))))
    have e0 := hb.c2; have f0 := hb.fz 2
    clear hb
    repeat (first | refine wpP.c0 (h := ?_))
    refine wpP.last (h := fun Kv hKv => ?_)
    go_wp2_with fail
    refine hKv.out _ _ (wpP.done ?_)
    clear hKv Kv e0 f0
    have hb3 := HB.out.t HP.out.1 HP.out.2.1 (fresh_of HP.out.2.2.1)
    clear HB HP
    simp only [List.length_append, List.length_singleton] at hb3
    generalize (w3.setCell ⟨w.heap.size, 2, none⟩ (.slice (some ⟨gS, 0, none⟩) (s.stack.length + 1) cS')) = w5 at hb3 ⊢
    have HB := As.mk hb3
    clear hb3
    have HRR : As (memoS s k = fitS (some { s with stack := s.stack ++ [x] })) := ⟨by unfold memoS; rw [HX.out]; exact if_neg (by omega)⟩
    clear HX
    go_upto_region 15 with fail
    rcases bcase ((s.kinds.length : Int) ≤ 300) with h1 | h1
    · rcases bcase ((s.stack.length : Int) + 1 ≤ 300) with h2 | h2
      · refine region_perm (fun w' => w'.cell? ⟨w.heap.size, 0, none⟩ = some (.slice AK s.kinds.length cK) ∧ w'.cell? ⟨w.heap.size, 1, none⟩ = some (.slice AF s.full.length cF) ∧ w'.cell? ⟨w.heap.size, 2, none⟩ = some (.slice (some ⟨gS, 0, none⟩) (s.stack.length + 1) cS') ∧ w'.cell? ⟨w.heap.size, 3, none⟩ = some (.slice (some aM) s.memo.length cM) ∧ w'.cell? ⟨w.heap.size, 4, none⟩ = some (.bool s.done)) [] [(0, 1), (1, 0), (2, 0), (3, 0), (4, 1), (5, 0), (6, 0), (7, 0), (8, 0), (9, 0), (10, 1), (11, 0), (12, 0), (13, 0), (14, 2), (15, 0)] (by kernel_rfl) (by kernel_rfl) rfl (by kernel_rfl) (fun _ _ _ _ h => h) ?_
        generalize hwd : World.drew w5 = w6
        have hb6 := HB.out.ext (show Ext w5 w6 by rw [← hwd]; exact (Ext.rf w5).dr)
        clear hwd HB
        have HB := As.mk hb6
        have hS := And.intro hb6.b.c0 (And.intro hb6.b.c1 (And.intro hb6.b.c2 (And.intro hb6.b.c3 hb6.b.c4)))
        clear hb6
        repeat (first | refine wpP.c0 (h := ?_) | refine wpP.c1 hS (h := ?_) | refine wpP.c0off (h := ?_) | refine wpP.c1off hS (h := ?_))
        refine wpP.ev (h := fun Kv hKv => ?_)
        have d0 := HB.out.r.c0; have d1 := HB.out.r.c1; have d2 := HB.out.r.c2; have d3 := HB.out.r.c3; have d4 := HB.out.r.c4
        have f0 := HB.out.r.fz 0; have f1 := HB.out.r.fz 1; have f2 := HB.out.r.fz 2; have f3 := HB.out.r.fz 3; have f4 := HB.out.r.fz 4
        go_wp2_with fail
        have hbo := (Fr.set5 (S := fun k => k = w.heap.size + 1 + 1) (w := w6) (g := w.heap.size + 1 + 1) rfl (.slice AK s.kinds.length cK) (.slice AF s.full.length cF) (.slice (some ⟨gS, 0, none⟩) (s.stack.length + 1) cS') (.slice (some aM) s.memo.length cM) (.bool s.done)).blk HB.out.b HB.out.ne
        refine hKv.out _ _ (And.intro (SB.c0 hbo) (And.intro (SB.c1 hbo) (And.intro (SB.c2 hbo) (And.intro (SB.c3 hbo) (SB.c4 hbo))))) ?_
        clear hbo
        clear hKv Kv hS d0 d1 d2 d3 d4 f0 f1 f2 f3 f4
        repeat (first | refine wpP.c0 (h := ?_))
        refine wpP.done ?_
        go_wp2_with fail
        have ho := HB.out.out
        refine bodyPost_ret (results_cellt rfl _ _ (w.heap.size + 1 + 1) _ rfl (loadS ho.1)) rfl ?_
        rw [HRR.out, fit_some (by show s.kinds.length ≤ 300; omega) (by simp only [List.length_append, List.length_singleton]; omega)]
        exact HB.out.tpost _ (.inr rfl)
      · refine region_perm (fun w' => w'.cell? ⟨w.heap.size, 0, none⟩ = some (.slice AK s.kinds.length cK) ∧ w'.cell? ⟨w.heap.size, 1, none⟩ = some (.slice AF s.full.length cF) ∧ w'.cell? ⟨w.heap.size, 2, none⟩ = some (.slice (some ⟨gS, 0, none⟩) (s.stack.length + 1) cS') ∧ w'.cell? ⟨w.heap.size, 3, none⟩ = some (.slice (some aM) s.memo.length cM) ∧ w'.cell? ⟨w.heap.size, 4, none⟩ = some (.bool s.done)) [] [(0, 1), (1, 0), (2, 0), (3, 0), (4, 1), (5, 0), (6, 0), (7, 0), (8, 0), (9, 0), (10, 1), (11, 0), (12, 0), (13, 0), (14, 2), (15, 0)] (by kernel_rfl) (by kernel_rfl) rfl (by kernel_rfl) (fun _ _ _ _ h => h) ?_
        generalize hwd : World.drew w5 = w6
        have hb6 := HB.out.ext (show Ext w5 w6 by rw [← hwd]; exact (Ext.rf w5).dr)
        clear hwd HB
        have HB := As.mk hb6
        have hS := And.intro hb6.b.c0 (And.intro hb6.b.c1 (And.intro hb6.b.c2 (And.intro hb6.b.c3 hb6.b.c4)))
        clear hb6
        repeat (first | refine wpP.c0 (h := ?_) | refine wpP.c1 hS (h := ?_) | refine wpP.c0off (h := ?_) | refine wpP.c1off hS (h := ?_))
        refine wpP.ev (h := fun Kv hKv => ?_)
        have d0 := HB.out.r.c0; have d1 := HB.out.r.c1; have d2 := HB.out.r.c2; have d3 := HB.out.r.c3; have d4 := HB.out.r.c4
        have f0 := HB.out.r.fz 0; have f1 := HB.out.r.fz 1; have f2 := HB.out.r.fz 2; have f3 := HB.out.r.fz 3; have f4 := HB.out.r.fz 4
        go_wp2_with fail
        have hbo := (Fr.set5 (S := fun k => k = w.heap.size + 1 + 1) (w := w6) (g := w.heap.size + 1 + 1) rfl (.slice AK s.kinds.length cK) (.slice AF s.full.length cF) (.slice (some ⟨gS, 0, none⟩) (s.stack.length + 1) cS') (.slice (some aM) s.memo.length cM) (.bool s.done)).blk HB.out.b HB.out.ne
        refine hKv.out _ _ (And.intro (SB.c0 hbo) (And.intro (SB.c1 hbo) (And.intro (SB.c2 hbo) (And.intro (SB.c3 hbo) (SB.c4 hbo))))) ?_
        clear hbo
        clear hKv Kv hS d0 d1 d2 d3 d4 f0 f1 f2 f3 f4
        repeat (first | refine wpP.c0 (h := ?_))
        refine wpP.done ?_
        go_wp2_with fail
        have ho := HB.out.out
        refine bodyPost_ret (results_cellt rfl _ _ (w.heap.size + 1 + 1) _ rfl (loadS ho.1)) rfl ?_
        rw [HRR.out, fit_none (fun h => by have := h.2; simp only [List.length_append, List.length_singleton] at this; simp at h2; omega)]
        exact HB.out.tpost none (.inl rfl)
    · refine region_perm (fun w' => w'.cell? ⟨w.heap.size, 0, none⟩ = some (.slice AK s.kinds.length cK) ∧ w'.cell? ⟨w.heap.size, 1, none⟩ = some (.slice AF s.full.length cF) ∧ w'.cell? ⟨w.heap.size, 2, none⟩ = some (.slice (some ⟨gS, 0, none⟩) (s.stack.length + 1) cS') ∧ w'.cell? ⟨w.heap.size, 3, none⟩ = some (.slice (some aM) s.memo.length cM) ∧ w'.cell? ⟨w.heap.size, 4, none⟩ = some (.bool s.done)) [] [(0, 1), (1, 0), (2, 0), (3, 0), (4, 1), (5, 0), (6, 0), (7, 0), (8, 0), (9, 0), (10, 1), (11, 0), (12, 0), (13, 0), (14, 2), (15, 0)] (by kernel_rfl) (by kernel_rfl) rfl (by kernel_rfl) (fun _ _ _ _ h => h) ?_
      generalize hwd : World.drew w5 = w6
      have hb6 := HB.out.ext (show Ext w5 w6 by rw [← hwd]; exact (Ext.rf w5).dr)
      clear hwd HB
      have HB := As.mk hb6
      have hS := And.intro hb6.b.c0 (And.intro hb6.b.c1 (And.intro hb6.b.c2 (And.intro hb6.b.c3 hb6.b.c4)))
      clear hb6
      repeat (first | refine wpP.c0 (h := ?_) | refine wpP.c1 hS (h := ?_) | refine wpP.c0off (h := ?_) | refine wpP.c1off hS (h := ?_))
      refine wpP.ev (h := fun Kv hKv => ?_)
      have d0 := HB.out.r.c0; have d1 := HB.out.r.c1; have d2 := HB.out.r.c2; have d3 := HB.out.r.c3; have d4 := HB.out.r.c4
      have f0 := HB.out.r.fz 0; have f1 := HB.out.r.fz 1; have f2 := HB.out.r.fz 2; have f3 := HB.out.r.fz 3; have f4 := HB.out.r.fz 4
      go_wp2_with fail
      have hbo := (Fr.set5 (S := fun k => k = w.heap.size + 1 + 1) (w := w6) (g := w.heap.size + 1 + 1) rfl (.slice AK s.kinds.length cK) (.slice AF s.full.length cF) (.slice (some ⟨gS, 0, none⟩) (s.stack.length + 1) cS') (.slice (some aM) s.memo.length cM) (.bool s.done)).blk HB.out.b HB.out.ne
      refine hKv.out _ _ (And.intro (SB.c0 hbo) (And.intro (SB.c1 hbo) (And.intro (SB.c2 hbo) (And.intro (SB.c3 hbo) (SB.c4 hbo))))) ?_
      clear hbo
      clear hKv Kv hS d0 d1 d2 d3 d4 f0 f1 f2 f3 f4
      repeat (first | refine wpP.c0 (h := ?_))
      refine wpP.done ?_
      go_wp2_with fail
      have ho := HB.out.out
      refine bodyPost_ret (results_cellt rfl _ _ (w.heap.size + 1 + 1) _ rfl (loadS ho.1)) rfl ?_
      rw [HRR.out, fit_none (fun h => by have : s.kinds.length ≤ 300 := h.1; simp at h1; omega)]
      exact HB.out.tpost none (.inl rfl)
set_option maxRecDepth 100000 in
set_option maxHeartbeats 1000000 in
theorem step_3 (vK vF vS vM : Value) (s : Sh) (arg : Int) (w : World) (hs : SV w vK vF vS vM s) (hok : okS s) (hd : s.done = false) :
    Calls Try.prog 96 #[.agg #[vK, vF, vS, vM, .bool s.done], .agg #[.int .i64 3, .int .i64 arg]] w (TPost vK vF vS vM (stepS s ⟨3, arg⟩) w) := by
  obtain ⟨AK, cK, AF, cF, AS, cS, AM, cM, rfl, rfl, rfl, rfl, q1, q2, q3, q4, r1, r2, r3, r4⟩ := hs.rd hok.siz.k hok.siz.f hok.siz.t hok.siz.m
  have hkl := hok.kl
  have hsl := hok.sl
  have HN := As.mk (Box.new2 hs 3 arg)
  have HOK := As.mk hok
  clear hs hok r1 r2 r3 r4
  have HD := As.mk hd
  have HK : As (newK 3 = -1) := ⟨rfl⟩
  obtain ⟨r, hr⟩ : ∃ r, markS s 3 = r := ⟨_, rfl⟩
  have HRR := As.mk hr
  have HQ : As (stepS s ⟨3, arg⟩ = fitS (markS s 3)) := ⟨by show (if s.done = true then none else fitS (markS s 3)) = _; rw [hd]; rfl⟩
  clear hd hr
  go_enter Try.func96, Try.ntmps96
  go_upto_region 1 with fail
  generalize ((w.alloc (.cells #[.slice AK s.kinds.length cK, .slice AF s.full.length cF, .slice AS s.stack.length cS, .slice AM s.memo.length cM, .bool s.done] 91)).alloc (.cells #[.int .i64 3, .int .i64 arg] 52)).alloc (.cells #[.slice none 0 0, .slice none 0 0, .slice none 0 0, .slice none 0 0, .bool false] 91) = w1 at HN ⊢
  have HB := As.mk HN.out.1
  have HO := As.mk HN.out.2
  have o0 := OB.c0 HO.out
  have o1 := OB.c1 HO.out
  clear HN
  have c0 := HB.out.b.c0; have c1 := HB.out.b.c1; have c2 := HB.out.b.c2; have c3 := HB.out.b.c3; have c4 := HB.out.b.c4
  have b0 := HB.out.b.fz 0; have b1 := HB.out.b.fz 1; have b2 := HB.out.b.fz 2; have b3 := HB.out.b.fz 3; have b4 := HB.out.b.fz 4
  rw [HD.out] at c4
  go_upto_region 5 with fail
  clear c4
  have c4 := HB.out.b.c4
  cases r with
  | none =>
    go_upto_region 15 with (first | (go_at_call 117; refine (newKind_c _ _).mono ?_; rw [HK.out]; rintro e w2 ⟨rfl, rfl⟩) | (go_at_call 119; refine (markShapes_c _ _ _ _ s 3 _ HB.out.v HOK.out (by omega)).mono ?_; rw [HRR.out]; rintro e w3 ht; obtain ⟨B1, n1, e1, B2, n2, e2, B3, n3, e3, B4, n4, e4, x, rfl, hf, hp⟩ := ht; have HF := As.mk hf; have HP := As.mk hp; have hbb := (HB.out.bad hf).1; clear hf hp c0 c1 c2 c3 c4 b0 b1 b2 b3 b4; have c0 := SB.c0 hbb; have c1 := SB.c1 hbb; have c2 := SB.c2 hbb; have c3 := SB.c3 hbb; have c4 := SB.c4 hbb; have b0 := SB.fz hbb 0; have b1 := SB.fz hbb 1; have b2 := SB.fz hbb 2; have b3 := SB.fz hbb 3; have b4 := SB.fz hbb 4; clear hbb))
    clear o0 o1 HO c0 c1 c2 c3 c4 b0 b1 b2 b3 b4
    have hbb := HB.out.bad HF.out
    have h5 := Fr.set5 (S := fun k => k = w.heap.size) (w := w3) (g := w.heap.size) rfl (.slice B1 n1 e1) (.slice B2 n2 e2) (.slice B3 n3 e3) (.slice B4 n4 e4) (.bool x)
    have hx5 := SB.all (.slice B1 n1 e1) (.slice B2 n2 e2) (.slice B3 n3 e3) (.slice B4 n4 e4) x hbb.1
    have hr5 := h5.blk hbb.2.1 HB.out.ne.symm
    have hF5 := (HB.out.f.then HF.out (fun i hi => HB.out.o i hi)).then h5 (fun i hi => .inr (by omega))
    generalize (((((w3.setCell ⟨w.heap.size, 0, none⟩ (.slice B1 n1 e1)).setCell ⟨w.heap.size, 1, none⟩ (.slice B2 n2 e2)).setCell ⟨w.heap.size, 2, none⟩ (.slice B3 n3 e3)).setCell ⟨w.heap.size, 3, none⟩ (.slice B4 n4 e4)).setCell ⟨w.heap.size, 4, none⟩ (.bool x)) = w5 at hx5 hr5 hF5 ⊢
    clear h5 hbb
    refine region_perm (fun w' => w'.cell? ⟨w.heap.size, 0, none⟩ = some (.slice B1 n1 e1) ∧ w'.cell? ⟨w.heap.size, 1, none⟩ = some (.slice B2 n2 e2) ∧ w'.cell? ⟨w.heap.size, 2, none⟩ = some (.slice B3 n3 e3) ∧ w'.cell? ⟨w.heap.size, 3, none⟩ = some (.slice B4 n4 e4) ∧ w'.cell? ⟨w.heap.size, 4, none⟩ = some (.bool x)) [] [(0, 1), (1, 0), (2, 0), (3, 0), (4, 1), (5, 0), (6, 0), (7, 0), (8, 0), (9, 0), (10, 1), (11, 0), (12, 0), (13, 0), (14, 2), (15, 0)] (by kernel_rfl) (by kernel_rfl) rfl (by kernel_rfl) (fun _ _ _ _ h => h) ?_
    generalize hwd : World.drew w5 = w6
    have he6 : Ext w5 w6 := by rw [← hwd]; exact (Ext.rf w5).dr
    have hx6 := he6.blk hx5
    have hr6 := he6.blk hr5
    have HF6 := As.mk (hF5.then (Fr.ofExt (S := fun _ => False) he6) (fun _ h => h.elim))
    clear hwd HB hx5 hr5 hF5 he6
    have HX6 := As.mk hx6
    have HR6 := As.mk hr6
    have hS := And.intro (SB.c0 hx6) (And.intro (SB.c1 hx6) (And.intro (SB.c2 hx6) (And.intro (SB.c3 hx6) (SB.c4 hx6))))
    clear hx6 hr6
    repeat (first | refine wpP.c0 (h := ?_) | refine wpP.c1 hS (h := ?_) | refine wpP.c0off (h := ?_) | refine wpP.c1off hS (h := ?_))
    refine wpP.ev (h := fun Kv hKv => ?_)
    have d0 := SB.c0 HR6.out; have d1 := SB.c1 HR6.out; have d2 := SB.c2 HR6.out; have d3 := SB.c3 HR6.out; have d4 := SB.c4 HR6.out
    have f0 := SB.fz HR6.out 0; have f1 := SB.fz HR6.out 1; have f2 := SB.fz HR6.out 2; have f3 := SB.fz HR6.out 3; have f4 := SB.fz HR6.out 4
    go_wp2_with fail
    have hs5 := Fr.set5 (S := fun k => k = w.heap.size + 1 + 1) (w := w6) (g := w.heap.size + 1 + 1) rfl (.slice B1 n1 e1) (.slice B2 n2 e2) (.slice B3 n3 e3) (.slice B4 n4 e4) (.bool x)
    have hbo := hs5.blk HX6.out (by omega)
    refine hKv.out _ _ (And.intro (SB.c0 hbo) (And.intro (SB.c1 hbo) (And.intro (SB.c2 hbo) (And.intro (SB.c3 hbo) (SB.c4 hbo))))) ?_
    have HS5 := As.mk hs5
    clear hbo hs5
    clear hKv Kv hS d0 d1 d2 d3 d4 f0 f1 f2 f3 f4
    repeat (first | refine wpP.c0 (h := ?_))
    refine wpP.done ?_
    go_wp2_with fail
    refine bodyPost_ret (results_cellt rfl _ _ (w.heap.size + 1 + 1) _ rfl (loadS (SB.all _ _ _ _ _ HR6.out))) rfl ?_
    rw [HQ.out, HRR.out]
    exact ⟨_, _, _, _, _, _, _, _, _, _, _, _, _, rfl, HF6.out.then HS5.out (fun i hi => .inr (by omega)), fun s' h => nomatch h⟩
  | some s1 =>
    go_upto_region 15 with (first | (go_at_call 117; refine (newKind_c _ _).mono ?_; rw [HK.out]; rintro e w2 ⟨rfl, rfl⟩) | (go_at_call 119; refine (markShapes_c _ _ _ _ s 3 _ HB.out.v HOK.out (by omega)).mono ?_; rw [HRR.out]; rintro e w3 ht; obtain ⟨B1, n1, e1, B2, n2, e2, B3, n3, e3, B4, n4, e4, x, rfl, hf, hp⟩ := ht; have HF := As.mk hf; have HP := As.mk hp; have hbb := (HB.out.bad hf).1; clear hf hp c0 c1 c2 c3 c4 b0 b1 b2 b3 b4; have c0 := SB.c0 hbb; have c1 := SB.c1 hbb; have c2 := SB.c2 hbb; have c3 := SB.c3 hbb; have c4 := SB.c4 hbb; have b0 := SB.fz hbb 0; have b1 := SB.fz hbb 1; have b2 := SB.fz hbb 2; have b3 := SB.fz hbb 3; have b4 := SB.fz hbb 4; clear hbb))
    clear o0 o1 HO c0 c1 c2 c3 c4 b0 b1 b2 b3 b4
    obtain ⟨hxd, hp⟩ := HP.out s1 rfl
    subst hxd
    have hpp := HB.out.put hp
    have hl1 : n1 = s1.kinds.length ∧ n3 = s1.stack.length ∧ n2 = s1.full.length ∧ n4 = s1.memo.length := by
      obtain ⟨_, _, _, _, _, _, _, _, k1, k2, k3, k4⟩ := hp.1.forms
      injection k1 with _ k1 _
      injection k2 with _ k2 _
      injection k3 with _ k3 _
      injection k4 with _ k4 _
      exact ⟨k1, k3, k2, k4⟩
    obtain ⟨rfl, rfl, rfl, rfl⟩ := hl1
    clear HP HF hp HB
    generalize (((((w3.setCell ⟨w.heap.size, 0, none⟩ (.slice B1 s1.kinds.length e1)).setCell ⟨w.heap.size, 1, none⟩ (.slice B2 s1.full.length e2)).setCell ⟨w.heap.size, 2, none⟩ (.slice B3 s1.stack.length e3)).setCell ⟨w.heap.size, 3, none⟩ (.slice B4 s1.memo.length e4)).setCell ⟨w.heap.size, 4, none⟩ (.bool s1.done)) = w5 at hpp ⊢
    have HB := As.mk hpp
    clear hpp
    rcases bcase ((s1.kinds.length : Int) ≤ 300) with h1 | h1
    · rcases bcase ((s1.stack.length : Int) ≤ 300) with h2 | h2
      · refine region_perm (fun w' => w'.cell? ⟨w.heap.size, 0, none⟩ = some (.slice B1 s1.kinds.length e1) ∧ w'.cell? ⟨w.heap.size, 1, none⟩ = some (.slice B2 s1.full.length e2) ∧ w'.cell? ⟨w.heap.size, 2, none⟩ = some (.slice B3 s1.stack.length e3) ∧ w'.cell? ⟨w.heap.size, 3, none⟩ = some (.slice B4 s1.memo.length e4) ∧ w'.cell? ⟨w.heap.size, 4, none⟩ = some (.bool s1.done)) [] [(0, 1), (1, 0), (2, 0), (3, 0), (4, 1), (5, 0), (6, 0), (7, 0), (8, 0), (9, 0), (10, 1), (11, 0), (12, 0), (13, 0), (14, 2), (15, 0)] (by kernel_rfl) (by kernel_rfl) rfl (by kernel_rfl) (fun _ _ _ _ h => h) ?_
        generalize hwd : World.drew w5 = w6
        have hb6 := HB.out.ext (show Ext w5 w6 by rw [← hwd]; exact (Ext.rf w5).dr)
        clear hwd HB
        have HB := As.mk hb6
        have hS := And.intro hb6.b.c0 (And.intro hb6.b.c1 (And.intro hb6.b.c2 (And.intro hb6.b.c3 hb6.b.c4)))
        clear hb6
        repeat (first | refine wpP.c0 (h := ?_) | refine wpP.c1 hS (h := ?_) | refine wpP.c0off (h := ?_) | refine wpP.c1off hS (h := ?_))
        refine wpP.ev (h := fun Kv hKv => ?_)
        have d0 := HB.out.r.c0; have d1 := HB.out.r.c1; have d2 := HB.out.r.c2; have d3 := HB.out.r.c3; have d4 := HB.out.r.c4
        have f0 := HB.out.r.fz 0; have f1 := HB.out.r.fz 1; have f2 := HB.out.r.fz 2; have f3 := HB.out.r.fz 3; have f4 := HB.out.r.fz 4
        go_wp2_with fail
        have hbo := (Fr.set5 (S := fun k => k = w.heap.size + 1 + 1) (w := w6) (g := w.heap.size + 1 + 1) rfl (.slice B1 s1.kinds.length e1) (.slice B2 s1.full.length e2) (.slice B3 s1.stack.length e3) (.slice B4 s1.memo.length e4) (.bool s1.done)).blk HB.out.b HB.out.ne
        refine hKv.out _ _ (And.intro (SB.c0 hbo) (And.intro (SB.c1 hbo) (And.intro (SB.c2 hbo) (And.intro (SB.c3 hbo) (SB.c4 hbo))))) ?_
        clear hbo
        clear hKv Kv hS d0 d1 d2 d3 d4 f0 f1 f2 f3 f4
        repeat (first | refine wpP.c0 (h := ?_))
        refine wpP.done ?_
        go_wp2_with fail
        have ho := HB.out.out
        refine bodyPost_ret (results_cellt rfl _ _ (w.heap.size + 1 + 1) _ rfl (loadS ho.1)) rfl ?_
        rw [HQ.out, HRR.out, fit_some (by omega) (by omega)]
        exact HB.out.tpost _ (.inr rfl)
      · refine region_perm (fun w' => w'.cell? ⟨w.heap.size, 0, none⟩ = some (.slice B1 s1.kinds.length e1) ∧ w'.cell? ⟨w.heap.size, 1, none⟩ = some (.slice B2 s1.full.length e2) ∧ w'.cell? ⟨w.heap.size, 2, none⟩ = some (.slice B3 s1.stack.length e3) ∧ w'.cell? ⟨w.heap.size, 3, none⟩ = some (.slice B4 s1.memo.length e4) ∧ w'.cell? ⟨w.heap.size, 4, none⟩ = some (.bool s1.done)) [] [(0, 1), (1, 0), (2, 0), (3, 0), (4, 1), (5, 0), (6, 0), (7, 0), (8, 0), (9, 0), (10, 1), (11, 0), (12, 0), (13, 0), (14, 2), (15, 0)] (by kernel_rfl) (by kernel_rfl) rfl (by kernel_rfl) (fun _ _ _ _ h => h) ?_
        generalize hwd : World.drew w5 = w6
        have hb6 := HB.out.ext (show Ext w5 w6 by rw [← hwd]; exact (Ext.rf w5).dr)
        clear hwd HB
        have HB := As.mk hb6
        have hS := And.intro hb6.b.c0 (And.intro hb6.b.c1 (And.intro hb6.b.c2 (And.intro hb6.b.c3 hb6.b.c4)))
        clear hb6
        repeat (first | refine wpP.c0 (h := ?_) | refine wpP.c1 hS (h := ?_) | refine wpP.c0off (h := ?_) | refine wpP.c1off hS (h := ?_))
        refine wpP.ev (h := fun Kv hKv => ?_)
        have d0 := HB.out.r.c0; have d1 := HB.out.r.c1; have d2 := HB.out.r.c2; have d3 := HB.out.r.c3; have d4 := HB.out.r.c4
        have f0 := HB.out.r.fz 0; have f1 := HB.out.r.fz 1; have f2 := HB.out.r.fz 2; have f3 := HB.out.r.fz 3; have f4 := HB.out.r.fz 4
        go_wp2_with fail
        have hbo := (Fr.set5 (S := fun k => k = w.heap.size + 1 + 1) (w := w6) (g := w.heap.size + 1 + 1) rfl (.slice B1 s1.kinds.length e1) (.slice B2 s1.full.length e2) (.slice B3 s1.stack.length e3) (.slice B4 s1.memo.length e4) (.bool s1.done)).blk HB.out.b HB.out.ne
        refine hKv.out _ _ (And.intro (SB.c0 hbo) (And.intro (SB.c1 hbo) (And.intro (SB.c2 hbo) (And.intro (SB.c3 hbo) (SB.c4 hbo))))) ?_
        clear hbo
        clear hKv Kv hS d0 d1 d2 d3 d4 f0 f1 f2 f3 f4
        repeat (first | refine wpP.c0 (h := ?_))
        refine wpP.done ?_
        go_wp2_with fail
        have ho := HB.out.out
        refine bodyPost_ret (results_cellt rfl _ _ (w.heap.size + 1 + 1) _ rfl (loadS ho.1)) rfl ?_
        rw [HQ.out, HRR.out, fit_none (by simp at h2; omega)]
        exact HB.out.tpost none (.inl rfl)
    · refine region_perm (fun w' => w'.cell? ⟨w.heap.size, 0, none⟩ = some (.slice B1 s1.kinds.length e1) ∧ w'.cell? ⟨w.heap.size, 1, none⟩ = some (.slice B2 s1.full.length e2) ∧ w'.cell? ⟨w.heap.size, 2, none⟩ = some (.slice B3 s1.stack.length e3) ∧ w'.cell? ⟨w.heap.size, 3, none⟩ = some (.slice B4 s1.memo.length e4) ∧ w'.cell? ⟨w.heap.size, 4, none⟩ = some (.bool s1.done)) [] [(0, 1), (1, 0), (2, 0), (3, 0), (4, 1), (5, 0), (6, 0), (7, 0), (8, 0), (9, 0), (10, 1), (11, 0), (12, 0), (13, 0), (14, 2), (15, 0)] (by kernel_rfl) (by kernel_rfl) rfl (by kernel_rfl) (fun _ _ _ _ h => h) ?_
      generalize hwd : World.drew w5 = w6
      have hb6 := HB.out.ext (show Ext w5 w6 by rw [← hwd]; exact (Ext.rf w5).dr)
      clear hwd HB
      have HB := As.mk hb6
      have hS := And.intro hb6.b.c0 (And.intro hb6.b.c1 (And.intro hb6.b.c2 (And.intro hb6.b.c3 hb6.b.c4)))
      clear hb6
      repeat (first | refine wpP.c0 (h := ?_) | refine wpP.c1 hS (h := ?_) | refine wpP.c0off (h := ?_) | refine wpP.c1off hS (h := ?_))
      refine wpP.ev (h := fun Kv hKv => ?_)
      have d0 := HB.out.r.c0; have d1 := HB.out.r.c1; have d2 := HB.out.r.c2; have d3 := HB.out.r.c3; have d4 := HB.out.r.c4
      have f0 := HB.out.r.fz 0; have f1 := HB.out.r.fz 1; have f2 := HB.out.r.fz 2; have f3 := HB.out.r.fz 3; have f4 := HB.out.r.fz 4
      go_wp2_with fail
      have hbo := (Fr.set5 (S := fun k => k = w.heap.size + 1 + 1) (w := w6) (g := w.heap.size + 1 + 1) rfl (.slice B1 s1.kinds.length e1) (.slice B2 s1.full.length e2) (.slice B3 s1.stack.length e3) (.slice B4 s1.memo.length e4) (.bool s1.done)).blk HB.out.b HB.out.ne
      refine hKv.out _ _ (And.intro (SB.c0 hbo) (And.intro (SB.c1 hbo) (And.intro (SB.c2 hbo) (And.intro (SB.c3 hbo) (SB.c4 hbo))))) ?_
      clear hbo
      clear hKv Kv hS d0 d1 d2 d3 d4 f0 f1 f2 f3 f4
      repeat (first | refine wpP.c0 (h := ?_))
      refine wpP.done ?_
      go_wp2_with fail
      have ho := HB.out.out
      refine bodyPost_ret (results_cellt rfl _ _ (w.heap.size + 1 + 1) _ rfl (loadS ho.1)) rfl ?_
      rw [HQ.out, HRR.out, fit_none (by simp at h1; omega)]
      exact HB.out.tpost none (.inl rfl)
set_option maxRecDepth 100000 in
set_option maxHeartbeats 1000000 in
theorem step_9 (vK vF vS vM : Value) (s : Sh) (arg : Int) (w : World) (hs : SV w vK vF vS vM s) (hok : okS s) (hd : s.done = false) :
    Calls Try.prog 96 #[.agg #[vK, vF, vS, vM, .bool s.done], .agg #[.int .i64 9, .int .i64 arg]] w (TPost vK vF vS vM (stepS s ⟨9, arg⟩) w) := by
  obtain ⟨AK, cK, AF, cF, AS, cS, AM, cM, rfl, rfl, rfl, rfl, q1, q2, q3, q4, r1, r2, r3, r4⟩ := hs.rd hok.siz.k hok.siz.f hok.siz.t hok.siz.m
  have hkl := hok.kl
  have hsl := hok.sl
  have HN := As.mk (Box.new2 hs 9 arg)
  have HOK := As.mk hok
  clear hs hok r1 r2 r3 r4
  have HD := As.mk hd
  have HK : As (newK 9 = -1) := ⟨rfl⟩
  obtain ⟨r, hr⟩ : ∃ r, markS s 9 = r := ⟨_, rfl⟩
  have HRR := As.mk hr
  have HQ : As (stepS s ⟨9, arg⟩ = fitS (markS s 9)) := ⟨by show (if s.done = true then none else fitS (markS s 9)) = _; rw [hd]; rfl⟩
  clear hd hr
  go_enter Try.func96, Try.ntmps96
  go_upto_region 1 with fail
  generalize ((w.alloc (.cells #[.slice AK s.kinds.length cK, .slice AF s.full.length cF, .slice AS s.stack.length cS, .slice AM s.memo.length cM, .bool s.done] 91)).alloc (.cells #[.int .i64 9, .int .i64 arg] 52)).alloc (.cells #[.slice none 0 0, .slice none 0 0, .slice none 0 0, .slice none 0 0, .bool false] 91) = w1 at HN ⊢
  have HB := As.mk HN.out.1
  have HO := As.mk HN.out.2
  have o0 := OB.c0 HO.out
  have o1 := OB.c1 HO.out
  clear HN
  have c0 := HB.out.b.c0; have c1 := HB.out.b.c1; have c2 := HB.out.b.c2; have c3 := HB.out.b.c3; have c4 := HB.out.b.c4
  have b0 := HB.out.b.fz 0; have b1 := HB.out.b.fz 1; have b2 := HB.out.b.fz 2; have b3 := HB.out.b.fz 3; have b4 := HB.out.b.fz 4
  rw [HD.out] at c4
  go_upto_region 5 with fail
  clear c4
  have c4 := HB.out.b.c4
  cases r with
  | none =>
    go_upto_region 15 with (first | (go_at_call 117; refine (newKind_c _ _).mono ?_; rw [HK.out]; rintro e w2 ⟨rfl, rfl⟩) | (go_at_call 119; refine (markShapes_c _ _ _ _ s 9 _ HB.out.v HOK.out (by omega)).mono ?_; rw [HRR.out]; rintro e w3 ht; obtain ⟨B1, n1, e1, B2, n2, e2, B3, n3, e3, B4, n4, e4, x, rfl, hf, hp⟩ := ht; have HF := As.mk hf; have HP := As.mk hp; have hbb := (HB.out.bad hf).1; clear hf hp c0 c1 c2 c3 c4 b0 b1 b2 b3 b4; have c0 := SB.c0 hbb; have c1 := SB.c1 hbb; have c2 := SB.c2 hbb; have c3 := SB.c3 hbb; have c4 := SB.c4 hbb; have b0 := SB.fz hbb 0; have b1 := SB.fz hbb 1; have b2 := SB.fz hbb 2; have b3 := SB.fz hbb 3; have b4 := SB.fz hbb 4; clear hbb))
    clear o0 o1 HO c0 c1 c2 c3 c4 b0 b1 b2 b3 b4
    have hbb := HB.out.bad HF.out
    have h5 := Fr.set5 (S := fun k => k = w.heap.size) (w := w3) (g := w.heap.size) rfl (.slice B1 n1 e1) (.slice B2 n2 e2) (.slice B3 n3 e3) (.slice B4 n4 e4) (.bool x)
    have hx5 := SB.all (.slice B1 n1 e1) (.slice B2 n2 e2) (.slice B3 n3 e3) (.slice B4 n4 e4) x hbb.1
    have hr5 := h5.blk hbb.2.1 HB.out.ne.symm
    have hF5 := (HB.out.f.then HF.out (fun i hi => HB.out.o i hi)).then h5 (fun i hi => .inr (by omega))
    generalize (((((w3.setCell ⟨w.heap.size, 0, none⟩ (.slice B1 n1 e1)).setCell ⟨w.heap.size, 1, none⟩ (.slice B2 n2 e2)).setCell ⟨w.heap.size, 2, none⟩ (.slice B3 n3 e3)).setCell ⟨w.heap.size, 3, none⟩ (.slice B4 n4 e4)).setCell ⟨w.heap.size, 4, none⟩ (.bool x)) = w5 at hx5 hr5 hF5 ⊢
    clear h5 hbb
    refine region_perm (fun w' => w'.cell? ⟨w.heap.size, 0, none⟩ = some (.slice B1 n1 e1) ∧ w'.cell? ⟨w.heap.size, 1, none⟩ = some (.slice B2 n2 e2) ∧ w'.cell? ⟨w.heap.size, 2, none⟩ = some (.slice B3 n3 e3) ∧ w'.cell? ⟨w.heap.size, 3, none⟩ = some (.slice B4 n4 e4) ∧ w'.cell? ⟨w.heap.size, 4, none⟩ = some (.bool x)) [] [(0, 1), (1, 0), (2, 0), (3, 0), (4, 1), (5, 0), (6, 0), (7, 0), (8, 0), (9, 0), (10, 1), (11, 0), (12, 0), (13, 0), (14, 2), (15, 0)] (by kernel_rfl) (by kernel_rfl) rfl (by kernel_rfl) (fun _ _ _ _ h => h) ?_
    generalize hwd : World.drew w5 = w6
    have he6 : Ext w5 w6 := by rw [← hwd]; exact (Ext.rf w5).dr
    have hx6 := he6.blk hx5
    have hr6 := he6.blk hr5
    have HF6 := As.mk (hF5.then (Fr.ofExt (S := fun _ => False) he6) (fun _ h => h.elim))
    clear hwd HB hx5 hr5 hF5 he6
    have HX6 := As.mk hx6
    have HR6 := As.mk hr6
    have hS := And.intro (SB.c0 hx6) (And.intro (SB.c1 hx6) (And.intro (SB.c2 hx6) (And.intro (SB.c3 hx6) (SB.c4 hx6))))
    clear hx6 hr6
    repeat (first | refine wpP.c0 (h := ?_) | refine wpP.c1 hS (h := ?_) | refine wpP.c0off (h := ?_) | refine wpP.c1off hS (h := ?_))
    refine wpP.ev (h := fun Kv hKv => ?_)
    have d0 := SB.c0 HR6.out; have d1 := SB.c1 HR6.out; have d2 := SB.c2 HR6.out; have d3 := SB.c3 HR6.out; have d4 := SB.c4 HR6.out
    have f0 := SB.fz HR6.out 0; have f1 := SB.fz HR6.out 1; have f2 := SB.fz HR6.out 2; have f3 := SB.fz HR6.out 3; have f4 := SB.fz HR6.out 4
    go_wp2_with fail
    have hs5 := Fr.set5 (S := fun k => k = w.heap.size + 1 + 1) (w := w6) (g := w.heap.size + 1 + 1) rfl (.slice B1 n1 e1) (.slice B2 n2 e2) (.slice B3 n3 e3) (.slice B4 n4 e4) (.bool x)
    have hbo := hs5.blk HX6.out (by omega)
    refine hKv.out _ _ (And.intro (SB.c0 hbo) (And.intro (SB.c1 hbo) (And.intro (SB.c2 hbo) (And.intro (SB.c3 hbo) (SB.c4 hbo))))) ?_
    have HS5 := As.mk hs5
    clear hbo hs5
    clear hKv Kv hS d0 d1 d2 d3 d4 f0 f1 f2 f3 f4
    repeat (first | refine wpP.c0 (h := ?_))
    refine wpP.done ?_
    go_wp2_with fail
    refine bodyPost_ret (results_cellt rfl _ _ (w.heap.size + 1 + 1) _ rfl (loadS (SB.all _ _ _ _ _ HR6.out))) rfl ?_
    rw [HQ.out, HRR.out]
    exact ⟨_, _, _, _, _, _, _, _, _, _, _, _, _, rfl, HF6.out.then HS5.out (fun i hi => .inr (by omega)), fun s' h => nomatch h⟩
  | some s1 =>
    go_upto_region 15 with (first | (go_at_call 117; refine (newKind_c _ _).mono ?_; rw [HK.out]; rintro e w2 ⟨rfl, rfl⟩) | (go_at_call 119; refine (markShapes_c _ _ _ _ s 9 _ HB.out.v HOK.out (by omega)).mono ?_; rw [HRR.out]; rintro e w3 ht; obtain ⟨B1, n1, e1, B2, n2, e2, B3, n3, e3, B4, n4, e4, x, rfl, hf, hp⟩ := ht; have HF := As.mk hf; have HP := As.mk hp; have hbb := (HB.out.bad hf).1; clear hf hp c0 c1 c2 c3 c4 b0 b1 b2 b3 b4; have c0 := SB.c0 hbb; have c1 := SB.c1 hbb; have c2 := SB.c2 hbb; have c3 := SB.c3 hbb; have c4 := SB.c4 hbb; have b0 := SB.fz hbb 0; have b1 := SB.fz hbb 1; have b2 := SB.fz hbb 2; have b3 := SB.fz hbb 3; have b4 := SB.fz hbb 4; clear hbb))
    clear o0 o1 HO c0 c1 c2 c3 c4 b0 b1 b2 b3 b4
    obtain ⟨hxd, hp⟩ := HP.out s1 rfl
    subst hxd
    have hpp := HB.out.put hp
    have hl1 : n1 = s1.kinds.length ∧ n3 = s1.stack.length ∧ n2 = s1.full.length ∧ n4 = s1.memo.length := by
      obtain ⟨_, _, _, _, _, _, _, _, k1, k2, k3, k4⟩ := hp.1.forms
      injection k1 with _ k1 _
      injection k2 with _ k2 _
      injection k3 with _ k3 _
      injection k4 with _ k4 _
      exact ⟨k1, k3, k2, k4⟩
    obtain ⟨rfl, rfl, rfl, rfl⟩ := hl1
    clear HP HF hp HB
    generalize (((((w3.setCell ⟨w.heap.size, 0, none⟩ (.slice B1 s1.kinds.length e1)).setCell ⟨w.heap.size, 1, none⟩ (.slice B2 s1.full.length e2)).setCell ⟨w.heap.size, 2, none⟩ (.slice B3 s1.stack.length e3)).setCell ⟨w.heap.size, 3, none⟩ (.slice B4 s1.memo.length e4)).setCell ⟨w.heap.size, 4, none⟩ (.bool s1.done)) = w5 at hpp ⊢
    have HB := As.mk hpp
    clear hpp
    rcases bcase ((s1.kinds.length : Int) ≤ 300) with h1 | h1
    · rcases bcase ((s1.stack.length : Int) ≤ 300) with h2 | h2
      · refine region_perm (fun w' => w'.cell? ⟨w.heap.size, 0, none⟩ = some (.slice B1 s1.kinds.length e1) ∧ w'.cell? ⟨w.heap.size, 1, none⟩ = some (.slice B2 s1.full.length e2) ∧ w'.cell? ⟨w.heap.size, 2, none⟩ = some (.slice B3 s1.stack.length e3) ∧ w'.cell? ⟨w.heap.size, 3, none⟩ = some (.slice B4 s1.memo.length e4) ∧ w'.cell? ⟨w.heap.size, 4, none⟩ = some (.bool s1.done)) [] [(0, 1), (1, 0), (2, 0), (3, 0), (4, 1), (5, 0), (6, 0), (7, 0), (8, 0), (9, 0), (10, 1), (11, 0), (12, 0), (13, 0), (14, 2), (15, 0)] (by kernel_rfl) (by kernel_rfl) rfl (by kernel_rfl) (fun _ _ _ _ h => h) ?_
        generalize hwd : World.drew w5 = w6
        have hb6 := HB.out.ext (show Ext w5 w6 by rw [← hwd]; exact (Ext.rf w5).dr)
        clear hwd HB
        have HB := As.mk hb6
        have hS := And.intro hb6.b.c0 (And.intro hb6.b.c1 (And.intro hb6.b.c2 (And.intro hb6.b.c3 hb6.b.c4)))
        clear hb6
        repeat (first | refine wpP.c0 (h := ?_) | refine wpP.c1 hS (h := ?_) | refine wpP.c0off (h := ?_) | refine wpP.c1off hS (h := ?_))
        refine wpP.ev (h := fun Kv hKv => ?_)
        have d0 := HB.out.r.c0; have d1 := HB.out.r.c1; have d2 := HB.out.r.c2; have d3 := HB.out.r.c3; have d4 := HB.out.r.c4
        have f0 := HB.out.r.fz 0; have f1 := HB.out.r.fz 1; have f2 := HB.out.r.fz 2; have f3 := HB.out.r.fz 3; have f4 := HB.out.r.fz 4
        go_wp2_with fail
        have hbo := (Fr.set5 (S := fun k => k = w.heap.size + 1 + 1) (w := w6) (g := w.heap.size + 1 + 1) rfl (.slice B1 s1.kinds.length e1) (.slice B2 s1.full.length e2) (.slice B3 s1.stack.length e3) (.slice B4 s1.memo.length e4) (.bool s1.done)).blk HB.out.b HB.out.ne
        refine hKv.out _ _ (And.intro (SB.c0 hbo) (And.intro (SB.c1 hbo) (And.intro (SB.c2 hbo) (And.intro (SB.c3 hbo) (SB.c4 hbo))))) ?_
        clear hbo
        clear hKv Kv hS d0 d1 d2 d3 d4 f0 f1 f2 f3 f4
        repeat (first | refine wpP.c0 (h := ?_))
        refine wpP.done ?_
        go_wp2_with fail
        have ho := HB.out.out
        refine bodyPost_ret (results_cellt rfl _ _ (w.heap.size + 1 + 1) _ rfl (loadS ho.1)) rfl ?_
        rw [HQ.out, HRR.out, fit_some (by omega) (by omega)]
        exact HB.out.tpost _ (.inr rfl)
      · refine region_perm (fun w' => w'.cell? ⟨w.heap.size, 0, none⟩ = some (.slice B1 s1.kinds.length e1) ∧ w'.cell? ⟨w.heap.size, 1, none⟩ = some (.slice B2 s1.full.length e2) ∧ w'.cell? ⟨w.heap.size, 2, none⟩ = some (.slice B3 s1.stack.length e3) ∧ w'.cell? ⟨w.heap.size, 3, none⟩ = some (.slice B4 s1.memo.length e4) ∧ w'.cell? ⟨w.heap.size, 4, none⟩ = some (.bool s1.done)) [] [(0, 1), (1, 0), (2, 0), (3, 0), (4, 1), (5, 0), (6, 0), (7, 0), (8, 0), (9, 0), (10, 1), (11, 0), (12, 0), (13, 0), (14, 2), (15, 0)] (by kernel_rfl) (by kernel_rfl) rfl (by kernel_rfl) (fun _ _ _ _ h => h) ?_
        generalize hwd : World.drew w5 = w6
        have hb6 := HB.out.ext (show Ext w5 w6 by rw [← hwd]; exact (Ext.rf w5).dr)
        clear hwd HB
        have HB := As.mk hb6
        have hS := And.intro hb6.b.c0 (And.intro hb6.b.c1 (And.intro hb6.b.c2 (And.intro hb6.b.c3 hb6.b.c4)))
        clear hb6
        repeat (first | refine wpP.c0 (h := ?_) | refine wpP.c1 hS (h := ?_) | refine wpP.c0off (h := ?_) | refine wpP.c1off hS (h := ?_))
        refine wpP.ev (h := fun Kv hKv => ?_)
        have d0 := HB.out.r.c0; have d1 := HB.out.r.c1; have d2 := HB.out.r.c2; have d3 := HB.out.r.c3; have d4 := HB.out.r.c4
        have f0 := HB.out.r.fz 0; have f1 := HB.out.r.fz 1; have f2 := HB.out.r.fz 2; have f3 := HB.out.r.fz 3; have f4 := HB.out.r.fz 4
        go_wp2_with fail
        have hbo := (Fr.set5 (S := fun k => k = w.heap.size + 1 + 1) (w := w6) (g := w.heap.size + 1 + 1) rfl (.slice B1 s1.kinds.length e1) (.slice B2 s1.full.length e2) (.slice B3 s1.stack.length e3) (.slice B4 s1.memo.length e4) (.bool s1.done)).blk HB.out.b HB.out.ne
        refine hKv.out _ _ (And.intro (SB.c0 hbo) (And.intro (SB.c1 hbo) (And.intro (SB.c2 hbo) (And.intro (SB.c3 hbo) (SB.c4 hbo))))) ?_
        clear hbo
        clear hKv Kv hS d0 d1 d2 d3 d4 f0 f1 f2 f3 f4
        repeat (first | refine wpP.c0 (h := ?_))
        refine wpP.done ?_
        go_wp2_with fail
        have ho := HB.out.out
        refine bodyPost_ret (results_cellt rfl _ _ (w.heap.size + 1 + 1) _ rfl (loadS ho.1)) rfl ?_
        rw [HQ.out, HRR.out, fit_none (by simp at h2; omega)]
        exact HB.out.tpost none (.inl rfl)
    · refine region_perm (fun w' => w'.cell? ⟨w.heap.size, 0, none⟩ = some (.slice B1 s1.kinds.length e1) ∧ w'.cell? ⟨w.heap.size, 1, none⟩ = some (.slice B2 s1.full.length e2) ∧ w'.cell? ⟨w.heap.size, 2, none⟩ = some (.slice B3 s1.stack.length e3) ∧ w'.cell? ⟨w.heap.size, 3, none⟩ = some (.slice B4 s1.memo.length e4) ∧ w'.cell? ⟨w.heap.size, 4, none⟩ = some (.bool s1.done)) [] [(0, 1), (1, 0), (2, 0), (3, 0), (4, 1), (5, 0), (6, 0), (7, 0), (8, 0), (9, 0), (10, 1), (11, 0), (12, 0), (13, 0), (14, 2), (15, 0)] (by kernel_rfl) (by kernel_rfl) rfl (by kernel_rfl) (fun _ _ _ _ h => h) ?_
      generalize hwd : World.drew w5 = w6
      have hb6 := HB.out.ext (show Ext w5 w6 by rw [← hwd]; exact (Ext.rf w5).dr)
      clear hwd HB
      have HB := As.mk hb6
      have hS := And.intro hb6.b.c0 (And.intro hb6.b.c1 (And.intro hb6.b.c2 (And.intro hb6.b.c3 hb6.b.c4)))
      clear hb6
      repeat (first | refine wpP.c0 (h := ?_) | refine wpP.c1 hS (h := ?_) | refine wpP.c0off (h := ?_) | refine wpP.c1off hS (h := ?_))
      refine wpP.ev (h := fun Kv hKv => ?_)
      have d0 := HB.out.r.c0; have d1 := HB.out.r.c1; have d2 := HB.out.r.c2; have d3 := HB.out.r.c3; have d4 := HB.out.r.c4
      have f0 := HB.out.r.fz 0; have f1 := HB.out.r.fz 1; have f2 := HB.out.r.fz 2; have f3 := HB.out.r.fz 3; have f4 := HB.out.r.fz 4
      go_wp2_with fail
      have hbo := (Fr.set5 (S := fun k => k = w.heap.size + 1 + 1) (w := w6) (g := w.heap.size + 1 + 1) rfl (.slice B1 s1.kinds.length e1) (.slice B2 s1.full.length e2) (.slice B3 s1.stack.length e3) (.slice B4 s1.memo.length e4) (.bool s1.done)).blk HB.out.b HB.out.ne
      refine hKv.out _ _ (And.intro (SB.c0 hbo) (And.intro (SB.c1 hbo) (And.intro (SB.c2 hbo) (And.intro (SB.c3 hbo) (SB.c4 hbo))))) ?_
      clear hbo
      clear hKv Kv hS d0 d1 d2 d3 d4 f0 f1 f2 f3 f4
      repeat (first | refine wpP.c0 (h := ?_))
      refine wpP.done ?_
      go_wp2_with fail
      have ho := HB.out.out
      refine bodyPost_ret (results_cellt rfl _ _ (w.heap.size + 1 + 1) _ rfl (loadS ho.1)) rfl ?_
      rw [HQ.out, HRR.out, fit_none (by simp at h1; omega)]
      exact HB.out.tpost none (.inl rfl)
set_option maxRecDepth 100000 in
set_option maxHeartbeats 1000000 in
theorem step_12 (vK vF vS vM : Value) (s : Sh) (arg : Int) (w : World) (hs : SV w vK vF vS vM s) (hok : okS s) (hd : s.done = false) :
    Calls Try.prog 96 #[.agg #[vK, vF, vS, vM, .bool s.done], .agg #[.int .i64 12, .int .i64 arg]] w (TPost vK vF vS vM (stepS s ⟨12, arg⟩) w) := by
  obtain ⟨AK, cK, AF, cF, AS, cS, AM, cM, rfl, rfl, rfl, rfl, q1, q2, q3, q4, r1, r2, r3, r4⟩ := hs.rd hok.siz.k hok.siz.f hok.siz.t hok.siz.m
  have hkl := hok.kl
  have hsl := hok.sl
  have HN := As.mk (Box.new2 hs 12 arg)
  have HOK := As.mk hok
  clear hs hok r1 r2 r3 r4
  have HD := As.mk hd
  have HK : As (newK 12 = -1) := ⟨rfl⟩
  obtain ⟨r, hr⟩ : ∃ r, markS s 12 = r := ⟨_, rfl⟩
  have HRR := As.mk hr
  have HQ : As (stepS s ⟨12, arg⟩ = fitS (markS s 12)) := ⟨by show (if s.done = true then none else fitS (markS s 12)) = _; rw [hd]; rfl⟩
  clear hd hr
  go_enter Try.func96, Try.ntmps96
  go_upto_region 1 with fail
  generalize ((w.alloc (.cells #[.slice AK s.kinds.length cK, .slice AF s.full.length cF, .slice AS s.stack.length cS, .slice AM s.memo.length cM, .bool s.done] 91)).alloc (.cells #[.int .i64 12, .int .i64 arg] 52)).alloc (.cells #[.slice none 0 0, .slice none 0 0, .slice none 0 0, .slice none 0 0, .bool false] 91) = w1 at HN ⊢
  have HB := As.mk HN.out.1
  have HO := As.mk HN.out.2
  have o0 := OB.c0 HO.out
  have o1 := OB.c1 HO.out
  clear HN
  have c0 := HB.out.b.c0; have c1 := HB.out.b.c1; have c2 := HB.out.b.c2; have c3 := HB.out.b.c3; have c4 := HB.out.b.c4
  have b0 := HB.out.b.fz 0; have b1 := HB.out.b.fz 1; have b2 := HB.out.b.fz 2; have b3 := HB.out.b.fz 3; have b4 := HB.out.b.fz 4
  rw [HD.out] at c4
  go_upto_region 5 with fail
  clear c4
  have c4 := HB.out.b.c4
  cases r with
  | none =>
    go_upto_region 15 with (first | (go_at_call 117; refine (newKind_c _ _).mono ?_; rw [HK.out]; rintro e w2 ⟨rfl, rfl⟩) | (go_at_call 119; refine (markShapes_c _ _ _ _ s 12 _ HB.out.v HOK.out (by omega)).mono ?_; rw [HRR.out]; rintro e w3 ht; obtain ⟨B1, n1, e1, B2, n2, e2, B3, n3, e3, B4, n4, e4, x, rfl, hf, hp⟩ := ht; have HF := As.mk hf; have HP := As.mk hp; have hbb := (HB.out.bad hf).1; clear hf hp c0 c1 c2 c3 c4 b0 b1 b2 b3 b4; have c0 := SB.c0 hbb; have c1 := SB.c1 hbb; have c2 := SB.c2 hbb; have c3 := SB.c3 hbb; have c4 := SB.c4 hbb; have b0 := SB.fz hbb 0; have b1 := SB.fz hbb 1; have b2 := SB.fz hbb 2; have b3 := SB.fz hbb 3; have b4 := SB.fz hbb 4; clear hbb))
    clear o0 o1 HO c0 c1 c2 c3 c4 b0 b1 b2 b3 b4
    have hbb := HB.out.bad HF.out
    have h5 := Fr.set5 (S := fun k => k = w.heap.size) (w := w3) (g := w.heap.size) rfl (.slice B1 n1 e1) (.slice B2 n2 e2) (.slice B3 n3 e3) (.slice B4 n4 e4) (.bool x)
    have hx5 := SB.all (.slice B1 n1 e1) (.slice B2 n2 e2) (.slice B3 n3 e3) (.slice B4 n4 e4) x hbb.1
    have hr5 := h5.blk hbb.2.1 HB.out.ne.symm
    have hF5 := (HB.out.f.then HF.out (fun i hi => HB.out.o i hi)).then h5 (fun i hi => .inr (by omega))
    generalize (((((w3.setCell ⟨w.heap.size, 0, none⟩ (.slice B1 n1 e1)).setCell ⟨w.heap.size, 1, none⟩ (.slice B2 n2 e2)).setCell ⟨w.heap.size, 2, none⟩ (.slice B3 n3 e3)).setCell ⟨w.heap.size, 3, none⟩ (.slice B4 n4 e4)).setCell ⟨w.heap.size, 4, none⟩ (.bool x)) = w5 at hx5 hr5 hF5 ⊢
    clear h5 hbb
    refine region_perm (fun w' => w'.cell? ⟨w.heap.size, 0, none⟩ = some (.slice B1 n1 e1) ∧ w'.cell? ⟨w.heap.size, 1, none⟩ = some (.slice B2 n2 e2) ∧ w'.cell? ⟨w.heap.size, 2, none⟩ = some (.slice B3 n3 e3) ∧ w'.cell? ⟨w.heap.size, 3, none⟩ = some (.slice B4 n4 e4) ∧ w'.cell? ⟨w.heap.size, 4, none⟩ = some (.bool x)) [] [(0, 1), (1, 0), (2, 0), (3, 0), (4, 1), (5, 0), (6, 0), (7, 0), (8, 0), (9, 0), (10, 1), (11, 0), (12, 0), (13, 0), (14, 2), (15, 0)] (by kernel_rfl) (by kernel_rfl) rfl (by kernel_rfl) (fun _ _ _ _ h => h) ?_
    generalize hwd : World.drew w5 = w6
    have he6 : Ext w5 w6 := by rw [← hwd]; exact (Ext.rf w5).dr
    have hx6 := he6.blk hx5
    have hr6 := he6.blk hr5
    have HF6 := As.mk (hF5.then (Fr.ofExt (S := fun _ => False) he6) (fun _ h => h.elim))
    clear hwd HB hx5 hr5 hF5 he6
    have HX6 := As.mk hx6
    have HR6 := As.mk hr6
    have hS := And.intro (SB.c0 hx6) (And.intro (SB.c1 hx6) (And.intro (SB.c2 hx6) (And.intro (SB.c3 hx6) (SB.c4 hx6))))
    clear hx6 hr6
    repeat (first | refine wpP.c0 (h := ?_) | refine wpP.c1 hS (h := ?_) | refine wpP.c0off (h := ?_) | refine wpP.c1off hS (h := ?_))
    refine wpP.ev (h := fun Kv hKv => ?_)
    have d0 := SB.c0 HR6.out; have d1 := SB.c1 HR6.out; have d2 := SB.c2 HR6.out; have d3 := SB.c3 HR6.out; have d4 := SB.c4 HR6.out
    have f0 := SB.fz HR6.out 0; have f1 := SB.fz HR6.out 1; have f2 := SB.fz HR6.out 2; have f3 := SB.fz HR6.out 3; have f4 := SB.fz HR6.out 4
    go_wp2_with fail
    have hs5 := Fr.set5 (S := fun k => k = w.heap.size + 1 + 1) (w := w6) (g := w.heap.size + 1 + 1) rfl (.slice B1 n1 e1) (.slice B2 n2 e2) (.slice B3 n3 e3) (.slice B4 n4 e4) (.bool x)
    have hbo := hs5.blk HX6.out (by omega)
    refine hKv.out _ _ (And.intro (SB.c0 hbo) (And.intro (SB.c1 hbo) (And.intro (SB.c2 hbo) (And.intro (SB.c3 hbo) (SB.c4 hbo))))) ?_
    have HS5 := As.mk hs5
    clear hbo hs5
    clear hKv Kv hS d0 d1 d2 d3 d4 f0 f1 f2 f3 f4
    repeat (first | refine wpP.c0 (h := ?_))
    refine wpP.done ?_
    go_wp2_with fail
    refine bodyPost_ret (results_cellt rfl _ _ (w.heap.size + 1 + 1) _ rfl (loadS (SB.all _ _ _ _ _ HR6.out))) rfl ?_
    rw [HQ.out, HRR.out]
    exact ⟨_, _, _, _, _, _, _, _, _, _, _, _, _, rfl, HF6.out.then HS5.out (fun i hi => .inr (by omega)), fun s' h => nomatch h⟩
  | some s1 =>
    go_upto_region 15 with (first | (go_at_call 117; refine (newKind_c _ _).mono ?_; rw [HK.out]; rintro e w2 ⟨rfl, rfl⟩) | (go_at_call 119; refine (markShapes_c _ _ _ _ s 12 _ HB.out.v HOK.out (by omega)).mono ?_; rw [HRR.out]; rintro e w3 ht; obtain ⟨B1, n1, e1, B2, n2, e2, B3, n3, e3, B4, n4, e4, x, rfl, hf, hp⟩ := ht; have HF := As.mk hf; have HP := As.mk hp; have hbb := (HB.out.bad hf).1; clear hf hp c0 c1 c2 c3 c4 b0 b1 b2 b3 b4; have c0 := SB.c0 hbb; have c1 := SB.c1 hbb; have c2 := SB.c2 hbb; have c3 := SB.c3 hbb; have c4 := SB.c4 hbb; have b0 := SB.fz hbb 0; have b1 := SB.fz hbb 1; have b2 := SB.fz hbb 2; have b3 := SB.fz hbb 3; have b4 := SB.fz hbb 4; clear hbb))
    clear o0 o1 HO c0 c1 c2 c3 c4 b0 b1 b2 b3 b4
    obtain ⟨hxd, hp⟩ := HP.out s1 rfl
    subst hxd
    have hpp := HB.out.put hp
    have hl1 : n1 = s1.kinds.length ∧ n3 = s1.stack.length ∧ n2 = s1.full.length ∧ n4 = s1.memo.length := by
      obtain ⟨_, _, _, _, _, _, _, _, k1, k2, k3, k4⟩ := hp.1.forms
      injection k1 with _ k1 _
      injection k2 with _ k2 _
      injection k3 with _ k3 _
      injection k4 with _ k4 _
      exact ⟨k1, k3, k2, k4⟩
    obtain ⟨rfl, rfl, rfl, rfl⟩ := hl1
    clear HP HF hp HB
    generalize (((((w3.setCell ⟨w.heap.size, 0, none⟩ (.slice B1 s1.kinds.length e1)).setCell ⟨w.heap.size, 1, none⟩ (.slice B2 s1.full.length e2)).setCell ⟨w.heap.size, 2, none⟩ (.slice B3 s1.stack.length e3)).setCell ⟨w.heap.size, 3, none⟩ (.slice B4 s1.memo.length e4)).setCell ⟨w.heap.size, 4, none⟩ (.bool s1.done)) = w5 at hpp ⊢
    have HB := As.mk hpp
    clear hpp
    rcases bcase ((s1.kinds.length : Int) ≤ 300) with h1 | h1
    · rcases bcase ((s1.stack.length : Int) ≤ 300) with h2 | h2
      · refine region_perm (fun w' => w'.cell? ⟨w.heap.size, 0, none⟩ = some (.slice B1 s1.kinds.length e1) ∧ w'.cell? ⟨w.heap.size, 1, none⟩ = some (.slice B2 s1.full.length e2) ∧ w'.cell? ⟨w.heap.size, 2, none⟩ = some (.slice B3 s1.stack.length e3) ∧ w'.cell? ⟨w.heap.size, 3, none⟩ = some (.slice B4 s1.memo.length e4) ∧ w'.cell? ⟨w.heap.size, 4, none⟩ = some (.bool s1.done)) [] [(0, 1), (1, 0), (2, 0), (3, 0), (4, 1), (5, 0), (6, 0), (7, 0), (8, 0), (9, 0), (10, 1), (11, 0), (12, 0), (13, 0), (14, 2), (15, 0)] (by kernel_rfl) (by kernel_rfl) rfl (by kernel_rfl) (fun _ _ _ _ h => h) ?_
        generalize hwd : World.drew w5 = w6
        have hb6 := HB.out.ext (show Ext w5 w6 by rw [← hwd]; exact (Ext.rf w5).dr)
        clear hwd HB
        have HB := As.mk hb6
        have hS := And.intro hb6.b.c0 (And.intro hb6.b.c1 (And.intro hb6.b.c2 (And.intro hb6.b.c3 hb6.b.c4)))
        clear hb6
        repeat (first | refine wpP.c0 (h := ?_) | refine wpP.c1 hS (h := ?_) | refine wpP.c0off (h := ?_) | refine wpP.c1off hS (h := ?_))
        refine wpP.ev (h := fun Kv hKv => ?_)
        have d0 := HB.out.r.c0; have d1 := HB.out.r.c1; have d2 := HB.out.r.c2; have d3 := HB.out.r.c3; have d4 := HB.out.r.c4
        have f0 := HB.out.r.fz 0; have f1 := HB.out.r.fz 1; have f2 := HB.out.r.fz 2; have f3 := HB.out.r.fz 3; have f4 := HB.out.r.fz 4
        go_wp2_with fail
        have hbo := (Fr.set5 (S := fun k => k = w.heap.size + 1 + 1) (w := w6) (g := w.heap.size + 1 + 1) rfl (.slice B1 s1.kinds.length e1) (.slice B2 s1.full.length e2) (.slice B3 s1.stack.length e3) (.slice B4 s1.memo.length e4) (.bool s1.done)).blk HB.out.b HB.out.ne
        refine hKv.out _ _ (And.intro (SB.c0 hbo) (And.intro (SB.c1 hbo) (And.intro (SB.c2 hbo) (And.intro (SB.c3 hbo) (SB.c4 hbo))))) ?_
        clear hbo
        clear hKv Kv hS d0 d1 d2 d3 d4 f0 f1 f2 f3 f4
        repeat (first | refine wpP.c0 (h := ?_))
        refine wpP.done ?_
        go_wp2_with fail
        have ho := HB.out.out
        refine bodyPost_ret (results_cellt rfl _ _ (w.heap.size + 1 + 1) _ rfl (loadS ho.1)) rfl ?_
        rw [HQ.out, HRR.out, fit_some (by omega) (by omega)]
        exact HB.out.tpost _ (.inr rfl)
      · refine region_perm (fun w' => w'.cell? ⟨w.heap.size, 0, none⟩ = some (.slice B1 s1.kinds.length e1) ∧ w'.cell? ⟨w.heap.size, 1, none⟩ = some (.slice B2 s1.full.length e2) ∧ w'.cell? ⟨w.heap.size, 2, none⟩ = some (.slice B3 s1.stack.length e3) ∧ w'.cell? ⟨w.heap.size, 3, none⟩ = some (.slice B4 s1.memo.length e4) ∧ w'.cell? ⟨w.heap.size, 4, none⟩ = some (.bool s1.done)) [] [(0, 1), (1, 0), (2, 0), (3, 0), (4, 1), (5, 0), (6, 0), (7, 0), (8, 0), (9, 0), (10, 1), (11, 0), (12, 0), (13, 0), (14, 2), (15, 0)] (by kernel_rfl) (by kernel_rfl) rfl (by kernel_rfl) (fun _ _ _ _ h => h) ?_
        generalize hwd : World.drew w5 = w6
        have hb6 := HB.out.ext (show Ext w5 w6 by rw [← hwd]; exact (Ext.rf w5).dr)
        clear hwd HB
        have HB := As.mk hb6
        have hS := And.intro hb6.b.c0 (And.intro hb6.b.c1 (And.intro hb6.b.c2 (And.intro hb6.b.c3 hb6.b.c4)))
        clear hb6
        repeat (first | refine wpP.c0 (h := ?_) | refine wpP.c1 hS (h := ?_) | refine wpP.c0off (h := ?_) | refine wpP.c1off hS (h := ?_))
        refine wpP.ev (h := fun Kv hKv => ?_)
        have d0 := HB.out.r.c0; have d1 := HB.out.r.c1; have d2 := HB.out.r.c2; have d3 := HB.out.r.c3; have d4 := HB.out.r.c4
        have f0 := HB.out.r.fz 0; have f1 := HB.out.r.fz 1; have f2 := HB.out.r.fz 2; have f3 := HB.out.r.fz 3; have f4 := HB.out.r.fz 4
        go_wp2_with fail
        have hbo := (Fr.set5 (S := fun k => k = w.heap.size + 1 + 1) (w := w6) (g := w.heap.size + 1 + 1) rfl (.slice B1 s1.kinds.length e1) (.slice B2 s1.full.length e2) (.slice B3 s1.stack.length e3) (.slice B4 s1.memo.length e4) (.bool s1.done)).blk HB.out.b HB.out.ne
        refine hKv.out _ _ (And.intro (SB.c0 hbo) (And.intro (SB.c1 hbo) (And.intro (SB.c2 hbo) (And.intro (SB.c3 hbo) (SB.c4 hbo))))) ?_
        clear hbo
        clear hKv Kv hS d0 d1 d2 d3 d4 f0 f1 f2 f3 f4
        repeat (first | refine wpP.c0 (h := ?_))
        refine wpP.done ?_
        go_wp2_with fail
        have ho := HB.out.out
        refine bodyPost_ret (results_cellt rfl _ _ (w.heap.size + 1 + 1) _ rfl (loadS ho.1)) rfl ?_
        rw [HQ.out, HRR.out, fit_none (by simp at h2; omega)]
        exact HB.out.tpost none (.inl rfl)
    · refine region_perm (fun w' => w'.cell? ⟨w.heap.size, 0, none⟩ = some (.slice B1 s1.kinds.length e1) ∧ w'.cell? ⟨w.heap.size, 1, none⟩ = some (.slice B2 s1.full.length e2) ∧ w'.cell? ⟨w.heap.size, 2, none⟩ = some (.slice B3 s1.stack.length e3) ∧ w'.cell? ⟨w.heap.size, 3, none⟩ = some (.slice B4 s1.memo.length e4) ∧ w'.cell? ⟨w.heap.size, 4, none⟩ = some (.bool s1.done)) [] [(0, 1), (1, 0), (2, 0), (3, 0), (4, 1), (5, 0), (6, 0), (7, 0), (8, 0), (9, 0), (10, 1), (11, 0), (12, 0), (13, 0), (14, 2), (15, 0)] (by kernel_rfl) (by kernel_rfl) rfl (by kernel_rfl) (fun _ _ _ _ h => h) ?_
      generalize hwd : World.drew w5 = w6
      have hb6 := HB.out.ext (show Ext w5 w6 by rw [← hwd]; exact (Ext.rf w5).dr)
      clear hwd HB
      have HB := As.mk hb6
      have hS := And.intro hb6.b.c0 (And.intro hb6.b.c1 (And.intro hb6.b.c2 (And.intro hb6.b.c3 hb6.b.c4)))
      clear hb6
      repeat (first | refine wpP.c0 (h := ?_) | refine wpP.c1 hS (h := ?_) | refine wpP.c0off (h := ?_) | refine wpP.c1off hS (h := ?_))
      refine wpP.ev (h := fun Kv hKv => ?_)
      have d0 := HB.out.r.c0; have d1 := HB.out.r.c1; have d2 := HB.out.r.c2; have d3 := HB.out.r.c3; have d4 := HB.out.r.c4
      have f0 := HB.out.r.fz 0; have f1 := HB.out.r.fz 1; have f2 := HB.out.r.fz 2; have f3 := HB.out.r.fz 3; have f4 := HB.out.r.fz 4
      go_wp2_with fail
      have hbo := (Fr.set5 (S := fun k => k = w.heap.size + 1 + 1) (w := w6) (g := w.heap.size + 1 + 1) rfl (.slice B1 s1.kinds.length e1) (.slice B2 s1.full.length e2) (.slice B3 s1.stack.length e3) (.slice B4 s1.memo.length e4) (.bool s1.done)).blk HB.out.b HB.out.ne
      refine hKv.out _ _ (And.intro (SB.c0 hbo) (And.intro (SB.c1 hbo) (And.intro (SB.c2 hbo) (And.intro (SB.c3 hbo) (SB.c4 hbo))))) ?_
      clear hbo
      clear hKv Kv hS d0 d1 d2 d3 d4 f0 f1 f2 f3 f4
      repeat (first | refine wpP.c0 (h := ?_))
      refine wpP.done ?_
      go_wp2_with fail
      have ho := HB.out.out
      refine bodyPost_ret (results_cellt rfl _ _ (w.heap.size + 1 + 1) _ rfl (loadS ho.1)) rfl ?_
      rw [HQ.out, HRR.out, fit_none (by simp at h1; omega)]
      exact HB.out.tpost none (.inl rfl)
set_option maxRecDepth 100000 in
set_option maxHeartbeats 1000000 in
theorem step_18 (vK vF vS vM : Value) (s : Sh) (arg : Int) (w : World) (hs : SV w vK vF vS vM s) (hok : okS s) (hd : s.done = false) :
    Calls Try.prog 96 #[.agg #[vK, vF, vS, vM, .bool s.done], .agg #[.int .i64 18, .int .i64 arg]] w (TPost vK vF vS vM (stepS s ⟨18, arg⟩) w) := by
  obtain ⟨AK, cK, AF, cF, AS, cS, AM, cM, rfl, rfl, rfl, rfl, q1, q2, q3, q4, r1, r2, r3, r4⟩ := hs.rd hok.siz.k hok.siz.f hok.siz.t hok.siz.m
  have hkl := hok.kl
  have hsl := hok.sl
  have HN := As.mk (Box.new2 hs 18 arg)
  have HOK := As.mk hok
  clear hs hok r1 r2 r3 r4
  have HD := As.mk hd
  have HK : As (newK 18 = -1) := ⟨rfl⟩
  obtain ⟨r, hr⟩ : ∃ r, markS s 18 = r := ⟨_, rfl⟩
  have HRR := As.mk hr
  have HQ : As (stepS s ⟨18, arg⟩ = fitS (markS s 18)) := ⟨by show (if s.done = true then none else fitS (markS s 18)) = _; rw [hd]; rfl⟩
  clear hd hr
  go_enter Try.func96, Try.ntmps96
  go_upto_region 1 with fail
  generalize ((w.alloc (.cells #[.slice AK s.kinds.length cK, .slice AF s.full.length cF, .slice AS s.stack.length cS, .slice AM s.memo.length cM, .bool s.done] 91)).alloc (.cells #[.int .i64 18, .int .i64 arg] 52)).alloc (.cells #[.slice none 0 0, .slice none 0 0, .slice none 0 0, .slice none 0 0, .bool false] 91) = w1 at HN ⊢
  have HB := As.mk HN.out.1
  have HO := As.mk HN.out.2
  have o0 := OB.c0 HO.out
  have o1 := OB.c1 HO.out
  clear HN
  have c0 := HB.out.b.c0; have c1 := HB.out.b.c1; have c2 := HB.out.b.c2; have c3 := HB.out.b.c3; have c4 := HB.out.b.c4
  have b0 := HB.out.b.fz 0; have b1 := HB.out.b.fz 1; have b2 := HB.out.b.fz 2; have b3 := HB.out.b.fz 3; have b4 := HB.out.b.fz 4
  rw [HD.out] at c4
  go_upto_region 5 with fail
  clear c4
  have c4 := HB.out.b.c4
  cases r with
  | none =>
    go_upto_region 15 with (first | (go_at_call 117; refine (newKind_c _ _).mono ?_; rw [HK.out]; rintro e w2 ⟨rfl, rfl⟩) | (go_at_call 119; refine (markShapes_c _ _ _ _ s 18 _ HB.out.v HOK.out (by omega)).mono ?_; rw [HRR.out]; rintro e w3 ht; obtain ⟨B1, n1, e1, B2, n2, e2, B3, n3, e3, B4, n4, e4, x, rfl, hf, hp⟩ := ht; have HF := As.mk hf; have HP := As.mk hp; have hbb := (HB.out.bad hf).1; clear hf hp c0 c1 c2 c3 c4 b0 b1 b2 b3 b4; have c0 := SB.c0 hbb; have c1 := SB.c1 hbb; have c2 := SB.c2 hbb; have c3 := SB.c3 hbb; have c4 := SB.c4 hbb; have b0 := SB.fz hbb 0; have b1 := SB.fz hbb 1; have b2 := SB.fz hbb 2; have b3 := SB.fz hbb 3; have b4 := SB.fz hbb 4; clear hbb))
    clear o0 o1 HO c0 c1 c2 c3 c4 b0 b1 b2 b3 b4
    have hbb := HB.out.bad HF.out
    have h5 := Fr.set5 (S := fun k => k = w.heap.size) (w := w3) (g := w.heap.size) rfl (.slice B1 n1 e1) (.slice B2 n2 e2) (.slice B3 n3 e3) (.slice B4 n4 e4) (.bool x)
    have hx5 := SB.all (.slice B1 n1 e1) (.slice B2 n2 e2) (.slice B3 n3 e3) (.slice B4 n4 e4) x hbb.1
    have hr5 := h5.blk hbb.2.1 HB.out.ne.symm
    have hF5 := (HB.out.f.then HF.out (fun i hi => HB.out.o i hi)).then h5 (fun i hi => .inr (by omega))
    generalize (((((w3.setCell ⟨w.heap.size, 0, none⟩ (.slice B1 n1 e1)).setCell ⟨w.heap.size, 1, none⟩ (.slice B2 n2 e2)).setCell ⟨w.heap.size, 2, none⟩ (.slice B3 n3 e3)).setCell ⟨w.heap.size, 3, none⟩ (.slice B4 n4 e4)).setCell ⟨w.heap.size, 4, none⟩ (.bool x)) = w5 at hx5 hr5 hF5 ⊢
    clear h5 hbb
    refine region_perm (fun w' => w'.cell? ⟨w.heap.size, 0, none⟩ = some (.slice B1 n1 e1) ∧ w'.cell? ⟨w.heap.size, 1, none⟩ = some (.slice B2 n2 e2) ∧ w'.cell? ⟨w.heap.size, 2, none⟩ = some (.slice B3 n3 e3) ∧ w'.cell? ⟨w.heap.size, 3, none⟩ = some (.slice B4 n4 e4) ∧ w'.cell? ⟨w.heap.size, 4, none⟩ = some (.bool x)) [] [(0, 1), (1, 0), (2, 0), (3, 0), (4, 1), (5, 0), (6, 0), (7, 0), (8, 0), (9, 0), (10, 1), (11, 0), (12, 0), (13, 0), (14, 2), (15, 0)] (by kernel_rfl) (by kernel_rfl) rfl (by kernel_rfl) (fun _ _ _ _ h => h) ?_
    generalize hwd : World.drew w5 = w6
    have he6 : Ext w5 w6 := by rw [← hwd]; exact (Ext.rf w5).dr
    have hx6 := he6.blk hx5
    have hr6 := he6.blk hr5
    have HF6 := As.mk (hF5.then (Fr.ofExt (S := fun _ => False) he6) (fun _ h => h.elim))
    clear hwd HB hx5 hr5 hF5 he6
    have HX6 := As.mk hx6
    have HR6 := As.mk hr6
    have hS := And.intro (SB.c0 hx6) (And.intro (SB.c1 hx6) (And.intro (SB.c2 hx6) (And.intro (SB.c3 hx6) (SB.c4 hx6))))
    clear hx6 hr6
    repeat (first | refine wpP.c0 (h := ?_) | refine wpP.c1 hS (h := ?_) | refine wpP.c0off (h := ?_) | refine wpP.c1off hS (h := ?_))
    refine wpP.ev (h := fun Kv hKv => ?_)
    have d0 := SB.c0 HR6.out; have d1 := SB.c1 HR6.out; have d2 := SB.c2 HR6.out; have d3 := SB.c3 HR6.out; have d4 := SB.c4 HR6.out
    have f0 := SB.fz HR6.out 0; have f1 := SB.fz HR6.out 1; have f2 := SB.fz HR6.out 2; have f3 := SB.fz HR6.out 3; have f4 := SB.fz HR6.out 4
    go_wp2_with fail
    have hs5 := Fr.set5 (S := fun k => k = w.heap.size + 1 + 1) (w := w6) (g := w.heap.size + 1 + 1) rfl (.slice B1 n1 e1) (.slice B2 n2 e2) (.slice B3 n3 e3) (.slice B4 n4 e4) (.bool x)
    have hbo := hs5.blk HX6.out (by omega)
    refine hKv.out _ _ (And.intro (SB.c0 hbo) (And.intro (SB.c1 hbo) (And.intro (SB.c2 hbo) (And.intro (SB.c3 hbo) (SB.c4 hbo))))) ?_
    have HS5 := As.mk hs5
    clear hbo hs5
    clear hKv Kv hS d0 d1 d2 d3 d4 f0 f1 f2 f3 f4
    repeat (first | refine wpP.c0 (h := ?_))
    refine wpP.done ?_
    go_wp2_with fail
    refine bodyPost_ret (results_cellt rfl _ _ (w.heap.size + 1 + 1) _ rfl (loadS (SB.all _ _ _ _ _ HR6.out))) rfl ?_
    rw [HQ.out, HRR.out]
    exact ⟨_, _, _, _, _, _, _, _, _, _, _, _, _, rfl, HF6.out.then HS5.out (fun i hi => .inr (by omega)), fun s' h => nomatch h⟩
  | some s1 =>
    go_upto_region 15 with (first | (go_at_call 117; refine (newKind_c _ _).mono ?_; rw [HK.out]; rintro e w2 ⟨rfl, rfl⟩) | (go_at_call 119; refine (markShapes_c _ _ _ _ s 18 _ HB.out.v HOK.out (by omega)).mono ?_; rw [HRR.out]; rintro e w3 ht; obtain ⟨B1, n1, e1, B2, n2, e2, B3, n3, e3, B4, n4, e4, x, rfl, hf, hp⟩ := ht; have HF := As.mk hf; have HP := As.mk hp; have hbb := (HB.out.bad hf).1; clear hf hp c0 c1 c2 c3 c4 b0 b1 b2 b3 b4; have c0 := SB.c0 hbb; have c1 := SB.c1 hbb; have c2 := SB.c2 hbb; have c3 := SB.c3 hbb; have c4 := SB.c4 hbb; have b0 := SB.fz hbb 0; have b1 := SB.fz hbb 1; have b2 := SB.fz hbb 2; have b3 := SB.fz hbb 3; have b4 := SB.fz hbb 4; clear hbb))
    clear o0 o1 HO c0 c1 c2 c3 c4 b0 b1 b2 b3 b4
    obtain ⟨hxd, hp⟩ := HP.out s1 rfl
    subst hxd
    have hpp := HB.out.put hp
    have hl1 : n1 = s1.kinds.length ∧ n3 = s1.stack.length ∧ n2 = s1.full.length ∧ n4 = s1.memo.length := by
      obtain ⟨_, _, _, _, _, _, _, _, k1, k2, k3, k4⟩ := hp.1.forms
      injection k1 with _ k1 _
      injection k2 with _ k2 _
      injection k3 with _ k3 _
      injection k4 with _ k4 _
      exact ⟨k1, k3, k2, k4⟩
    obtain ⟨rfl, rfl, rfl, rfl⟩ := hl1
    clear HP HF hp HB
    generalize (((((w3.setCell ⟨w.heap.size, 0, none⟩ (.slice B1 s1.kinds.length e1)).setCell ⟨w.heap.size, 1, none⟩ (.slice B2 s1.full.length e2)).setCell ⟨w.heap.size, 2, none⟩ (.slice B3 s1.stack.length e3)).setCell ⟨w.heap.size, 3, none⟩ (.slice B4 s1.memo.length e4)).setCell ⟨w.heap.size, 4, none⟩ (.bool s1.done)) = w5 at hpp ⊢
    have HB := As.mk hpp
    clear hpp
    rcases bcase ((s1.kinds.length : Int) ≤ 300) with h1 | h1
    · rcases bcase ((s1.stack.length : Int) ≤ 300) with h2 | h2
      · refine region_perm (fun w' => w'.cell? ⟨w.heap.size, 0, none⟩ = some (.slice B1 s1.kinds.length e1) ∧ w'.cell? ⟨w.heap.size, 1, none⟩ = some (.slice B2 s1.full.length e2) ∧ w'.cell? ⟨w.heap.size, 2, none⟩ = some (.slice B3 s1.stack.length e3) ∧ w'.cell? ⟨w.heap.size, 3, none⟩ = some (.slice B4 s1.memo.length e4) ∧ w'.cell? ⟨w.heap.size, 4, none⟩ = some (.bool s1.done)) [] [(0, 1), (1, 0), (2, 0), (3, 0), (4, 1), (5, 0), (6, 0), (7, 0), (8, 0), (9, 0), (10, 1), (11, 0), (12, 0), (13, 0), (14, 2), (15, 0)] (by kernel_rfl) (by kernel_rfl) rfl (by kernel_rfl) (fun _ _ _ _ h => h) ?_
        generalize hwd : World.drew w5 = w6
        have hb6 := HB.out.ext (show Ext w5 w6 by rw [← hwd]; exact (Ext.rf w5).dr)
        clear hwd HB
        have HB := As.mk hb6
        have hS := And.intro hb6.b.c0 (And.intro hb6.b.c1 (And.intro hb6.b.c2 (And.intro hb6.b.c3 hb6.b.c4)))
        clear hb6
        repeat (first | refine wpP.c0 (h := ?_) | refine wpP.c1 hS (h := ?_) | refine wpP.c0off (h := ?_) | refine wpP.c1off hS (h := ?_))
        refine wpP.ev (h := fun Kv hKv => ?_)
        have d0 := HB.out.r.c0; have d1 := HB.out.r.c1; have d2 := HB.out.r.c2; have d3 := HB.out.r.c3; have d4 := HB.out.r.c4
        have f0 := HB.out.r.fz 0; have f1 := HB.out.r.fz 1; have f2 := HB.out.r.fz 2; have f3 := HB.out.r.fz 3; have f4 := HB.out.r.fz 4
        go_wp2_with fail
        have hbo := (Fr.set5 (S := fun k => k = w.heap.size + 1 + 1) (w := w6) (g := w.heap.size + 1 + 1) rfl (.slice B1 s1.kinds.length e1) (.slice B2 s1.full.length e2) (.slice B3 s1.stack.length e3) (.slice B4 s1.memo.length e4) (.bool s1.done)).blk HB.out.b HB.out.ne
        refine hKv.out _ _ (And.intro (SB.c0 hbo) (And.intro (SB.c1 hbo) (And.intro (SB.c2 hbo) (And.intro (SB.c3 hbo) (SB.c4 hbo))))) ?_
        clear hbo
        clear hKv Kv hS d0 d1 d2 d3 d4 f0 f1 f2 f3 f4
        repeat (first | refine wpP.c0 (h := ?_))
        refine wpP.done ?_
        go_wp2_with fail
        have ho := HB.out.out
        refine bodyPost_ret (results_cellt rfl _ _ (w.heap.size + 1 + 1) _ rfl (loadS ho.1)) rfl ?_
        rw [HQ.out, HRR.out, fit_some (by omega) (by omega)]
        exact HB.out.tpost _ (.inr rfl)
      · refine region_perm (fun w' => w'.cell? ⟨w.heap.size, 0, none⟩ = some (.slice B1 s1.kinds.length e1) ∧ w'.cell? ⟨w.heap.size, 1, none⟩ = some (.slice B2 s1.full.length e2) ∧ w'.cell? ⟨w.heap.size, 2, none⟩ = some (.slice B3 s1.stack.length e3) ∧ w'.cell? ⟨w.heap.size, 3, none⟩ = some (.slice B4 s1.memo.length e4) ∧ w'.cell? ⟨w.heap.size, 4, none⟩ = some (.bool s1.done)) [] [(0, 1), (1, 0), (2, 0), (3, 0), (4, 1), (5, 0), (6, 0), (7, 0), (8, 0), (9, 0), (10, 1), (11, 0), (12, 0), (13, 0), (14, 2), (15, 0)] (by kernel_rfl) (by kernel_rfl) rfl (by kernel_rfl) (fun _ _ _ _ h => h) ?_
        generalize hwd : World.drew w5 = w6
        have hb6 := HB.out.ext (show Ext w5 w6 by rw [← hwd]; exact (Ext.rf w5).dr)
        clear hwd HB
        have HB := As.mk hb6
        have hS := And.intro hb6.b.c0 (And.intro hb6.b.c1 (And.intro hb6.b.c2 (And.intro hb6.b.c3 hb6.b.c4)))
        clear hb6
        repeat (first | refine wpP.c0 (h := ?_) | refine wpP.c1 hS (h := ?_) | refine wpP.c0off (h := ?_) | refine wpP.c1off hS (h := ?_))
        refine wpP.ev (h := fun Kv hKv => ?_)
        have d0 := HB.out.r.c0; have d1 := HB.out.r.c1; have d2 := HB.out.r.c2; have d3 := HB.out.r.c3; have d4 := HB.out.r.c4
        have f0 := HB.out.r.fz 0; have f1 := HB.out.r.fz 1; have f2 := HB.out.r.fz 2; have f3 := HB.out.r.fz 3; have f4 := HB.out.r.fz 4
        go_wp2_with fail
        have hbo := (Fr.set5 (S := fun k => k = w.heap.size + 1 + 1) (w := w6) (g := w.heap.size + 1 + 1) rfl (.slice B1 s1.kinds.length e1) (.slice B2 s1.full.length e2) (.slice B3 s1.stack.length e3) (.slice B4 s1.memo.length e4) (.bool s1.done)).blk HB.out.b HB.out.ne
        refine hKv.out _ _ (And.intro (SB.c0 hbo) (And.intro (SB.c1 hbo) (And.intro (SB.c2 hbo) (And.intro (SB.c3 hbo) (SB.c4 hbo))))) ?_
        clear hbo
        clear hKv Kv hS d0 d1 d2 d3 d4 f0 f1 f2 f3 f4
        repeat (first | refine wpP.c0 (h := ?_))
        refine wpP.done ?_
        go_wp2_with fail
        have ho := HB.out.out
        refine bodyPost_ret (results_cellt rfl _ _ (w.heap.size + 1 + 1) _ rfl (loadS ho.1)) rfl ?_
        rw [HQ.out, HRR.out, fit_none (by simp at h2; omega)]
        exact HB.out.tpost none (.inl rfl)
    · refine region_perm (fun w' => w'.cell? ⟨w.heap.size, 0, none⟩ = some (.slice B1 s1.kinds.length e1) ∧ w'.cell? ⟨w.heap.size, 1, none⟩ = some (.slice B2 s1.full.length e2) ∧ w'.cell? ⟨w.heap.size, 2, none⟩ = some (.slice B3 s1.stack.length e3) ∧ w'.cell? ⟨w.heap.size, 3, none⟩ = some (.slice B4 s1.memo.length e4) ∧ w'.cell? ⟨w.heap.size, 4, none⟩ = some (.bool s1.done)) [] [(0, 1), (1, 0), (2, 0), (3, 0), (4, 1), (5, 0), (6, 0), (7, 0), (8, 0), (9, 0), (10, 1), (11, 0), (12, 0), (13, 0), (14, 2), (15, 0)] (by kernel_rfl) (by kernel_rfl) rfl (by kernel_rfl) (fun _ _ _ _ h => h) ?_
      generalize hwd : World.drew w5 = w6
      have hb6 := HB.out.ext (show Ext w5 w6 by rw [← hwd]; exact (Ext.rf w5).dr)
      clear hwd HB
      have HB := As.mk hb6
      have hS := And.intro hb6.b.c0 (And.intro hb6.b.c1 (And.intro hb6.b.c2 (And.intro hb6.b.c3 hb6.b.c4)))
      clear hb6
      repeat (first | refine wpP.c0 (h := ?_) | refine wpP.c1 hS (h := ?_) | refine wpP.c0off (h := ?_) | refine wpP.c1off hS (h := ?_))
      refine wpP.ev (h := fun Kv hKv => ?_)
      have d0 := HB.out.r.c0; have d1 := HB.out.r.c1; have d2 := HB.out.r.c2; have d3 := HB.out.r.c3; have d4 := HB.out.r.c4
      have f0 := HB.out.r.fz 0; have f1 := HB.out.r.fz 1; have f2 := HB.out.r.fz 2; have f3 := HB.out.r.fz 3; have f4 := HB.out.r.fz 4
      go_wp2_with fail
      have hbo := (Fr.set5 (S := fun k => k = w.heap.size + 1 + 1) (w := w6) (g := w.heap.size + 1 + 1) rfl (.slice B1 s1.kinds.length e1) (.slice B2 s1.full.length e2) (.slice B3 s1.stack.length e3) (.slice B4 s1.memo.length e4) (.bool s1.done)).blk HB.out.b HB.out.ne
      refine hKv.out _ _ (And.intro (SB.c0 hbo) (And.intro (SB.c1 hbo) (And.intro (SB.c2 hbo) (And.intro (SB.c3 hbo) (SB.c4 hbo))))) ?_
      clear hbo
      clear hKv Kv hS d0 d1 d2 d3 d4 f0 f1 f2 f3 f4
      repeat (first | refine wpP.c0 (h := ?_))
      refine wpP.done ?_
      go_wp2_with fail
      have ho := HB.out.out
      refine bodyPost_ret (results_cellt rfl _ _ (w.heap.size + 1 + 1) _ rfl (loadS ho.1)) rfl ?_
      rw [HQ.out, HRR.out, fit_none (by simp at h1; omega)]
      exact HB.out.tpost none (.inl rfl)
end Go.Proofs.Ytgenllcfpjgklaa.C
