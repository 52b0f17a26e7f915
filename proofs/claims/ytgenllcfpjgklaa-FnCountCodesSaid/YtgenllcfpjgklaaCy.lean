/- Shapes in memory: an order, II. -/
import Derived.Test.YtgenllcfpjgklaaCx
set_option linter.unusedVariables false
set_option linter.unusedSimpArgs false
namespace Go.Proofs.Ytgenllcfpjgklaa.C
open Go.RowKit Go.Proofs.Ytgenllcfpjgklaa.W Go.Proofs.Ytgenllcfpjgklaa.P

set_option maxRecDepth 100000 in
set_option maxHeartbeats 1000000 in
theorem step_5 (vK vF vS vM : Value) (s : Sh) (arg : Int) (w : World) (hs : SV w vK vF vS vM s) (hok : okS s) (hd : s.done = false) (ho : okO ⟨5, arg⟩ = true) :
    Calls Try.prog 96 #[.agg #[vK, vF, vS, vM, .bool s.done], .agg #[.int .i64 5, .int .i64 arg]] w (TPost vK vF vS vM (stepS s ⟨5, arg⟩) w) := by
  obtain ⟨AK, cK, AF, cF, AS, cS, AM, cM, rfl, rfl, rfl, rfl, q1, q2, q3, q4, r1, r2, r3, r4⟩ := hs.rd hok.siz.k hok.siz.f hok.siz.t hok.siz.m
  have hkl := hok.kl
  have hsl := hok.sl
  have HN := As.mk (Box.new2 hs 5 arg)
  have HOK := As.mk hok
  clear hs hok r1 r2 r3 r4
  have HD := As.mk hd
  have HOA := As.mk ho
  have HK : As (newK 5 = -1) := ⟨rfl⟩
  obtain ⟨r, hr⟩ : ∃ r, takeS s ⟨5, arg⟩ = r := ⟨_, rfl⟩
  have HRR := As.mk hr
  have HQ : As (stepS s ⟨5, arg⟩ = fitS (takeS s ⟨5, arg⟩)) := ⟨by show (if s.done = true then none else fitS (takeS s ⟨5, arg⟩)) = _; rw [hd]; rfl⟩
  clear hd hr ho
  go_enter Try.func96, Try.ntmps96
  go_upto_region 1 with fail
  generalize ((w.alloc (.cells #[.slice AK s.kinds.length cK, .slice AF s.full.length cF, .slice AS s.stack.length cS, .slice AM s.memo.length cM, .bool s.done] 91)).alloc (.cells #[.int .i64 5, .int .i64 arg] 52)).alloc (.cells #[.slice none 0 0, .slice none 0 0, .slice none 0 0, .slice none 0 0, .bool false] 91) = w1 at HN ⊢
  have HB := As.mk HN.out.1
  have HO := As.mk HN.out.2
  have o0 := OB.c0 HO.out
  have o1 := OB.c1 HO.out
  clear HN
  have c0 := HB.out.b.c0; have c1 := HB.out.b.c1; have c2 := HB.out.b.c2; have c3 := HB.out.b.c3; have c4 := HB.out.b.c4
  have b0 := HB.out.b.fz 0; have b1 := HB.out.b.fz 1; have b2 := HB.out.b.fz 2; have b3 := HB.out.b.fz 3; have b4 := HB.out.b.fz 4
  rw [HD.out] at c4
  go_upto_region 5 with fail
  clear c4
  have c4 := HB.out.b.c4
  have o0' := o0
  have o1' := o1
  cases r with
  | none =>
    go_upto_region 15 with (first | (go_at_call 117; refine (newKind_c _ _).mono ?_; rw [HK.out]; rintro e w2 ⟨rfl, rfl⟩) | (go_at_call 120; refine (takeShapes_c _ _ _ _ s 5 arg _ HB.out.v HOK.out HOA.out (by omega)).mono ?_; rw [HRR.out]; rintro e w3 ht; obtain ⟨B1, n1, e1, B2, n2, e2, B3, n3, e3, B4, n4, e4, x, rfl, hf, hp⟩ := ht; have HF := As.mk hf; have HP := As.mk hp; have hbb := (HB.out.bad hf).1; clear hf hp c0 c1 c2 c3 c4 b0 b1 b2 b3 b4; have c0 := SB.c0 hbb; have c1 := SB.c1 hbb; have c2 := SB.c2 hbb; have c3 := SB.c3 hbb; have c4 := SB.c4 hbb; have b0 := SB.fz hbb 0; have b1 := SB.fz hbb 1; have b2 := SB.fz hbb 2; have b3 := SB.fz hbb 3; have b4 := SB.fz hbb 4; clear hbb))
    clear o0 o1 HO c0 c1 c2 c3 c4 b0 b1 b2 b3 b4
    have hbb := HB.out.bad HF.out
    have h5 := Fr.set5 (S := fun k => k = w.heap.size) (w := w3) (g := w.heap.size) rfl (.slice B1 n1 e1) (.slice B2 n2 e2) (.slice B3 n3 e3) (.slice B4 n4 e4) (.bool x)
    have hx5 := SB.all (.slice B1 n1 e1) (.slice B2 n2 e2) (.slice B3 n3 e3) (.slice B4 n4 e4) x hbb.1
    have hr5 := h5.blk hbb.2.1 HB.out.ne.symm
    have hF5 := (HB.out.f.then HF.out (fun i hi => HB.out.o i hi)).then h5 (fun i hi => .inr (by omega))
    generalize (((((w3.setCell ⟨w.heap.size, 0, none⟩ (.slice B1 n1 e1)).setCell ⟨w.heap.size, 1, none⟩ (.slice B2 n2 e2)).setCell ⟨w.heap.size, 2, none⟩ (.slice B3 n3 e3)).setCell ⟨w.heap.size, 3, none⟩ (.slice B4 n4 e4)).setCell ⟨w.heap.size, 4, none⟩ (.bool x)) = w5 at hx5 hr5 hF5 ⊢
    clear h5 hbb
    refine region_perm (fun w' => w'.cell? ⟨w.heap.size, 0, none⟩ = some (.slice B1 n1 e1) ∧ w'.cell? ⟨w.heap.size, 1, none⟩ = some (.slice B2 n2 e2) ∧ w'.cell? ⟨w.heap.size, 2, none⟩ = some (.slice B3 n3 e3) ∧ w'.cell? ⟨w.heap.size, 3, none⟩ = some (.slice B4 n4 e4) ∧ w'.cell? ⟨w.heap.size, 4, none⟩ = some (.bool x)) [] [(0, 1), (1, 0), (2, 0), (3, 0), (4, 1), (5, 0), (6, 0), (7, 0), (8, 0), (9, 0), (10, 1), (11, 0), (12, 0), (13, 0), (14, 2), (15, 0)] (by kernel_rfl) (by kernel_rfl) rfl (by kernel_rfl) (fun _ _ _ _ h => h) ?_
    generalize hwd : World.drew w5 = w6
    have he6 : Ext w5 w6 := by rw [← hwd]; exact (Ext.rf w5).dr
    have hx6 := he6.blk hx5
    have hr6 := he6.blk hr5
    have HF6 := As.mk (hF5.then (Fr.ofExt (S := fun _ => False) he6) (fun _ h => h.elim))
    clear hwd HB hx5 hr5 hF5 he6
    have HX6 := As.mk hx6
    have HR6 := As.mk hr6
    have hS := And.intro (SB.c0 hx6) (And.intro (SB.c1 hx6) (And.intro (SB.c2 hx6) (And.intro (SB.c3 hx6) (SB.c4 hx6))))
    clear hx6 hr6
    repeat (first | refine wpP.c0 (h := ?_) | refine wpP.c1 hS (h := ?_) | refine wpP.c0off (h := ?_) | refine wpP.c1off hS (h := ?_))
    refine wpP.ev (h := fun Kv hKv => ?_)
    have d0 := SB.c0 HR6.out; have d1 := SB.c1 HR6.out; have d2 := SB.c2 HR6.out; have d3 := SB.c3 HR6.out; have d4 := SB.c4 HR6.out
    have f0 := SB.fz HR6.out 0; have f1 := SB.fz HR6.out 1; have f2 := SB.fz HR6.out 2; have f3 := SB.fz HR6.out 3; have f4 := SB.fz HR6.out 4
    go_wp2_with fail
    have hs5 := Fr.set5 (S := fun k => k = w.heap.size + 1 + 1) (w := w6) (g := w.heap.size + 1 + 1) rfl (.slice B1 n1 e1) (.slice B2 n2 e2) (.slice B3 n3 e3) (.slice B4 n4 e4) (.bool x)
    have hbo := hs5.blk HX6.out (by omega)
    refine hKv.out _ _ (And.intro (SB.c0 hbo) (And.intro (SB.c1 hbo) (And.intro (SB.c2 hbo) (And.intro (SB.c3 hbo) (SB.c4 hbo))))) ?_
    have HS5 := As.mk hs5
    clear hbo hs5
    clear hKv Kv hS d0 d1 d2 d3 d4 f0 f1 f2 f3 f4
    repeat (first | refine wpP.c0 (h := ?_))
    refine wpP.done ?_
    go_wp2_with fail
    refine bodyPost_ret (results_cellt rfl _ _ (w.heap.size + 1 + 1) _ rfl (loadS (SB.all _ _ _ _ _ HR6.out))) rfl ?_
    rw [HQ.out, HRR.out]
    exact ⟨_, _, _, _, _, _, _, _, _, _, _, _, _, rfl, HF6.out.then HS5.out (fun i hi => .inr (by omega)), fun s' h => nomatch h⟩
  | some s1 =>
    go_upto_region 15 with (first | (go_at_call 117; refine (newKind_c _ _).mono ?_; rw [HK.out]; rintro e w2 ⟨rfl, rfl⟩) | (go_at_call 120; refine (takeShapes_c _ _ _ _ s 5 arg _ HB.out.v HOK.out HOA.out (by omega)).mono ?_; rw [HRR.out]; rintro e w3 ht; obtain ⟨B1, n1, e1, B2, n2, e2, B3, n3, e3, B4, n4, e4, x, rfl, hf, hp⟩ := ht; have HF := As.mk hf; have HP := As.mk hp; have hbb := (HB.out.bad hf).1; clear hf hp c0 c1 c2 c3 c4 b0 b1 b2 b3 b4; have c0 := SB.c0 hbb; have c1 := SB.c1 hbb; have c2 := SB.c2 hbb; have c3 := SB.c3 hbb; have c4 := SB.c4 hbb; have b0 := SB.fz hbb 0; have b1 := SB.fz hbb 1; have b2 := SB.fz hbb 2; have b3 := SB.fz hbb 3; have b4 := SB.fz hbb 4; clear hbb))
    clear o0 o1 HO c0 c1 c2 c3 c4 b0 b1 b2 b3 b4
    obtain ⟨hxd, hp⟩ := HP.out s1 rfl
    subst hxd
    have hpp := HB.out.put hp
    have hl1 : n1 = s1.kinds.length ∧ n3 = s1.stack.length ∧ n2 = s1.full.length ∧ n4 = s1.memo.length := by
      obtain ⟨_, _, _, _, _, _, _, _, k1, k2, k3, k4⟩ := hp.1.forms
      injection k1 with _ k1 _
      injection k2 with _ k2 _
      injection k3 with _ k3 _
      injection k4 with _ k4 _
      exact ⟨k1, k3, k2, k4⟩
    obtain ⟨rfl, rfl, rfl, rfl⟩ := hl1
    clear HP HF hp HB
    generalize (((((w3.setCell ⟨w.heap.size, 0, none⟩ (.slice B1 s1.kinds.length e1)).setCell ⟨w.heap.size, 1, none⟩ (.slice B2 s1.full.length e2)).setCell ⟨w.heap.size, 2, none⟩ (.slice B3 s1.stack.length e3)).setCell ⟨w.heap.size, 3, none⟩ (.slice B4 s1.memo.length e4)).setCell ⟨w.heap.size, 4, none⟩ (.bool s1.done)) = w5 at hpp ⊢
    have HB := As.mk hpp
    clear hpp
    rcases bcase ((s1.kinds.length : Int) ≤ 300) with h1 | h1
    · rcases bcase ((s1.stack.length : Int) ≤ 300) with h2 | h2
      · refine region_perm (fun w' => w'.cell? ⟨w.heap.size, 0, none⟩ = some (.slice B1 s1.kinds.length e1) ∧ w'.cell? ⟨w.heap.size, 1, none⟩ = some (.slice B2 s1.full.length e2) ∧ w'.cell? ⟨w.heap.size, 2, none⟩ = some (.slice B3 s1.stack.length e3) ∧ w'.cell? ⟨w.heap.size, 3, none⟩ = some (.slice B4 s1.memo.length e4) ∧ w'.cell? ⟨w.heap.size, 4, none⟩ = some (.bool s1.done)) [] [(0, 1), (1, 0), (2, 0), (3, 0), (4, 1), (5, 0), (6, 0), (7, 0), (8, 0), (9, 0), (10, 1), (11, 0), (12, 0), (13, 0), (14, 2), (15, 0)] (by kernel_rfl) (by kernel_rfl) rfl (by kernel_rfl) (fun _ _ _ _ h => h) ?_
        generalize hwd : World.drew w5 = w6
        have hb6 := HB.out.ext (show Ext w5 w6 by rw [← hwd]; exact (Ext.rf w5).dr)
        clear hwd HB
        have HB := As.mk hb6
        have hS := And.intro hb6.b.c0 (And.intro hb6.b.c1 (And.intro hb6.b.c2 (And.intro hb6.b.c3 hb6.b.c4)))
        clear hb6
        repeat (first | refine wpP.c0 (h := ?_) | refine wpP.c1 hS (h := ?_) | refine wpP.c0off (h := ?_) | refine wpP.c1off hS (h := ?_))
        refine wpP.ev (h := fun Kv hKv => ?_)
        have d0 := HB.out.r.c0; have d1 := HB.out.r.c1; have d2 := HB.out.r.c2; have d3 := HB.out.r.c3; have d4 := HB.out.r.c4
        have f0 := HB.out.r.fz 0; have f1 := HB.out.r.fz 1; have f2 := HB.out.r.fz 2; have f3 := HB.out.r.fz 3; have f4 := HB.out.r.fz 4
        go_wp2_with fail
        have hbo := (Fr.set5 (S := fun k => k = w.heap.size + 1 + 1) (w := w6) (g := w.heap.size + 1 + 1) rfl (.slice B1 s1.kinds.length e1) (.slice B2 s1.full.length e2) (.slice B3 s1.stack.length e3) (.slice B4 s1.memo.length e4) (.bool s1.done)).blk HB.out.b HB.out.ne
        refine hKv.out _ _ (And.intro (SB.c0 hbo) (And.intro (SB.c1 hbo) (And.intro (SB.c2 hbo) (And.intro (SB.c3 hbo) (SB.c4 hbo))))) ?_
        clear hbo
        clear hKv Kv hS d0 d1 d2 d3 d4 f0 f1 f2 f3 f4
        repeat (first | refine wpP.c0 (h := ?_))
        refine wpP.done ?_
        go_wp2_with fail
        have ho := HB.out.out
        refine bodyPost_ret (results_cellt rfl _ _ (w.heap.size + 1 + 1) _ rfl (loadS ho.1)) rfl ?_
        rw [HQ.out, HRR.out, fit_some (by omega) (by omega)]
        exact HB.out.tpost _ (.inr rfl)
      · refine region_perm (fun w' => w'.cell? ⟨w.heap.size, 0, none⟩ = some (.slice B1 s1.kinds.length e1) ∧ w'.cell? ⟨w.heap.size, 1, none⟩ = some (.slice B2 s1.full.length e2) ∧ w'.cell? ⟨w.heap.size, 2, none⟩ = some (.slice B3 s1.stack.length e3) ∧ w'.cell? ⟨w.heap.size, 3, none⟩ = some (.slice B4 s1.memo.length e4) ∧ w'.cell? ⟨w.heap.size, 4, none⟩ = some (.bool s1.done)) [] [(0, 1), (1, 0), (2, 0), (3, 0), (4, 1), (5, 0), (6, 0), (7, 0), (8, 0), (9, 0), (10, 1), (11, 0), (12, 0), (13, 0), (14, 2), (15, 0)] (by kernel_rfl) (by kernel_rfl) rfl (by kernel_rfl) (fun _ _ _ _ h => h) ?_
        generalize hwd : World.drew w5 = w6
        have hb6 := HB.out.ext (show Ext w5 w6 by rw [← hwd]; exact (Ext.rf w5).dr)
        clear hwd HB
        have HB := As.mk hb6
        have hS := And.intro hb6.b.c0 (And.intro hb6.b.c1 (And.intro hb6.b.c2 (And.intro hb6.b.c3 hb6.b.c4)))
        clear hb6
        repeat (first | refine wpP.c0 (h := ?_) | refine wpP.c1 hS (h := ?_) | refine wpP.c0off (h := ?_) | refine wpP.c1off hS (h := ?_))
        refine wpP.ev (h := fun Kv hKv => ?_)
        have d0 := HB.out.r.c0; have d1 := HB.out.r.c1; have d2 := HB.out.r.c2; have d3 := HB.out.r.c3; have d4 := HB.out.r.c4
        have f0 := HB.out.r.fz 0; have f1 := HB.out.r.fz 1; have f2 := HB.out.r.fz 2; have f3 := HB.out.r.fz 3; have f4 := HB.out.r.fz 4
        go_wp2_with fail
        have hbo := (Fr.set5 (S := fun k => k = w.heap.size + 1 + 1) (w := w6) (g := w.heap.size + 1 + 1) rfl (.slice B1 s1.kinds.length e1) (.slice B2 s1.full.length e2) (.slice B3 s1.stack.length e3) (.slice B4 s1.memo.length e4) (.bool s1.done)).blk HB.out.b HB.out.ne
        refine hKv.out _ _ (And.intro (SB.c0 hbo) (And.intro (SB.c1 hbo) (And.intro (SB.c2 hbo) (And.intro (SB.c3 hbo) (SB.c4 hbo))))) ?_
        clear hbo
        clear hKv Kv hS d0 d1 d2 d3 d4 f0 f1 f2 f3 f4
        repeat (first | refine wpP.c0 (h := ?_))
        refine wpP.done ?_
        go_wp2_with fail
        have ho := HB.out.out
        refine bodyPost_ret (results_cellt rfl _ _ (w.heap.size + 1 + 1) _ rfl (loadS ho.1)) rfl ?_
        rw [HQ.out, HRR.out, fit_none (by simp at h2; omega)]
        exact HB.out.tpost none (.inl rfl)
    · refine region_perm (fun w' => w'.cell? ⟨w.heap.size, 0, none⟩ = some (.slice B1 s1.kinds.length e1) ∧ w'.cell? ⟨w.heap.size, 1, none⟩ = some (.slice B2 s1.full.length e2) ∧ w'.cell? ⟨w.heap.size, 2, none⟩ = some (.slice B3 s1.stack.length e3) ∧ w'.cell? ⟨w.heap.size, 3, none⟩ = some (.slice B4 s1.memo.length e4) ∧ w'.cell? ⟨w.heap.size, 4, none⟩ = some (.bool s1.done)) [] [(0, 1), (1, 0), (2, 0), (3, 0), (4, 1), (5, 0), (6, 0), (7, 0), (8, 0), (9, 0), (10, 1), (11, 0), (12, 0), (13, 0), (14, 2), (15, 0)] (by kernel_rfl) (by kernel_rfl) rfl (by kernel_rfl) (fun _ _ _ _ h => h) ?_
      generalize hwd : World.drew w5 = w6
      have hb6 := HB.out.ext (show Ext w5 w6 by rw [← hwd]; exact (Ext.rf w5).dr)
      clear hwd HB
      have HB := As.mk hb6
      have hS := And.intro hb6.b.c0 (And.intro hb6.b.c1 (And.intro hb6.b.c2 (And.intro hb6.b.c3 hb6.b.c4)))
      clear hb6
      repeat (first | refine wpP.c0 (h := ?_) | refine wpP.c1 hS (h := ?_) | refine wpP.c0off (h := ?_) | refine wpP.c1off hS (h := ?_))
      refine wpP.ev (h := fun Kv hKv => ?_)
      have d0 := HB.out.r.c0; have d1 := HB.out.r.c1; have d2 := HB.out.r.c2; have d3 := HB.out.r.c3; have d4 := HB.out.r.c4
      have f0 := HB.out.r.fz 0; have f1 := HB.out.r.fz 1; have f2 := HB.out.r.fz 2; have f3 := HB.out.r.fz 3; have f4 := HB.out.r.fz 4
      go_wp2_with fail
      have hbo := (Fr.set5 (S := fun k => k = w.heap.size + 1 + 1) (w := w6) (g := w.heap.size + 1 + 1) rfl (.slice B1 s1.kinds.length e1) (.slice B2 s1.full.length e2) (.slice B3 s1.stack.length e3) (.slice B4 s1.memo.length e4) (.bool s1.done)).blk HB.out.b HB.out.ne
      refine hKv.out _ _ (And.intro (SB.c0 hbo) (And.intro (SB.c1 hbo) (And.intro (SB.c2 hbo) (And.intro (SB.c3 hbo) (SB.c4 hbo))))) ?_
      clear hbo
      clear hKv Kv hS d0 d1 d2 d3 d4 f0 f1 f2 f3 f4
      repeat (first | refine wpP.c0 (h := ?_))
      refine wpP.done ?_
      go_wp2_with fail
      have ho := HB.out.out
      refine bodyPost_ret (results_cellt rfl _ _ (w.heap.size + 1 + 1) _ rfl (loadS ho.1)) rfl ?_
      rw [HQ.out, HRR.out, fit_none (by simp at h1; omega)]
      exact HB.out.tpost none (.inl rfl)
set_option maxRecDepth 100000 in
set_option maxHeartbeats 1000000 in
theorem step_6 (vK vF vS vM : Value) (s : Sh) (arg : Int) (w : World) (hs : SV w vK vF vS vM s) (hok : okS s) (hd : s.done = false) (ho : okO ⟨6, arg⟩ = true) :
    Calls Try.prog 96 #[.agg #[vK, vF, vS, vM, .bool s.done], .agg #[.int .i64 6, .int .i64 arg]] w (TPost vK vF vS vM (stepS s ⟨6, arg⟩) w) := by
  obtain ⟨AK, cK, AF, cF, AS, cS, AM, cM, rfl, rfl, rfl, rfl, q1, q2, q3, q4, r1, r2, r3, r4⟩ := hs.rd hok.siz.k hok.siz.f hok.siz.t hok.siz.m
  have hkl := hok.kl
  have hsl := hok.sl
  have HN := As.mk (Box.new2 hs 6 arg)
  have HOK := As.mk hok
  clear hs hok r1 r2 r3 r4
  have HD := As.mk hd
  have HOA := As.mk ho
  have HK : As (newK 6 = -1) := ⟨rfl⟩
  obtain ⟨r, hr⟩ : ∃ r, takeS s ⟨6, arg⟩ = r := ⟨_, rfl⟩
  have HRR := As.mk hr
  have HQ : As (stepS s ⟨6, arg⟩ = fitS (takeS s ⟨6, arg⟩)) := ⟨by show (if s.done = true then none else fitS (takeS s ⟨6, arg⟩)) = _; rw [hd]; rfl⟩
  clear hd hr ho
  go_enter Try.func96, Try.ntmps96
  go_upto_region 1 with fail
  generalize ((w.alloc (.cells #[.slice AK s.kinds.length cK, .slice AF s.full.length cF, .slice AS s.stack.length cS, .slice AM s.memo.length cM, .bool s.done] 91)).alloc (.cells #[.int .i64 6, .int .i64 arg] 52)).alloc (.cells #[.slice none 0 0, .slice none 0 0, .slice none 0 0, .slice none 0 0, .bool false] 91) = w1 at HN ⊢
  have HB := As.mk HN.out.1
  have HO := As.mk HN.out.2
  have o0 := OB.c0 HO.out
  have o1 := OB.c1 HO.out
  clear HN
  have c0 := HB.out.b.c0; have c1 := HB.out.b.c1; have c2 := HB.out.b.c2; have c3 := HB.out.b.c3; have c4 := HB.out.b.c4
  have b0 := HB.out.b.fz 0; have b1 := HB.out.b.fz 1; have b2 := HB.out.b.fz 2; have b3 := HB.out.b.fz 3; have b4 := HB.out.b.fz 4
  rw [HD.out] at c4
  go_upto_region 5 with fail
  clear c4
  have c4 := HB.out.b.c4
  have o0' := o0
  have o1' := o1
  cases r with
  | none =>
    go_upto_region 15 with (first | (go_at_call 117; refine (newKind_c _ _).mono ?_; rw [HK.out]; rintro e w2 ⟨rfl, rfl⟩) | (go_at_call 120; refine (takeShapes_c _ _ _ _ s 6 arg _ HB.out.v HOK.out HOA.out (by omega)).mono ?_; rw [HRR.out]; rintro e w3 ht; obtain ⟨B1, n1, e1, B2, n2, e2, B3, n3, e3, B4, n4, e4, x, rfl, hf, hp⟩ := ht; have HF := As.mk hf; have HP := As.mk hp; have hbb := (HB.out.bad hf).1; clear hf hp c0 c1 c2 c3 c4 b0 b1 b2 b3 b4; have c0 := SB.c0 hbb; have c1 := SB.c1 hbb; have c2 := SB.c2 hbb; have c3 := SB.c3 hbb; have c4 := SB.c4 hbb; have b0 := SB.fz hbb 0; have b1 := SB.fz hbb 1; have b2 := SB.fz hbb 2; have b3 := SB.fz hbb 3; have b4 := SB.fz hbb 4; clear hbb))
    clear o0 o1 HO c0 c1 c2 c3 c4 b0 b1 b2 b3 b4
    have hbb := HB.out.bad HF.out
    have h5 := Fr.set5 (S := fun k => k = w.heap.size) (w := w3) (g := w.heap.size) rfl (.slice B1 n1 e1) (.slice B2 n2 e2) (.slice B3 n3 e3) (.slice B4 n4 e4) (.bool x)
    have hx5 := SB.all (.slice B1 n1 e1) (.slice B2 n2 e2) (.slice B3 n3 e3) (.slice B4 n4 e4) x hbb.1
    have hr5 := h5.blk hbb.2.1 HB.out.ne.symm
    have hF5 := (HB.out.f.then HF.out (fun i hi => HB.out.o i hi)).then h5 (fun i hi => .inr (by omega))
    generalize (((((w3.setCell ⟨w.heap.size, 0, none⟩ (.slice B1 n1 e1)).setCell ⟨w.heap.size, 1, none⟩ (.slice B2 n2 e2)).setCell ⟨w.heap.size, 2, none⟩ (.slice B3 n3 e3)).setCell ⟨w.heap.size, 3, none⟩ (.slice B4 n4 e4)).setCell ⟨w.heap.size, 4, none⟩ (.bool x)) = w5 at hx5 hr5 hF5 ⊢
    clear h5 hbb
    refine region_perm (fun w' => w'.cell? ⟨w.heap.size, 0, none⟩ = some (.slice B1 n1 e1) ∧ w'.cell? ⟨w.heap.size, 1, none⟩ = some (.slice B2 n2 e2) ∧ w'.cell? ⟨w.heap.size, 2, none⟩ = some (.slice B3 n3 e3) ∧ w'.cell? ⟨w.heap.size, 3, none⟩ = some (.slice B4 n4 e4) ∧ w'.cell? ⟨w.heap.size, 4, none⟩ = some (.bool x)) [] [(0, 1), (1, 0), (2, 0), (3, 0), (4, 1), (5, 0), (6, 0), (7, 0), (8, 0), (9, 0), (10, 1), (11, 0), (12, 0), (13, 0), (14, 2), (15, 0)] (by kernel_rfl) (by kernel_rfl) rfl (by kernel_rfl) (fun _ _ _ _ h => h) ?_
    generalize hwd : World.drew w5 = w6
    have he6 : Ext w5 w6 := by rw [← hwd]; exact (Ext.rf w5).dr
    have hx6 := he6.blk hx5
    have hr6 := he6.blk hr5
    have HF6 := As.mk (hF5.then (Fr.ofExt (S := fun _ => False) he6) (fun _ h => h.elim))
    clear hwd HB hx5 hr5 hF5 he6
    have HX6 := As.mk hx6
    have HR6 := As.mk hr6
    have hS := And.intro (SB.c0 hx6) (And.intro (SB.c1 hx6) (And.intro (SB.c2 hx6) (And.intro (SB.c3 hx6) (SB.c4 hx6))))
    clear hx6 hr6
    repeat (first | refine wpP.c0 (h := ?_) | refine wpP.c1 hS (h := ?_) | refine wpP.c0off (h := ?_) | refine wpP.c1off hS (h := ?_))
    refine wpP.ev (h := fun Kv hKv => ?_)
    have d0 := SB.c0 HR6.out; have d1 := SB.c1 HR6.out; have d2 := SB.c2 HR6.out; have d3 := SB.c3 HR6.out; have d4 := SB.c4 HR6.out
    have f0 := SB.fz HR6.out 0; have f1 := SB.fz HR6.out 1; have f2 := SB.fz HR6.out 2; have f3 := SB.fz HR6.out 3; have f4 := SB.fz HR6.out 4
    go_wp2_with fail
    have hs5 := Fr.set5 (S := fun k => k = w.heap.size + 1 + 1) (w := w6) (g := w.heap.size + 1 + 1) rfl (.slice B1 n1 e1) (.slice B2 n2 e2) (.slice B3 n3 e3) (.slice B4 n4 e4) (.bool x)
    have hbo := hs5.blk HX6.out (by omega)
    refine hKv.out _ _ (And.intro (SB.c0 hbo) (And.intro (SB.c1 hbo) (And.intro (SB.c2 hbo) (And.intro (SB.c3 hbo) (SB.c4 hbo))))) ?_
    have HS5 := As.mk hs5
    clear hbo hs5
    clear hKv Kv hS d0 d1 d2 d3 d4 f0 f1 f2 f3 f4
    repeat (first | refine wpP.c0 (h := ?_))
    refine wpP.done ?_
    go_wp2_with fail
    refine bodyPost_ret (results_cellt rfl _ _ (w.heap.size + 1 + 1) _ rfl (loadS (SB.all _ _ _ _ _ HR6.out))) rfl ?_
    rw [HQ.out, HRR.out]
    exact ⟨_, _, _, _, _, _, _, _, _, _, _, _, _, rfl, HF6.out.then HS5.out (fun i hi => .inr (by omega)), fun s' h => nomatch h⟩
  | some s1 =>
    go_upto_region 15 with (first | (go_at_call 117; refine (newKind_c _ _).mono ?_; rw [HK.out]; rintro e w2 ⟨rfl, rfl⟩) | (go_at_call 120; refine (takeShapes_c _ _ _ _ s 6 arg _ HB.out.v HOK.out HOA.out (by omega)).mono ?_; rw [HRR.out]; rintro e w3 ht; obtain ⟨B1, n1, e1, B2, n2, e2, B3, n3, e3, B4, n4, e4, x, rfl, hf, hp⟩ := ht; have HF := As.mk hf; have HP := As.mk hp; have hbb := (HB.out.bad hf).1; clear hf hp c0 c1 c2 c3 c4 b0 b1 b2 b3 b4; have c0 := SB.c0 hbb; have c1 := SB.c1 hbb; have c2 := SB.c2 hbb; have c3 := SB.c3 hbb; have c4 := SB.c4 hbb; have b0 := SB.fz hbb 0; have b1 := SB.fz hbb 1; have b2 := SB.fz hbb 2; have b3 := SB.fz hbb 3; have b4 := SB.fz hbb 4; clear hbb))
    clear o0 o1 HO c0 c1 c2 c3 c4 b0 b1 b2 b3 b4
    obtain ⟨hxd, hp⟩ := HP.out s1 rfl
    subst hxd
    have hpp := HB.out.put hp
    have hl1 : n1 = s1.kinds.length ∧ n3 = s1.stack.length ∧ n2 = s1.full.length ∧ n4 = s1.memo.length := by
      obtain ⟨_, _, _, _, _, _, _, _, k1, k2, k3, k4⟩ := hp.1.forms
      injection k1 with _ k1 _
      injection k2 with _ k2 _
      injection k3 with _ k3 _
      injection k4 with _ k4 _
      exact ⟨k1, k3, k2, k4⟩
    obtain ⟨rfl, rfl, rfl, rfl⟩ := hl1
    clear HP HF hp HB
    generalize (((((w3.setCell ⟨w.heap.size, 0, none⟩ (.slice B1 s1.kinds.length e1)).setCell ⟨w.heap.size, 1, none⟩ (.slice B2 s1.full.length e2)).setCell ⟨w.heap.size, 2, none⟩ (.slice B3 s1.stack.length e3)).setCell ⟨w.heap.size, 3, none⟩ (.slice B4 s1.memo.length e4)).setCell ⟨w.heap.size, 4, none⟩ (.bool s1.done)) = w5 at hpp ⊢
    have HB := As.mk hpp
    clear hpp
    rcases bcase ((s1.kinds.length : Int) ≤ 300) with h1 | h1
    · rcases bcase ((s1.stack.length : Int) ≤ 300) with h2 | h2
      · refine region_perm (fun w' => w'.cell? ⟨w.heap.size, 0, none⟩ = some (.slice B1 s1.kinds.length e1) ∧ w'.cell? ⟨w.heap.size, 1, none⟩ = some (.slice B2 s1.full.length e2) ∧ w'.cell? ⟨w.heap.size, 2, none⟩ = some (.slice B3 s1.stack.length e3) ∧ w'.cell? ⟨w.heap.size, 3, none⟩ = some (.slice B4 s1.memo.length e4) ∧ w'.cell? ⟨w.heap.size, 4, none⟩ = some (.bool s1.done)) [] [(0, 1), (1, 0), (2, 0), (3, 0), (4, 1), (5, 0), (6, 0), (7, 0), (8, 0), (9, 0), (10, 1), (11, 0), (12, 0), (13, 0), (14, 2), (15, 0)] (by kernel_rfl) (by kernel_rfl) rfl (by kernel_rfl) (fun _ _ _ _ h => h) ?_
        generalize hwd : World.drew w5 = w6
        have hb6 := HB.out.ext (show Ext w5 w6 by rw [← hwd]; exact (Ext.rf w5).dr)
        clear hwd HB
        have HB := As.mk hb6
        have hS := And.intro hb6.b.c0 (And.intro hb6.b.c1 (And.intro hb6.b.c2 (And.intro hb6.b.c3 hb6.b.c4)))
        clear hb6
        repeat (first | refine wpP.c0 (h := ?_) | refine wpP.c1 hS (h := ?_) | refine wpP.c0off (h := ?_) | refine wpP.c1off hS (h := ?_))
        refine wpP.ev (h := fun Kv hKv => ?_)
        have d0 := HB.out.r.c0; have d1 := HB.out.r.c1; have d2 := HB.out.r.c2; have d3 := HB.out.r.c3; have d4 := HB.out.r.c4
        have f0 := HB.out.r.fz 0; have f1 := HB.out.r.fz 1; have f2 := HB.out.r.fz 2; have f3 := HB.out.r.fz 3; have f4 := HB.out.r.fz 4
        go_wp2_with fail
        have hbo := (Fr.set5 (S := fun k => k = w.heap.size + 1 + 1) (w := w6) (g := w.heap.size + 1 + 1) rfl (.slice B1 s1.kinds.length e1) (.slice B2 s1.full.length e2) (.slice B3 s1.stack.length e3) (.slice B4 s1.memo.length e4) (.bool s1.done)).blk HB.out.b HB.out.ne
        refine hKv.out _ _ (And.intro (SB.c0 hbo) (And.intro (SB.c1 hbo) (And.intro (SB.c2 hbo) (And.intro (SB.c3 hbo) (SB.c4 hbo))))) ?_
        clear hbo
        clear hKv Kv hS d0 d1 d2 d3 d4 f0 f1 f2 f3 f4
        repeat (first | refine wpP.c0 (h := ?_))
        refine wpP.done ?_
        go_wp2_with fail
        have ho := HB.out.out
        refine bodyPost_ret (results_cellt rfl _ _ (w.heap.size + 1 + 1) _ rfl (loadS ho.1)) rfl ?_
        rw [HQ.out, HRR.out, fit_some (by omega) (by omega)]
        exact HB.out.tpost _ (.inr rfl)
      · refine region_perm (fun w' => w'.cell? ⟨w.heap.size, 0, none⟩ = some (.slice B1 s1.kinds.length e1) ∧ w'.cell? ⟨w.heap.size, 1, none⟩ = some (.slice B2 s1.full.length e2) ∧ w'.cell? ⟨w.heap.size, 2, none⟩ = some (.slice B3 s1.stack.length e3) ∧ w'.cell? ⟨w.heap.size, 3, none⟩ = some (.slice B4 s1.memo.length e4) ∧ w'.cell? ⟨w.heap.size, 4, none⟩ = some (.bool s1.done)) [] [(0, 1), (1, 0), (2, 0), (3, 0), (4, 1), (5, 0), (6, 0), (7, 0), (8, 0), (9, 0), (10, 1), (11, 0), (12, 0), (13, 0), (14, 2), (15, 0)] (by kernel_rfl) (by kernel_rfl) rfl (by kernel_rfl) (fun _ _ _ _ h => h) ?_
        generalize hwd : World.drew w5 = w6
        have hb6 := HB.out.ext (show Ext w5 w6 by rw [← hwd]; exact (Ext.rf w5).dr)
        clear hwd HB
        have HB := As.mk hb6
        have hS := And.intro hb6.b.c0 (And.intro hb6.b.c1 (And.intro hb6.b.c2 (And.intro hb6.b.c3 hb6.b.c4)))
        clear hb6
        repeat (first | refine wpP.c0 (h := ?_) | refine wpP.c1 hS (h := ?_) | refine wpP.c0off (h := ?_) | refine wpP.c1off hS (h := ?_))
        refine wpP.ev (h := fun Kv hKv => ?_)
        have d0 := HB.out.r.c0; have d1 := HB.out.r.c1; have d2 := HB.out.r.c2; have d3 := HB.out.r.c3; have d4 := HB.out.r.c4
        have f0 := HB.out.r.fz 0; have f1 := HB.out.r.fz 1; have f2 := HB.out.r.fz 2; have f3 := HB.out.r.fz 3; have f4 := HB.out.r.fz 4
        go_wp2_with fail
        have hbo := (Fr.set5 (S := fun k => k = w.heap.size + 1 + 1) (w := w6) (g := w.heap.size + 1 + 1) rfl (.slice B1 s1.kinds.length e1) (.slice B2 s1.full.length e2) (.slice B3 s1.stack.length e3) (.slice B4 s1.memo.length e4) (.bool s1.done)).blk HB.out.b HB.out.ne
        refine hKv.out _ _ (And.intro (SB.c0 hbo) (And.intro (SB.c1 hbo) (And.intro (SB.c2 hbo) (And.intro (SB.c3 hbo) (SB.c4 hbo))))) ?_
        clear hbo
        clear hKv Kv hS d0 d1 d2 d3 d4 f0 f1 f2 f3 f4
        repeat (first | refine wpP.c0 (h := ?_))
        refine wpP.done ?_
        go_wp2_with fail
        have ho := HB.out.out
        refine bodyPost_ret (results_cellt rfl _ _ (w.heap.size + 1 + 1) _ rfl (loadS ho.1)) rfl ?_
        rw [HQ.out, HRR.out, fit_none (by simp at h2; omega)]
        exact HB.out.tpost none (.inl rfl)
    · refine region_perm (fun w' => w'.cell? ⟨w.heap.size, 0, none⟩ = some (.slice B1 s1.kinds.length e1) ∧ w'.cell? ⟨w.heap.size, 1, none⟩ = some (.slice B2 s1.full.length e2) ∧ w'.cell? ⟨w.heap.size, 2, none⟩ = some (.slice B3 s1.stack.length e3) ∧ w'.cell? ⟨w.heap.size, 3, none⟩ = some (.slice B4 s1.memo.length e4) ∧ w'.cell? ⟨w.heap.size, 4, none⟩ = some (.bool s1.done)) [] [(0, 1), (1, 0), (2, 0), (3, 0), (4, 1), (5, 0), (6, 0), (7, 0), (8, 0), (9, 0), (10, 1), (11, 0), (12, 0), (13, 0), (14, 2), (15, 0)] (by kernel_rfl) (by kernel_rfl) rfl (by kernel_rfl) (fun _ _ _ _ h => h) ?_
      generalize hwd : World.drew w5 = w6
      have hb6 := HB.out.ext (show Ext w5 w6 by rw [← hwd]; exact (Ext.rf w5).dr)
      clear hwd HB
      have HB := As.mk hb6
      have hS := And.intro hb6.b.c0 (And.intro hb6.b.c1 (And.intro hb6.b.c2 (And.intro hb6.b.c3 hb6.b.c4)))
      clear hb6
      repeat (first | refine wpP.c0 (h := ?_) | refine wpP.c1 hS (h := ?_) | refine wpP.c0off (h := ?_) | refine wpP.c1off hS (h := ?_))
      refine wpP.ev (h := fun Kv hKv => ?_)
      have d0 := HB.out.r.c0; have d1 := HB.out.r.c1; have d2 := HB.out.r.c2; have d3 := HB.out.r.c3; have d4 := HB.out.r.c4
      have f0 := HB.out.r.fz 0; have f1 := HB.out.r.fz 1; have f2 := HB.out.r.fz 2; have f3 := HB.out.r.fz 3; have f4 := HB.out.r.fz 4
      go_wp2_with fail
      have hbo := (Fr.set5 (S := fun k => k = w.heap.size + 1 + 1) (w := w6) (g := w.heap.size + 1 + 1) rfl (.slice B1 s1.kinds.length e1) (.slice B2 s1.full.length e2) (.slice B3 s1.stack.length e3) (.slice B4 s1.memo.length e4) (.bool s1.done)).blk HB.out.b HB.out.ne
      refine hKv.out _ _ (And.intro (SB.c0 hbo) (And.intro (SB.c1 hbo) (And.intro (SB.c2 hbo) (And.intro (SB.c3 hbo) (SB.c4 hbo))))) ?_
      clear hbo
      clear hKv Kv hS d0 d1 d2 d3 d4 f0 f1 f2 f3 f4
      repeat (first | refine wpP.c0 (h := ?_))
      refine wpP.done ?_
      go_wp2_with fail
      have ho := HB.out.out
      refine bodyPost_ret (results_cellt rfl _ _ (w.heap.size + 1 + 1) _ rfl (loadS ho.1)) rfl ?_
      rw [HQ.out, HRR.out, fit_none (by simp at h1; omega)]
      exact HB.out.tpost none (.inl rfl)
set_option maxRecDepth 100000 in
set_option maxHeartbeats 1000000 in
theorem step_8 (vK vF vS vM : Value) (s : Sh) (arg : Int) (w : World) (hs : SV w vK vF vS vM s) (hok : okS s) (hd : s.done = false) (ho : okO ⟨8, arg⟩ = true) :
    Calls Try.prog 96 #[.agg #[vK, vF, vS, vM, .bool s.done], .agg #[.int .i64 8, .int .i64 arg]] w (TPost vK vF vS vM (stepS s ⟨8, arg⟩) w) := by
  obtain ⟨AK, cK, AF, cF, AS, cS, AM, cM, rfl, rfl, rfl, rfl, q1, q2, q3, q4, r1, r2, r3, r4⟩ := hs.rd hok.siz.k hok.siz.f hok.siz.t hok.siz.m
  have hkl := hok.kl
  have hsl := hok.sl
  have HN := As.mk (Box.new2 hs 8 arg)
  have HOK := As.mk hok
  clear hs hok r1 r2 r3 r4
  have HD := As.mk hd
  have HOA := As.mk ho
  have HK : As (newK 8 = -1) := ⟨rfl⟩
  obtain ⟨r, hr⟩ : ∃ r, takeS s ⟨8, arg⟩ = r := ⟨_, rfl⟩
  have HRR := As.mk hr
  have HQ : As (stepS s ⟨8, arg⟩ = fitS (takeS s ⟨8, arg⟩)) := ⟨by show (if s.done = true then none else fitS (takeS s ⟨8, arg⟩)) = _; rw [hd]; rfl⟩
  clear hd hr ho
  go_enter Try.func96, Try.ntmps96
  go_upto_region 1 with fail
  generalize ((w.alloc (.cells #[.slice AK s.kinds.length cK, .slice AF s.full.length cF, .slice AS s.stack.length cS, .slice AM s.memo.length cM, .bool s.done] 91)).alloc (.cells #[.int .i64 8, .int .i64 arg] 52)).alloc (.cells #[.slice none 0 0, .slice none 0 0, .slice none 0 0, .slice none 0 0, .bool false] 91) = w1 at HN ⊢
  have HB := As.mk HN.out.1
  have HO := As.mk HN.out.2
  have o0 := OB.c0 HO.out
  have o1 := OB.c1 HO.out
  clear HN
  have c0 := HB.out.b.c0; have c1 := HB.out.b.c1; have c2 := HB.out.b.c2; have c3 := HB.out.b.c3; have c4 := HB.out.b.c4
  have b0 := HB.out.b.fz 0; have b1 := HB.out.b.fz 1; have b2 := HB.out.b.fz 2; have b3 := HB.out.b.fz 3; have b4 := HB.out.b.fz 4
  rw [HD.out] at c4
  go_upto_region 5 with fail
  clear c4
  have c4 := HB.out.b.c4
  have o0' := o0
  have o1' := o1
  cases r with
  | none =>
    go_upto_region 15 with (first | (go_at_call 117; refine (newKind_c _ _).mono ?_; rw [HK.out]; rintro e w2 ⟨rfl, rfl⟩) | (go_at_call 120; refine (takeShapes_c _ _ _ _ s 8 arg _ HB.out.v HOK.out HOA.out (by omega)).mono ?_; rw [HRR.out]; rintro e w3 ht; obtain ⟨B1, n1, e1, B2, n2, e2, B3, n3, e3, B4, n4, e4, x, rfl, hf, hp⟩ := ht; have HF := As.mk hf; have HP := As.mk hp; have hbb := (HB.out.bad hf).1; clear hf hp c0 c1 c2 c3 c4 b0 b1 b2 b3 b4; have c0 := SB.c0 hbb; have c1 := SB.c1 hbb; have c2 := SB.c2 hbb; have c3 := SB.c3 hbb; have c4 := SB.c4 hbb; have b0 := SB.fz hbb 0; have b1 := SB.fz hbb 1; have b2 := SB.fz hbb 2; have b3 := SB.fz hbb 3; have b4 := SB.fz hbb 4; clear hbb))
    clear o0 o1 HO c0 c1 c2 c3 c4 b0 b1 b2 b3 b4
    have hbb := HB.out.bad HF.out
    have h5 := Fr.set5 (S := fun k => k = w.heap.size) (w := w3) (g := w.heap.size) rfl (.slice B1 n1 e1) (.slice B2 n2 e2) (.slice B3 n3 e3) (.slice B4 n4 e4) (.bool x)
    have hx5 := SB.all (.slice B1 n1 e1) (.slice B2 n2 e2) (.slice B3 n3 e3) (.slice B4 n4 e4) x hbb.1
    have hr5 := h5.blk hbb.2.1 HB.out.ne.symm
    have hF5 := (HB.out.f.then HF.out (fun i hi => HB.out.o i hi)).then h5 (fun i hi => .inr (by omega))
    generalize (((((w3.setCell ⟨w.heap.size, 0, none⟩ (.slice B1 n1 e1)).setCell ⟨w.heap.size, 1, none⟩ (.slice B2 n2 e2)).setCell ⟨w.heap.size, 2, none⟩ (.slice B3 n3 e3)).setCell ⟨w.heap.size, 3, none⟩ (.slice B4 n4 e4)).setCell ⟨w.heap.size, 4, none⟩ (.bool x)) = w5 at hx5 hr5 hF5 ⊢
    clear h5 hbb
    refine region_perm (fun w' => w'.cell? ⟨w.heap.size, 0, none⟩ = some (.slice B1 n1 e1) ∧ w'.cell? ⟨w.heap.size, 1, none⟩ = some (.slice B2 n2 e2) ∧ w'.cell? ⟨w.heap.size, 2, none⟩ = some (.slice B3 n3 e3) ∧ w'.cell? ⟨w.heap.size, 3, none⟩ = some (.slice B4 n4 e4) ∧ w'.cell? ⟨w.heap.size, 4, none⟩ = some (.bool x)) [] [(0, 1), (1, 0), (2, 0), (3, 0), (4, 1), (5, 0), (6, 0), (7, 0), (8, 0), (9, 0), (10, 1), (11, 0), (12, 0), (13, 0), (14, 2), (15, 0)] (by kernel_rfl) (by kernel_rfl) rfl (by kernel_rfl) (fun _ _ _ _ h => h) ?_
    generalize hwd : World.drew w5 = w6
    have he6 : Ext w5 w6 := by rw [← hwd]; exact (Ext.rf w5).dr
    have hx6 := he6.blk hx5
    have hr6 := he6.blk hr5
    have HF6 := As.mk (hF5.then (Fr.ofExt (S := fun _ => False) he6) (fun _ h => h.elim))
    clear hwd HB hx5 hr5 hF5 he6
    have HX6 := As.mk hx6
    have HR6 := As.mk hr6
    have hS := And.intro (SB.c0 hx6) (And.intro (SB.c1 hx6) (And.intro (SB.c2 hx6) (And.intro (SB.c3 hx6) (SB.c4 hx6))))
    clear hx6 hr6
    repeat (first | refine wpP.c0 (h := ?_) | refine wpP.c1 hS (h := ?_) | refine wpP.c0off (h := ?_) | refine wpP.c1off hS (h := ?_))
    refine wpP.ev (h := fun Kv hKv => ?_)
    have d0 := SB.c0 HR6.out; have d1 := SB.c1 HR6.out; have d2 := SB.c2 HR6.out; have d3 := SB.c3 HR6.out; have d4 := SB.c4 HR6.out
    have f0 := SB.fz HR6.out 0; have f1 := SB.fz HR6.out 1; have f2 := SB.fz HR6.out 2; have f3 := SB.fz HR6.out 3; have f4 := SB.fz HR6.out 4
    go_wp2_with fail
    have hs5 := Fr.set5 (S := fun k => k = w.heap.size + 1 + 1) (w := w6) (g := w.heap.size + 1 + 1) rfl (.slice B1 n1 e1) (.slice B2 n2 e2) (.slice B3 n3 e3) (.slice B4 n4 e4) (.bool x)
    have hbo := hs5.blk HX6.out (by omega)
    refine hKv.out _ _ (And.intro (SB.c0 hbo) (And.intro (SB.c1 hbo) (And.intro (SB.c2 hbo) (And.intro (SB.c3 hbo) (SB.c4 hbo))))) ?_
    have HS5 := As.mk hs5
    clear hbo hs5
    clear hKv Kv hS d0 d1 d2 d3 d4 f0 f1 f2 f3 f4
    repeat (first | refine wpP.c0 (h := ?_))
    refine wpP.done ?_
    go_wp2_with fail
    refine bodyPost_ret (results_cellt rfl _ _ (w.heap.size + 1 + 1) _ rfl (loadS (SB.all _ _ _ _ _ HR6.out))) rfl ?_
    rw [HQ.out, HRR.out]
    exact ⟨_, _, _, _, _, _, _, _, _, _, _, _, _, rfl, HF6.out.then HS5.out (fun i hi => .inr (by omega)), fun s' h => nomatch h⟩
  | some s1 =>
    go_upto_region 15 with (first | (go_at_call 117; refine (newKind_c _ _).mono ?_; rw [HK.out]; rintro e w2 ⟨rfl, rfl⟩) | (go_at_call 120; refine (takeShapes_c _ _ _ _ s 8 arg _ HB.out.v HOK.out HOA.out (by omega)).mono ?_; rw [HRR.out]; rintro e w3 ht; obtain ⟨B1, n1, e1, B2, n2, e2, B3, n3, e3, B4, n4, e4, x, rfl, hf, hp⟩ := ht; have HF := As.mk hf; have HP := As.mk hp; have hbb := (HB.out.bad hf).1; clear hf hp c0 c1 c2 c3 c4 b0 b1 b2 b3 b4; have c0 := SB.c0 hbb; have c1 := SB.c1 hbb; have c2 := SB.c2 hbb; have c3 := SB.c3 hbb; have c4 := SB.c4 hbb; have b0 := SB.fz hbb 0; have b1 := SB.fz hbb 1; have b2 := SB.fz hbb 2; have b3 := SB.fz hbb 3; have b4 := SB.fz hbb 4; clear hbb))
    clear o0 o1 HO c0 c1 c2 c3 c4 b0 b1 b2 b3 b4
    obtain ⟨hxd, hp⟩ := HP.out s1 rfl
    subst hxd
    have hpp := HB.out.put hp
    have hl1 : n1 = s1.kinds.length ∧ n3 = s1.stack.length ∧ n2 = s1.full.length ∧ n4 = s1.memo.length := by
      obtain ⟨_, _, _, _, _, _, _, _, k1, k2, k3, k4⟩ := hp.1.forms
      injection k1 with _ k1 _
      injection k2 with _ k2 _
      injection k3 with _ k3 _
      injection k4 with _ k4 _
      exact ⟨k1, k3, k2, k4⟩
    obtain ⟨rfl, rfl, rfl, rfl⟩ := hl1
    clear HP HF hp HB
    generalize (((((w3.setCell ⟨w.heap.size, 0, none⟩ (.slice B1 s1.kinds.length e1)).setCell ⟨w.heap.size, 1, none⟩ (.slice B2 s1.full.length e2)).setCell ⟨w.heap.size, 2, none⟩ (.slice B3 s1.stack.length e3)).setCell ⟨w.heap.size, 3, none⟩ (.slice B4 s1.memo.length e4)).setCell ⟨w.heap.size, 4, none⟩ (.bool s1.done)) = w5 at hpp ⊢
    have HB := As.mk hpp
    clear hpp
    rcases bcase ((s1.kinds.length : Int) ≤ 300) with h1 | h1
    · rcases bcase ((s1.stack.length : Int) ≤ 300) with h2 | h2
      · refine region_perm (fun w' => w'.cell? ⟨w.heap.size, 0, none⟩ = some (.slice B1 s1.kinds.length e1) ∧ w'.cell? ⟨w.heap.size, 1, none⟩ = some (.slice B2 s1.full.length e2) ∧ w'.cell? ⟨w.heap.size, 2, none⟩ = some (.slice B3 s1.stack.length e3) ∧ w'.cell? ⟨w.heap.size, 3, none⟩ = some (.slice B4 s1.memo.length e4) ∧ w'.cell? ⟨w.heap.size, 4, none⟩ = some (.bool s1.done)) [] [(0, 1), (1, 0), (2, 0), (3, 0), (4, 1), (5, 0), (6, 0), (7, 0), (8, 0), (9, 0), (10, 1), (11, 0), (12, 0), (13, 0), (14, 2), (15, 0)] (by kernel_rfl) (by kernel_rfl) rfl (by kernel_rfl) (fun _ _ _ _ h => h) ?_
        generalize hwd : World.drew w5 = w6
        have hb6 := HB.out.ext (show Ext w5 w6 by rw [← hwd]; exact (Ext.rf w5).dr)
        clear hwd HB
        have HB := As.mk hb6
        have hS := And.intro hb6.b.c0 (And.intro hb6.b.c1 (And.intro hb6.b.c2 (And.intro hb6.b.c3 hb6.b.c4)))
        clear hb6
        repeat (first | refine wpP.c0 (h := ?_) | refine wpP.c1 hS (h := ?_) | refine wpP.c0off (h := ?_) | refine wpP.c1off hS (h := ?_))
        refine wpP.ev (h := fun Kv hKv => ?_)
        have d0 := HB.out.r.c0; have d1 := HB.out.r.c1; have d2 := HB.out.r.c2; have d3 := HB.out.r.c3; have d4 := HB.out.r.c4
        have f0 := HB.out.r.fz 0; have f1 := HB.out.r.fz 1; have f2 := HB.out.r.fz 2; have f3 := HB.out.r.fz 3; have f4 := HB.out.r.fz 4
        go_wp2_with fail
        have hbo := (Fr.set5 (S := fun k => k = w.heap.size + 1 + 1) (w := w6) (g := w.heap.size + 1 + 1) rfl (.slice B1 s1.kinds.length e1) (.slice B2 s1.full.length e2) (.slice B3 s1.stack.length e3) (.slice B4 s1.memo.length e4) (.bool s1.done)).blk HB.out.b HB.out.ne
        refine hKv.out _ _ (And.intro (SB.c0 hbo) (And.intro (SB.c1 hbo) (And.intro (SB.c2 hbo) (And.intro (SB.c3 hbo) (SB.c4 hbo))))) ?_
        clear hbo
        clear hKv Kv hS d0 d1 d2 d3 d4 f0 f1 f2 f3 f4
        repeat (first | refine wpP.c0 (h := ?_))
        refine wpP.done ?_
        go_wp2_with fail
        have ho := HB.out.out
        refine bodyPost_ret (results_cellt rfl _ _ (w.heap.size + 1 + 1) _ rfl (loadS ho.1)) rfl ?_
        rw [HQ.out, HRR.out, fit_some (by omega) (by omega)]
        exact HB.out.tpost _ (.inr rfl)
      · refine region_perm (fun w' => w'.cell? ⟨w.heap.size, 0, none⟩ = some (.slice B1 s1.kinds.length e1) ∧ w'.cell? ⟨w.heap.size, 1, none⟩ = some (.slice B2 s1.full.length e2) ∧ w'.cell? ⟨w.heap.size, 2, none⟩ = some (.slice B3 s1.stack.length e3) ∧ w'.cell? ⟨w.heap.size, 3, none⟩ = some (.slice B4 s1.memo.length e4) ∧ w'.cell? ⟨w.heap.size, 4, none⟩ = some (.bool s1.done)) [] [(0, 1), (1, 0), (2, 0), (3, 0), (4, 1), (5, 0), (6, 0), (7, 0), (8, 0), (9, 0), (10, 1), (11, 0), (12, 0), (13, 0), (14, 2), (15, 0)] (by kernel_rfl) (by kernel_rfl) rfl (by kernel_rfl) (fun _ _ _ _ h => h) ?_
        generalize hwd : World.drew w5 = w6
        have hb6 := HB.out.ext (show Ext w5 w6 by rw [← hwd]; exact (Ext.rf w5).dr)
        clear hwd HB
        have HB := As.mk hb6
        have hS := And.intro hb6.b.c0 (And.intro hb6.b.c1 (And.intro hb6.b.c2 (And.intro hb6.b.c3 hb6.b.c4)))
        clear hb6
        repeat (first | refine wpP.c0 (h := ?_) | refine wpP.c1 hS (h := ?_) | refine wpP.c0off (h := ?_) | refine wpP.c1off hS (h := ?_))
        refine wpP.ev (h := fun Kv hKv => ?_)
        have d0 := HB.out.r.c0; have d1 := HB.out.r.c1; have d2 := HB.out.r.c2; have d3 := HB.out.r.c3; have d4 := HB.out.r.c4
        have f0 := HB.out.r.fz 0; have f1 := HB.out.r.fz 1; have f2 := HB.out.r.fz 2; have f3 := HB.out.r.fz 3; have f4 := HB.out.r.fz 4
        go_wp2_with fail
        have hbo := (Fr.set5 (S := fun k => k = w.heap.size + 1 + 1) (w := w6) (g := w.heap.size + 1 + 1) rfl (.slice B1 s1.kinds.length e1) (.slice B2 s1.full.length e2) (.slice B3 s1.stack.length e3) (.slice B4 s1.memo.length e4) (.bool s1.done)).blk HB.out.b HB.out.ne
        refine hKv.out _ _ (And.intro (SB.c0 hbo) (And.intro (SB.c1 hbo) (And.intro (SB.c2 hbo) (And.intro (SB.c3 hbo) (SB.c4 hbo))))) ?_
        clear hbo
        clear hKv Kv hS d0 d1 d2 d3 d4 f0 f1 f2 f3 f4
        repeat (first | refine wpP.c0 (h := ?_))
        refine wpP.done ?_
        go_wp2_with fail
        have ho := HB.out.out
        refine bodyPost_ret (results_cellt rfl _ _ (w.heap.size + 1 + 1) _ rfl (loadS ho.1)) rfl ?_
        rw [HQ.out, HRR.out, fit_none (by simp at h2; omega)]
        exact HB.out.tpost none (.inl rfl)
    · refine region_perm (fun w' => w'.cell? ⟨w.heap.size, 0, none⟩ = some (.slice B1 s1.kinds.length e1) ∧ w'.cell? ⟨w.heap.size, 1, none⟩ = some (.slice B2 s1.full.length e2) ∧ w'.cell? ⟨w.heap.size, 2, none⟩ = some (.slice B3 s1.stack.length e3) ∧ w'.cell? ⟨w.heap.size, 3, none⟩ = some (.slice B4 s1.memo.length e4) ∧ w'.cell? ⟨w.heap.size, 4, none⟩ = some (.bool s1.done)) [] [(0, 1), (1, 0), (2, 0), (3, 0), (4, 1), (5, 0), (6, 0), (7, 0), (8, 0), (9, 0), (10, 1), (11, 0), (12, 0), (13, 0), (14, 2), (15, 0)] (by kernel_rfl) (by kernel_rfl) rfl (by kernel_rfl) (fun _ _ _ _ h => h) ?_
      generalize hwd : World.drew w5 = w6
      have hb6 := HB.out.ext (show Ext w5 w6 by rw [← hwd]; exact (Ext.rf w5).dr)
      clear hwd HB
      have HB := As.mk hb6
      have hS := And.intro hb6.b.c0 (And.intro hb6.b.c1 (And.intro hb6.b.c2 (And.intro hb6.b.c3 hb6.b.c4)))
      clear hb6
      repeat (first | refine wpP.c0 (h := ?_) | refine wpP.c1 hS (h := ?_) | refine wpP.c0off (h := ?_) | refine wpP.c1off hS (h := ?_))
      refine wpP.ev (h := fun Kv hKv => ?_)
      have d0 := HB.out.r.c0; have d1 := HB.out.r.c1; have d2 := HB.out.r.c2; have d3 := HB.out.r.c3; have d4 := HB.out.r.c4
      have f0 := HB.out.r.fz 0; have f1 := HB.out.r.fz 1; have f2 := HB.out.r.fz 2; have f3 := HB.out.r.fz 3; have f4 := HB.out.r.fz 4
      go_wp2_with fail
      have hbo := (Fr.set5 (S := fun k => k = w.heap.size + 1 + 1) (w := w6) (g := w.heap.size + 1 + 1) rfl (.slice B1 s1.kinds.length e1) (.slice B2 s1.full.length e2) (.slice B3 s1.stack.length e3) (.slice B4 s1.memo.length e4) (.bool s1.done)).blk HB.out.b HB.out.ne
      refine hKv.out _ _ (And.intro (SB.c0 hbo) (And.intro (SB.c1 hbo) (And.intro (SB.c2 hbo) (And.intro (SB.c3 hbo) (SB.c4 hbo))))) ?_
      clear hbo
      clear hKv Kv hS d0 d1 d2 d3 d4 f0 f1 f2 f3 f4
      repeat (first | refine wpP.c0 (h := ?_))
      refine wpP.done ?_
      go_wp2_with fail
      have ho := HB.out.out
      refine bodyPost_ret (results_cellt rfl _ _ (w.heap.size + 1 + 1) _ rfl (loadS ho.1)) rfl ?_
      rw [HQ.out, HRR.out, fit_none (by simp at h1; omega)]
      exact HB.out.tpost none (.inl rfl)
set_option maxRecDepth 100000 in
set_option maxHeartbeats 1000000 in
theorem step_11 (vK vF vS vM : Value) (s : Sh) (arg : Int) (w : World) (hs : SV w vK vF vS vM s) (hok : okS s) (hd : s.done = false) (ho : okO ⟨11, arg⟩ = true) :
    Calls Try.prog 96 #[.agg #[vK, vF, vS, vM, .bool s.done], .agg #[.int .i64 11, .int .i64 arg]] w (TPost vK vF vS vM (stepS s ⟨11, arg⟩) w) := by
  obtain ⟨AK, cK, AF, cF, AS, cS, AM, cM, rfl, rfl, rfl, rfl, q1, q2, q3, q4, r1, r2, r3, r4⟩ := hs.rd hok.siz.k hok.siz.f hok.siz.t hok.siz.m
  have hkl := hok.kl
  have hsl := hok.sl
  have HN := As.mk (Box.new2 hs 11 arg)
  have HOK := As.mk hok
  clear hs hok r1 r2 r3 r4
  have HD := As.mk hd
  have HOA := As.mk ho
  have HK : As (newK 11 = -1) := ⟨rfl⟩
  obtain ⟨r, hr⟩ : ∃ r, takeS s ⟨11, arg⟩ = r := ⟨_, rfl⟩
  have HRR := As.mk hr
  have HQ : As (stepS s ⟨11, arg⟩ = fitS (takeS s ⟨11, arg⟩)) := ⟨by show (if s.done = true then none else fitS (takeS s ⟨11, arg⟩)) = _; rw [hd]; rfl⟩
  clear hd hr ho
  go_enter Try.func96, Try.ntmps96
  go_upto_region 1 with fail
  generalize ((w.alloc (.cells #[.slice AK s.kinds.length cK, .slice AF s.full.length cF, .slice AS s.stack.length cS, .slice AM s.memo.length cM, .bool s.done] 91)).alloc (.cells #[.int .i64 11, .int .i64 arg] 52)).alloc (.cells #[.slice none 0 0, .slice none 0 0, .slice none 0 0, .slice none 0 0, .bool false] 91) = w1 at HN ⊢
  have HB := As.mk HN.out.1
  have HO := As.mk HN.out.2
  have o0 := OB.c0 HO.out
  have o1 := OB.c1 HO.out
  clear HN
  have c0 := HB.out.b.c0; have c1 := HB.out.b.c1; have c2 := HB.out.b.c2; have c3 := HB.out.b.c3; have c4 := HB.out.b.c4
  have b0 := HB.out.b.fz 0; have b1 := HB.out.b.fz 1; have b2 := HB.out.b.fz 2; have b3 := HB.out.b.fz 3; have b4 := HB.out.b.fz 4
  rw [HD.out] at c4
  go_upto_region 5 with fail
  clear c4
  have c4 := HB.out.b.c4
  have o0' := o0
  have o1' := o1
  cases r with
  | none =>
    go_upto_region 15 with (first | (go_at_call 117; refine (newKind_c _ _).mono ?_; rw [HK.out]; rintro e w2 ⟨rfl, rfl⟩) | (go_at_call 120; refine (takeShapes_c _ _ _ _ s 11 arg _ HB.out.v HOK.out HOA.out (by omega)).mono ?_; rw [HRR.out]; rintro e w3 ht; obtain ⟨B1, n1, e1, B2, n2, e2, B3, n3, e3, B4, n4, e4, x, rfl, hf, hp⟩ := ht; have HF := As.mk hf; have HP := As.mk hp; have hbb := (HB.out.bad hf).1; clear hf hp c0 c1 c2 c3 c4 b0 b1 b2 b3 b4; have c0 := SB.c0 hbb; have c1 := SB.c1 hbb; have c2 := SB.c2 hbb; have c3 := SB.c3 hbb; have c4 := SB.c4 hbb; have b0 := SB.fz hbb 0; have b1 := SB.fz hbb 1; have b2 := SB.fz hbb 2; have b3 := SB.fz hbb 3; have b4 := SB.fz hbb 4; clear hbb))
    clear o0 o1 HO c0 c1 c2 c3 c4 b0 b1 b2 b3 b4
    have hbb := HB.out.bad HF.out
    have h5 := Fr.set5 (S := fun k => k = w.heap.size) (w := w3) (g := w.heap.size) rfl (.slice B1 n1 e1) (.slice B2 n2 e2) (.slice B3 n3 e3) (.slice B4 n4 e4) (.bool x)
    have hx5 := SB.all (.slice B1 n1 e1) (.slice B2 n2 e2) (.slice B3 n3 e3) (.slice B4 n4 e4) x hbb.1
    have hr5 := h5.blk hbb.2.1 HB.out.ne.symm
    have hF5 := (HB.out.f.then HF.out (fun i hi => HB.out.o i hi)).then h5 (fun i hi => .inr (by omega))
    generalize (((((w3.setCell ⟨w.heap.size, 0, none⟩ (.slice B1 n1 e1)).setCell ⟨w.heap.size, 1, none⟩ (.slice B2 n2 e2)).setCell ⟨w.heap.size, 2, none⟩ (.slice B3 n3 e3)).setCell ⟨w.heap.size, 3, none⟩ (.slice B4 n4 e4)).setCell ⟨w.heap.size, 4, none⟩ (.bool x)) = w5 at hx5 hr5 hF5 ⊢
    clear h5 hbb
    refine region_perm (fun w' => w'.cell? ⟨w.heap.size, 0, none⟩ = some (.slice B1 n1 e1) ∧ w'.cell? ⟨w.heap.size, 1, none⟩ = some (.slice B2 n2 e2) ∧ w'.cell? ⟨w.heap.size, 2, none⟩ = some (.slice B3 n3 e3) ∧ w'.cell? ⟨w.heap.size, 3, none⟩ = some (.slice B4 n4 e4) ∧ w'.cell? ⟨w.heap.size, 4, none⟩ = some (.bool x)) [] [(0, 1), (1, 0), (2, 0), (3, 0), (4, 1), (5, 0), (6, 0), (7, 0), (8, 0), (9, 0), (10, 1), (11, 0), (12, 0), (13, 0), (14, 2), (15, 0)] (by kernel_rfl) (by kernel_rfl) rfl (by kernel_rfl) (fun _ _ _ _ h => h) ?_
    generalize hwd : World.drew w5 = w6
    have he6 : Ext w5 w6 := by rw [← hwd]; exact (Ext.rf w5).dr
    have hx6 := he6.blk hx5
    have hr6 := he6.blk hr5
    have HF6 := As.mk (hF5.then (Fr.ofExt (S := fun _ => False) he6) (fun _ h => h.elim))
    clear hwd HB hx5 hr5 hF5 he6
    have HX6 := As.mk hx6
    have HR6 := As.mk hr6
    have hS := And.intro (SB.c0 hx6) (And.intro (SB.c1 hx6) (And.intro (SB.c2 hx6) (And.intro (SB.c3 hx6) (SB.c4 hx6))))
    clear hx6 hr6
    repeat (first | refine wpP.c0 (h := ?_) | refine wpP.c1 hS (h := ?_) | refine wpP.c0off (h := ?_) | refine wpP.c1off hS (h := ?_))
    refine wpP.ev (h := fun Kv hKv => ?_)
    have d0 := SB.c0 HR6.out; have d1 := SB.c1 HR6.out; have d2 := SB.c2 HR6.out; have d3 := SB.c3 HR6.out; have d4 := SB.c4 HR6.out
    have f0 := SB.fz HR6.out 0; have f1 := SB.fz HR6.out 1; have f2 := SB.fz HR6.out 2; have f3 := SB.fz HR6.out 3; have f4 := SB.fz HR6.out 4
    go_wp2_with fail
    have hs5 := Fr.set5 (S := fun k => k = w.heap.size + 1 + 1) (w := w6) (g := w.heap.size + 1 + 1) rfl (.slice B1 n1 e1) (.slice B2 n2 e2) (.slice B3 n3 e3) (.slice B4 n4 e4) (.bool x)
    have hbo := hs5.blk HX6.out (by omega)
    refine hKv.out _ _ (And.intro (SB.c0 hbo) (And.intro (SB.c1 hbo) (And.intro (SB.c2 hbo) (And.intro (SB.c3 hbo) (SB.c4 hbo))))) ?_
    have HS5 := As.mk hs5
    clear hbo hs5
    clear hKv Kv hS d0 d1 d2 d3 d4 f0 f1 f2 f3 f4
    repeat (first | refine wpP.c0 (h := ?_))
    refine wpP.done ?_
    go_wp2_with fail
    refine bodyPost_ret (results_cellt rfl _ _ (w.heap.size + 1 + 1) _ rfl (loadS (SB.all _ _ _ _ _ HR6.out))) rfl ?_
    rw [HQ.out, HRR.out]
    exact ⟨_, _, _, _, _, _, _, _, _, _, _, _, _, rfl, HF6.out.then HS5.out (fun i hi => .inr (by omega)), fun s' h => nomatch h⟩
  | some s1 =>
    go_upto_region 15 with (first | (go_at_call 117; refine (newKind_c _ _).mono ?_; rw [HK.out]; rintro e w2 ⟨rfl, rfl⟩) | (go_at_call 120; refine (takeShapes_c _ _ _ _ s 11 arg _ HB.out.v HOK.out HOA.out (by omega)).mono ?_; rw [HRR.out]; rintro e w3 ht; obtain ⟨B1, n1, e1, B2, n2, e2, B3, n3, e3, B4, n4, e4, x, rfl, hf, hp⟩ := ht; have HF := As.mk hf; have HP := As.mk hp; have hbb := (HB.out.bad hf).1; clear hf hp c0 c1 c2 c3 c4 b0 b1 b2 b3 b4; have c0 := SB.c0 hbb; have c1 := SB.c1 hbb; have c2 := SB.c2 hbb; have c3 := SB.c3 hbb; have c4 := SB.c4 hbb; have b0 := SB.fz hbb 0; have b1 := SB.fz hbb 1; have b2 := SB.fz hbb 2; have b3 := SB.fz hbb 3; have b4 := SB.fz hbb 4; clear hbb))
    clear o0 o1 HO c0 c1 c2 c3 c4 b0 b1 b2 b3 b4
    obtain ⟨hxd, hp⟩ := HP.out s1 rfl
    subst hxd
    have hpp := HB.out.put hp
    have hl1 : n1 = s1.kinds.length ∧ n3 = s1.stack.length ∧ n2 = s1.full.length ∧ n4 = s1.memo.length := by
      obtain ⟨_, _, _, _, _, _, _, _, k1, k2, k3, k4⟩ := hp.1.forms
      injection k1 with _ k1 _
      injection k2 with _ k2 _
      injection k3 with _ k3 _
      injection k4 with _ k4 _
      exact ⟨k1, k3, k2, k4⟩
    obtain ⟨rfl, rfl, rfl, rfl⟩ := hl1
    clear HP HF hp HB
    generalize (((((w3.setCell ⟨w.heap.size, 0, none⟩ (.slice B1 s1.kinds.length e1)).setCell ⟨w.heap.size, 1, none⟩ (.slice B2 s1.full.length e2)).setCell ⟨w.heap.size, 2, none⟩ (.slice B3 s1.stack.length e3)).setCell ⟨w.heap.size, 3, none⟩ (.slice B4 s1.memo.length e4)).setCell ⟨w.heap.size, 4, none⟩ (.bool s1.done)) = w5 at hpp ⊢
    have HB := As.mk hpp
    clear hpp
    rcases bcase ((s1.kinds.length : Int) ≤ 300) with h1 | h1
    · rcases bcase ((s1.stack.length : Int) ≤ 300) with h2 | h2
      · refine region_perm (fun w' => w'.cell? ⟨w.heap.size, 0, none⟩ = some (.slice B1 s1.kinds.length e1) ∧ w'.cell? ⟨w.heap.size, 1, none⟩ = some (.slice B2 s1.full.length e2) ∧ w'.cell? ⟨w.heap.size, 2, none⟩ = some (.slice B3 s1.stack.length e3) ∧ w'.cell? ⟨w.heap.size, 3, none⟩ = some (.slice B4 s1.memo.length e4) ∧ w'.cell? ⟨w.heap.size, 4, none⟩ = some (.bool s1.done)) [] [(0, 1), (1, 0), (2, 0), (3, 0), (4, 1), (5, 0), (6, 0), (7, 0), (8, 0), (9, 0), (10, 1), (11, 0), (12, 0), (13, 0), (14, 2), (15, 0)] (by kernel_rfl) (by kernel_rfl) rfl (by kernel_rfl) (fun _ _ _ _ h => h) ?_
        generalize hwd : World.drew w5 = w6
        have hb6 := HB.out.ext (show Ext w5 w6 by rw [← hwd]; exact (Ext.rf w5).dr)
        clear hwd HB
        have HB := As.mk hb6
        have hS := And.intro hb6.b.c0 (And.intro hb6.b.c1 (And.intro hb6.b.c2 (And.intro hb6.b.c3 hb6.b.c4)))
        clear hb6
        repeat (first | refine wpP.c0 (h := ?_) | refine wpP.c1 hS (h := ?_) | refine wpP.c0off (h := ?_) | refine wpP.c1off hS (h := ?_))
        refine wpP.ev (h := fun Kv hKv => ?_)
        have d0 := HB.out.r.c0; have d1 := HB.out.r.c1; have d2 := HB.out.r.c2; have d3 := HB.out.r.c3; have d4 := HB.out.r.c4
        have f0 := HB.out.r.fz 0; have f1 := HB.out.r.fz 1; have f2 := HB.out.r.fz 2; have f3 := HB.out.r.fz 3; have f4 := HB.out.r.fz 4
        go_wp2_with fail
        have hbo := (Fr.set5 (S := fun k => k = w.heap.size + 1 + 1) (w := w6) (g := w.heap.size + 1 + 1) rfl (.slice B1 s1.kinds.length e1) (.slice B2 s1.full.length e2) (.slice B3 s1.stack.length e3) (.slice B4 s1.memo.length e4) (.bool s1.done)).blk HB.out.b HB.out.ne
        refine hKv.out _ _ (And.intro (SB.c0 hbo) (And.intro (SB.c1 hbo) (And.intro (SB.c2 hbo) (And.intro (SB.c3 hbo) (SB.c4 hbo))))) ?_
        clear hbo
        clear hKv Kv hS d0 d1 d2 d3 d4 f0 f1 f2 f3 f4
        repeat (first | refine wpP.c0 (h := ?_))
        refine wpP.done ?_
        go_wp2_with fail
        have ho := HB.out.out
        refine bodyPost_ret (results_cellt rfl _ _ (w.heap.size + 1 + 1) _ rfl (loadS ho.1)) rfl ?_
        rw [HQ.out, HRR.out, fit_some (by omega) (by omega)]
        exact HB.out.tpost _ (.inr rfl)
      · refine region_perm (fun w' => w'.cell? ⟨w.heap.size, 0, none⟩ = some (.slice B1 s1.kinds.length e1) ∧ w'.cell? ⟨w.heap.size, 1, none⟩ = some (.slice B2 s1.full.length e2) ∧ w'.cell? ⟨w.heap.size, 2, none⟩ = some (.slice B3 s1.stack.length e3) ∧ w'.cell? ⟨w.heap.size, 3, none⟩ = some (.slice B4 s1.memo.length e4) ∧ w'.cell? ⟨w.heap.size, 4, none⟩ = some (.bool s1.done)) [] [(0, 1), (1, 0), (2, 0), (3, 0), (4, 1), (5, 0), (6, 0), (7, 0), (8, 0), (9, 0), (10, 1), (11, 0), (12, 0), (13, 0), (14, 2), (15, 0)] (by kernel_rfl) (by kernel_rfl) rfl (by kernel_rfl) (fun _ _ _ _ h => h) ?_
        generalize hwd : World.drew w5 = w6
        have hb6 := HB.out.ext (show Ext w5 w6 by rw [← hwd]; exact (Ext.rf w5).dr)
        clear hwd HB
        have HB := As.mk hb6
        have hS := And.intro hb6.b.c0 (And.intro hb6.b.c1 (And.intro hb6.b.c2 (And.intro hb6.b.c3 hb6.b.c4)))
        clear hb6
        repeat (first | refine wpP.c0 (h := ?_) | refine wpP.c1 hS (h := ?_) | refine wpP.c0off (h := ?_) | refine wpP.c1off hS (h := ?_))
        refine wpP.ev (h := fun Kv hKv => ?_)
        have d0 := HB.out.r.c0; have d1 := HB.out.r.c1; have d2 := HB.out.r.c2; have d3 := HB.out.r.c3; have d4 := HB.out.r.c4
        have f0 := HB.out.r.fz 0; have f1 := HB.out.r.fz 1; have f2 := HB.out.r.fz 2; have f3 := HB.out.r.fz 3; have f4 := HB.out.r.fz 4
        go_wp2_with fail
        have hbo := (Fr.set5 (S := fun k => k = w.heap.size + 1 + 1) (w := w6) (g := w.heap.size + 1 + 1) rfl (.slice B1 s1.kinds.length e1) (.slice B2 s1.full.length e2) (.slice B3 s1.stack.length e3) (.slice B4 s1.memo.length e4) (.bool s1.done)).blk HB.out.b HB.out.ne
        refine hKv.out _ _ (And.intro (SB.c0 hbo) (And.intro (SB.c1 hbo) (And.intro (SB.c2 hbo) (And.intro (SB.c3 hbo) (SB.c4 hbo))))) ?_
        clear hbo
        clear hKv Kv hS d0 d1 d2 d3 d4 f0 f1 f2 f3 f4
        repeat (first | refine wpP.c0 (h := ?_))
        refine wpP.done ?_
        go_wp2_with fail
        have ho := HB.out.out
        refine bodyPost_ret (results_cellt rfl _ _ (w.heap.size + 1 + 1) _ rfl (loadS ho.1)) rfl ?_
        rw [HQ.out, HRR.out, fit_none (by simp at h2; omega)]
        exact HB.out.tpost none (.inl rfl)
    · refine region_perm (fun w' => w'.cell? ⟨w.heap.size, 0, none⟩ = some (.slice B1 s1.kinds.length e1) ∧ w'.cell? ⟨w.heap.size, 1, none⟩ = some (.slice B2 s1.full.length e2) ∧ w'.cell? ⟨w.heap.size, 2, none⟩ = some (.slice B3 s1.stack.length e3) ∧ w'.cell? ⟨w.heap.size, 3, none⟩ = some (.slice B4 s1.memo.length e4) ∧ w'.cell? ⟨w.heap.size, 4, none⟩ = some (.bool s1.done)) [] [(0, 1), (1, 0), (2, 0), (3, 0), (4, 1), (5, 0), (6, 0), (7, 0), (8, 0), (9, 0), (10, 1), (11, 0), (12, 0), (13, 0), (14, 2), (15, 0)] (by kernel_rfl) (by kernel_rfl) rfl (by kernel_rfl) (fun _ _ _ _ h => h) ?_
      generalize hwd : World.drew w5 = w6
      have hb6 := HB.out.ext (show Ext w5 w6 by rw [← hwd]; exact (Ext.rf w5).dr)
      clear hwd HB
      have HB := As.mk hb6
      have hS := And.intro hb6.b.c0 (And.intro hb6.b.c1 (And.intro hb6.b.c2 (And.intro hb6.b.c3 hb6.b.c4)))
      clear hb6
      repeat (first | refine wpP.c0 (h := ?_) | refine wpP.c1 hS (h := ?_) | refine wpP.c0off (h := ?_) | refine wpP.c1off hS (h := ?_))
      refine wpP.ev (h := fun Kv hKv => ?_)
      have d0 := HB.out.r.c0; have d1 := HB.out.r.c1; have d2 := HB.out.r.c2; have d3 := HB.out.r.c3; have d4 := HB.out.r.c4
      have f0 := HB.out.r.fz 0; have f1 := HB.out.r.fz 1; have f2 := HB.out.r.fz 2; have f3 := HB.out.r.fz 3; have f4 := HB.out.r.fz 4
      go_wp2_with fail
      have hbo := (Fr.set5 (S := fun k => k = w.heap.size + 1 + 1) (w := w6) (g := w.heap.size + 1 + 1) rfl (.slice B1 s1.kinds.length e1) (.slice B2 s1.full.length e2) (.slice B3 s1.stack.length e3) (.slice B4 s1.memo.length e4) (.bool s1.done)).blk HB.out.b HB.out.ne
      refine hKv.out _ _ (And.intro (SB.c0 hbo) (And.intro (SB.c1 hbo) (And.intro (SB.c2 hbo) (And.intro (SB.c3 hbo) (SB.c4 hbo))))) ?_
      clear hbo
      clear hKv Kv hS d0 d1 d2 d3 d4 f0 f1 f2 f3 f4
      repeat (first | refine wpP.c0 (h := ?_))
      refine wpP.done ?_
      go_wp2_with fail
      have ho := HB.out.out
      refine bodyPost_ret (results_cellt rfl _ _ (w.heap.size + 1 + 1) _ rfl (loadS ho.1)) rfl ?_
      rw [HQ.out, HRR.out, fit_none (by simp at h1; omega)]
      exact HB.out.tpost none (.inl rfl)
set_option maxRecDepth 100000 in
set_option maxHeartbeats 1000000 in
theorem step_14 (vK vF vS vM : Value) (s : Sh) (arg : Int) (w : World) (hs : SV w vK vF vS vM s) (hok : okS s) (hd : s.done = false) (ho : okO ⟨14, arg⟩ = true) :
    Calls Try.prog 96 #[.agg #[vK, vF, vS, vM, .bool s.done], .agg #[.int .i64 14, .int .i64 arg]] w (TPost vK vF vS vM (stepS s ⟨14, arg⟩) w) := by
  obtain ⟨AK, cK, AF, cF, AS, cS, AM, cM, rfl, rfl, rfl, rfl, q1, q2, q3, q4, r1, r2, r3, r4⟩ := hs.rd hok.siz.k hok.siz.f hok.siz.t hok.siz.m
  have hkl := hok.kl
  have hsl := hok.sl
  have HN := As.mk (Box.new2 hs 14 arg)
  have HOK := As.mk hok
  clear hs hok r1 r2 r3 r4
  have HD := As.mk hd
  have HOA := As.mk ho
  have HK : As (newK 14 = -1) := ⟨rfl⟩
  obtain ⟨r, hr⟩ : ∃ r, takeS s ⟨14, arg⟩ = r := ⟨_, rfl⟩
  have HRR := As.mk hr
  have HQ : As (stepS s ⟨14, arg⟩ = fitS (takeS s ⟨14, arg⟩)) := ⟨by show (if s.done = true then none else fitS (takeS s ⟨14, arg⟩)) = _; rw [hd]; rfl⟩
  clear hd hr ho
  go_enter Try.func96, Try.ntmps96
  go_upto_region 1 with fail
  generalize ((w.alloc (.cells #[.slice AK s.kinds.length cK, .slice AF s.full.length cF, .slice AS s.stack.length cS, .slice AM s.memo.length cM, .bool s.done] 91)).alloc (.cells #[.int .i64 14, .int .i64 arg] 52)).alloc (.cells #[.slice none 0 0, .slice none 0 0, .slice none 0 0, .slice none 0 0, .bool false] 91) = w1 at HN ⊢
  have HB := As.mk HN.out.1
  have HO := As.mk HN.out.2
  have o0 := OB.c0 HO.out
  have o1 := OB.c1 HO.out
  clear HN
  have c0 := HB.out.b.c0; have c1 := HB.out.b.c1; have c2 := HB.out.b.c2; have c3 := HB.out.b.c3; have c4 := HB.out.b.c4
  have b0 := HB.out.b.fz 0; have b1 := HB.out.b.fz 1; have b2 := HB.out.b.fz 2; have b3 := HB.out.b.fz 3; have b4 := HB.out.b.fz 4
  rw [HD.out] at c4
  go_upto_region 5 with fail
  clear c4
  have c4 := HB.out.b.c4
  have o0' := o0
  have o1' := o1
  cases r with
  | none =>
    go_upto_region 15 with (first | (go_at_call 117; refine (newKind_c _ _).mono ?_; rw [HK.out]; rintro e w2 ⟨rfl, rfl⟩) | (go_at_call 120; refine (takeShapes_c _ _ _ _ s 14 arg _ HB.out.v HOK.out HOA.out (by omega)).mono ?_; rw [HRR.out]; rintro e w3 ht; obtain ⟨B1, n1, e1, B2, n2, e2, B3, n3, e3, B4, n4, e4, x, rfl, hf, hp⟩ := ht; have HF := As.mk hf; have HP := As.mk hp; have hbb := (HB.out.bad hf).1; clear hf hp c0 c1 c2 c3 c4 b0 b1 b2 b3 b4; have c0 := SB.c0 hbb; have c1 := SB.c1 hbb; have c2 := SB.c2 hbb; have c3 := SB.c3 hbb; have c4 := SB.c4 hbb; have b0 := SB.fz hbb 0; have b1 := SB.fz hbb 1; have b2 := SB.fz hbb 2; have b3 := SB.fz hbb 3; have b4 := SB.fz hbb 4; clear hbb))
    clear o0 o1 HO c0 c1 c2 c3 c4 b0 b1 b2 b3 b4
    have hbb := HB.out.bad HF.out
    have h5 := Fr.set5 (S := fun k => k = w.heap.size) (w := w3) (g := w.heap.size) rfl (.slice B1 n1 e1) (.slice B2 n2 e2) (.slice B3 n3 e3) (.slice B4 n4 e4) (.bool x)
    have hx5 := SB.all (.slice B1 n1 e1) (.slice B2 n2 e2) (.slice B3 n3 e3) (.slice B4 n4 e4) x hbb.1
    have hr5 := h5.blk hbb.2.1 HB.out.ne.symm
    have hF5 := (HB.out.f.then HF.out (fun i hi => HB.out.o i hi)).then h5 (fun i hi => .inr (by omega))
    generalize (((((w3.setCell ⟨w.heap.size, 0, none⟩ (.slice B1 n1 e1)).setCell ⟨w.heap.size, 1, none⟩ (.slice B2 n2 e2)).setCell ⟨w.heap.size, 2, none⟩ (.slice B3 n3 e3)).setCell ⟨w.heap.size, 3, none⟩ (.slice B4 n4 e4)).setCell ⟨w.heap.size, 4, none⟩ (.bool x)) = w5 at hx5 hr5 hF5 ⊢
    clear h5 hbb
    refine region_perm (fun w' => w'.cell? ⟨w.heap.size, 0, none⟩ = some (.slice B1 n1 e1) ∧ w'.cell? ⟨w.heap.size, 1, none⟩ = some (.slice B2 n2 e2) ∧ w'.cell? ⟨w.heap.size, 2, none⟩ = some (.slice B3 n3 e3) ∧ w'.cell? ⟨w.heap.size, 3, none⟩ = some (.slice B4 n4 e4) ∧ w'.cell? ⟨w.heap.size, 4, none⟩ = some (.bool x)) [] [(0, 1), (1, 0), (2, 0), (3, 0), (4, 1), (5, 0), (6, 0), (7, 0), (8, 0), (9, 0), (10, 1), (11, 0), (12, 0), (13, 0), (14, 2), (15, 0)] (by kernel_rfl) (by kernel_rfl) rfl (by kernel_rfl) (fun _ _ _ _ h => h) ?_
    generalize hwd : World.drew w5 = w6
    have he6 : Ext w5 w6 := by rw [← hwd]; exact (Ext.rf w5).dr
    have hx6 := he6.blk hx5
    have hr6 := he6.blk hr5
    have HF6 := As.mk (hF5.then (Fr.ofExt (S := fun _ => False) he6) (fun _ h => h.elim))
    clear hwd HB hx5 hr5 hF5 he6
    have HX6 := As.mk hx6
    have HR6 := As.mk hr6
    have hS := And.intro (SB.c0 hx6) (And.intro (SB.c1 hx6) (And.intro (SB.c2 hx6) (And.intro (SB.c3 hx6) (SB.c4 hx6))))
    clear hx6 hr6
    repeat (first | refine wpP.c0 (h := ?_) | refine wpP.c1 hS (h := ?_) | refine wpP.c0off (h := ?_) | refine wpP.c1off hS (h := ?_))
    refine wpP.ev (h := fun Kv hKv => ?_)
    have d0 := SB.c0 HR6.out; have d1 := SB.c1 HR6.out; have d2 := SB.c2 HR6.out; have d3 := SB.c3 HR6.out; have d4 := SB.c4 HR6.out
    have f0 := SB.fz HR6.out 0; have f1 := SB.fz HR6.out 1; have f2 := SB.fz HR6.out 2; have f3 := SB.fz HR6.out 3; have f4 := SB.fz HR6.out 4
    go_wp2_with fail
    have hs5 := Fr.set5 (S := fun k => k = w.heap.size + 1 + 1) (w := w6) (g := w.heap.size + 1 + 1) rfl (.slice B1 n1 e1) (.slice B2 n2 e2) (.slice B3 n3 e3) (.slice B4 n4 e4) (.bool x)
    have hbo := hs5.blk HX6.out (by omega)
    refine hKv.out _ _ (And.intro (SB.c0 hbo) (And.intro (SB.c1 hbo) (And.intro (SB.c2 hbo) (And.intro (SB.c3 hbo) (SB.c4 hbo))))) ?_
    have HS5 := As.mk hs5
    clear hbo hs5
    clear hKv Kv hS d0 d1 d2 d3 d4 f0 f1 f2 f3 f4
    repeat (first | refine wpP.c0 (h := ?_))
    refine wpP.done ?_
    go_wp2_with fail
    refine bodyPost_ret (results_cellt rfl _ _ (w.heap.size + 1 + 1) _ rfl (loadS (SB.all _ _ _ _ _ HR6.out))) rfl ?_
    rw [HQ.out, HRR.out]
    exact ⟨_, _, _, _, _, _, _, _, _, _, _, _, _, rfl, HF6.out.then HS5.out (fun i hi => .inr (by omega)), fun s' h => nomatch h⟩
  | some s1 =>
    go_upto_region 15 with (first | (go_at_call 117; refine (newKind_c _ _).mono ?_; rw [HK.out]; rintro e w2 ⟨rfl, rfl⟩) | (go_at_call 120; refine (takeShapes_c _ _ _ _ s 14 arg _ HB.out.v HOK.out HOA.out (by omega)).mono ?_; rw [HRR.out]; rintro e w3 ht; obtain ⟨B1, n1, e1, B2, n2, e2, B3, n3, e3, B4, n4, e4, x, rfl, hf, hp⟩ := ht; have HF := As.mk hf; have HP := As.mk hp; have hbb := (HB.out.bad hf).1; clear hf hp c0 c1 c2 c3 c4 b0 b1 b2 b3 b4; have c0 := SB.c0 hbb; have c1 := SB.c1 hbb; have c2 := SB.c2 hbb; have c3 := SB.c3 hbb; have c4 := SB.c4 hbb; have b0 := SB.fz hbb 0; have b1 := SB.fz hbb 1; have b2 := SB.fz hbb 2; have b3 := SB.fz hbb 3; have b4 := SB.fz hbb 4; clear hbb))
    clear o0 o1 HO c0 c1 c2 c3 c4 b0 b1 b2 b3 b4
    obtain ⟨hxd, hp⟩ := HP.out s1 rfl
    subst hxd
    have hpp := HB.out.put hp
    have hl1 : n1 = s1.kinds.length ∧ n3 = s1.stack.length ∧ n2 = s1.full.length ∧ n4 = s1.memo.length := by
      obtain ⟨_, _, _, _, _, _, _, _, k1, k2, k3, k4⟩ := hp.1.forms
      injection k1 with _ k1 _
      injection k2 with _ k2 _
      injection k3 with _ k3 _
      injection k4 with _ k4 _
      exact ⟨k1, k3, k2, k4⟩
    obtain ⟨rfl, rfl, rfl, rfl⟩ := hl1
    clear HP HF hp HB
    generalize (((((w3.setCell ⟨w.heap.size, 0, none⟩ (.slice B1 s1.kinds.length e1)).setCell ⟨w.heap.size, 1, none⟩ (.slice B2 s1.full.length e2)).setCell ⟨w.heap.size, 2, none⟩ (.slice B3 s1.stack.length e3)).setCell ⟨w.heap.size, 3, none⟩ (.slice B4 s1.memo.length e4)).setCell ⟨w.heap.size, 4, none⟩ (.bool s1.done)) = w5 at hpp ⊢
    have HB := As.mk hpp
    clear hpp
    rcases bcase ((s1.kinds.length : Int) ≤ 300) with h1 | h1
    · rcases bcase ((s1.stack.length : Int) ≤ 300) with h2 | h2
      · refine region_perm (fun w' => w'.cell? ⟨w.heap.size, 0, none⟩ = some (.slice B1 s1.kinds.length e1) ∧ w'.cell? ⟨w.heap.size, 1, none⟩ = some (.slice B2 s1.full.length e2) ∧ w'.cell? ⟨w.heap.size, 2, none⟩ = some (.slice B3 s1.stack.length e3) ∧ w'.cell? ⟨w.heap.size, 3, none⟩ = some (.slice B4 s1.memo.length e4) ∧ w'.cell? ⟨w.heap.size, 4, none⟩ = some (.bool s1.done)) [] [(0, 1), (1, 0), (2, 0), (3, 0), (4, 1), (5, 0), (6, 0), (7, 0), (8, 0), (9, 0), (10, 1), (11, 0), (12, 0), (13, 0), (14, 2), (15, 0)] (by kernel_rfl) (by kernel_rfl) rfl (by kernel_rfl) (fun _ _ _ _ h => h) ?_
        generalize hwd : World.drew w5 = w6
        have hb6 := HB.out.ext (show Ext w5 w6 by rw [← hwd]; exact (Ext.rf w5).dr)
        clear hwd HB
        have HB := As.mk hb6
        have hS := And.intro hb6.b.c0 (And.intro hb6.b.c1 (And.intro hb6.b.c2 (And.intro hb6.b.c3 hb6.b.c4)))
        clear hb6
        repeat (first | refine wpP.c0 (h := ?_) | refine wpP.c1 hS (h := ?_) | refine wpP.c0off (h := ?_) | refine wpP.c1off hS (h := ?_))
        refine wpP.ev (h := fun Kv hKv => ?_)
        have d0 := HB.out.r.c0; have d1 := HB.out.r.c1; have d2 := HB.out.r.c2; have d3 := HB.out.r.c3; have d4 := HB.out.r.c4
        have f0 := HB.out.r.fz 0; have f1 := HB.out.r.fz 1; have f2 := HB.out.r.fz 2; have f3 := HB.out.r.fz 3; have f4 := HB.out.r.fz 4
        go_wp2_with fail
        have hbo := (Fr.set5 (S := fun k => k = w.heap.size + 1 + 1) (w := w6) (g := w.heap.size + 1 + 1) rfl (.slice B1 s1.kinds.length e1) (.slice B2 s1.full.length e2) (.slice B3 s1.stack.length e3) (.slice B4 s1.memo.length e4) (.bool s1.done)).blk HB.out.b HB.out.ne
        refine hKv.out _ _ (And.intro (SB.c0 hbo) (And.intro (SB.c1 hbo) (And.intro (SB.c2 hbo) (And.intro (SB.c3 hbo) (SB.c4 hbo))))) ?_
        clear hbo
        clear hKv Kv hS d0 d1 d2 d3 d4 f0 f1 f2 f3 f4
        repeat (first | refine wpP.c0 (h := ?_))
        refine wpP.done ?_
        go_wp2_with fail
        have ho := HB.out.out
        refine bodyPost_ret (results_cellt rfl _ _ (w.heap.size + 1 + 1) _ rfl (loadS ho.1)) rfl ?_
        rw [HQ.out, HRR.out, fit_some (by omega) (by omega)]
        exact HB.out.tpost _ (.inr rfl)
      · refine region_perm (fun w' => w'.cell? ⟨w.heap.size, 0, none⟩ = some (.slice B1 s1.kinds.length e1) ∧ w'.cell? ⟨w.heap.size, 1, none⟩ = some (.slice B2 s1.full.length e2) ∧ w'.cell? ⟨w.heap.size, 2, none⟩ = some (.slice B3 s1.stack.length e3) ∧ w'.cell? ⟨w.heap.size, 3, none⟩ = some (.slice B4 s1.memo.length e4) ∧ w'.cell? ⟨w.heap.size, 4, none⟩ = some (.bool s1.done)) [] [(0, 1), (1, 0), (2, 0), (3, 0), (4, 1), (5, 0), (6, 0), (7, 0), (8, 0), (9, 0), (10, 1), (11, 0), (12, 0), (13, 0), (14, 2), (15, 0)] (by kernel_rfl) (by kernel_rfl) rfl (by kernel_rfl) (fun _ _ _ _ h => h) ?_
        generalize hwd : World.drew w5 = w6
        have hb6 := HB.out.ext (show Ext w5 w6 by rw [← hwd]; exact (Ext.rf w5).dr)
        clear hwd HB
        have HB := As.mk hb6
        have hS := And.intro hb6.b.c0 (And.intro hb6.b.c1 (And.intro hb6.b.c2 (And.intro hb6.b.c3 hb6.b.c4)))
        clear hb6
        repeat (first | refine wpP.c0 (h := ?_) | refine wpP.c1 hS (h := ?_) | refine wpP.c0off (h := ?_) | refine wpP.c1off hS (h := ?_))
        refine wpP.ev (h := fun Kv hKv => ?_)
        have d0 := HB.out.r.c0; have d1 := HB.out.r.c1; have d2 := HB.out.r.c2; have d3 := HB.out.r.c3; have d4 := HB.out.r.c4
        have f0 := HB.out.r.fz 0; have f1 := HB.out.r.fz 1; have f2 := HB.out.r.fz 2; have f3 := HB.out.r.fz 3; have f4 := HB.out.r.fz 4
        go_wp2_with fail
        have hbo := (Fr.set5 (S := fun k => k = w.heap.size + 1 + 1) (w := w6) (g := w.heap.size + 1 + 1) rfl (.slice B1 s1.kinds.length e1) (.slice B2 s1.full.length e2) (.slice B3 s1.stack.length e3) (.slice B4 s1.memo.length e4) (.bool s1.done)).blk HB.out.b HB.out.ne
        refine hKv.out _ _ (And.intro (SB.c0 hbo) (And.intro (SB.c1 hbo) (And.intro (SB.c2 hbo) (And.intro (SB.c3 hbo) (SB.c4 hbo))))) ?_
        clear hbo
        clear hKv Kv hS d0 d1 d2 d3 d4 f0 f1 f2 f3 f4
        repeat (first | refine wpP.c0 (h := ?_))
        refine wpP.done ?_
        go_wp2_with fail
        have ho := HB.out.out
        refine bodyPost_ret (results_cellt rfl _ _ (w.heap.size + 1 + 1) _ rfl (loadS ho.1)) rfl ?_
        rw [HQ.out, HRR.out, fit_none (by simp at h2; omega)]
        exact HB.out.tpost none (.inl rfl)
    · refine region_perm (fun w' => w'.cell? ⟨w.heap.size, 0, none⟩ = some (.slice B1 s1.kinds.length e1) ∧ w'.cell? ⟨w.heap.size, 1, none⟩ = some (.slice B2 s1.full.length e2) ∧ w'.cell? ⟨w.heap.size, 2, none⟩ = some (.slice B3 s1.stack.length e3) ∧ w'.cell? ⟨w.heap.size, 3, none⟩ = some (.slice B4 s1.memo.length e4) ∧ w'.cell? ⟨w.heap.size, 4, none⟩ = some (.bool s1.done)) [] [(0, 1), (1, 0), (2, 0), (3, 0), (4, 1), (5, 0), (6, 0), (7, 0), (8, 0), (9, 0), (10, 1), (11, 0), (12, 0), (13, 0), (14, 2), (15, 0)] (by kernel_rfl) (by kernel_rfl) rfl (by kernel_rfl) (fun _ _ _ _ h => h) ?_
      generalize hwd : World.drew w5 = w6
      have hb6 := HB.out.ext (show Ext w5 w6 by rw [← hwd]; exact (Ext.rf w5).dr)
      clear hwd HB
      have HB := As.mk hb6
      have hS := And.intro hb6.b.c0 (And.intro hb6.b.c1 (And.intro hb6.b.c2 (And.intro hb6.b.c3 hb6.b.c4)))
      clear hb6
      repeat (first | refine wpP.c0 (h := ?_) | refine wpP.c1 hS (h := ?_) | refine wpP.c0off (h := ?_) | refine wpP.c1off hS (h := ?_))
      refine wpP.ev (h := fun Kv hKv => ?_)
      have d0 := HB.out.r.c0; have d1 := HB.out.r.c1; have d2 := HB.out.r.c2; have d3 := HB.out.r.c3; have d4 := HB.out.r.c4
      have f0 := HB.out.r.fz 0; have f1 := HB.out.r.fz 1; have f2 := HB.out.r.fz 2; have f3 := HB.out.r.fz 3; have f4 := HB.out.r.fz 4
      go_wp2_with fail
      have hbo := (Fr.set5 (S := fun k => k = w.heap.size + 1 + 1) (w := w6) (g := w.heap.size + 1 + 1) rfl (.slice B1 s1.kinds.length e1) (.slice B2 s1.full.length e2) (.slice B3 s1.stack.length e3) (.slice B4 s1.memo.length e4) (.bool s1.done)).blk HB.out.b HB.out.ne
      refine hKv.out _ _ (And.intro (SB.c0 hbo) (And.intro (SB.c1 hbo) (And.intro (SB.c2 hbo) (And.intro (SB.c3 hbo) (SB.c4 hbo))))) ?_
      clear hbo
      clear hKv Kv hS d0 d1 d2 d3 d4 f0 f1 f2 f3 f4
      repeat (first | refine wpP.c0 (h := ?_))
      refine wpP.done ?_
      go_wp2_with fail
      have ho := HB.out.out
      refine bodyPost_ret (results_cellt rfl _ _ (w.heap.size + 1 + 1) _ rfl (loadS ho.1)) rfl ?_
      rw [HQ.out, HRR.out, fit_none (by simp at h1; omega)]
      exact HB.out.tpost none (.inl rfl)
set_option maxRecDepth 100000 in
set_option maxHeartbeats 1000000 in
theorem step_15 (vK vF vS vM : Value) (s : Sh) (arg : Int) (w : World) (hs : SV w vK vF vS vM s) (hok : okS s) (hd : s.done = false) (ho : okO ⟨15, arg⟩ = true) :
    Calls Try.prog 96 #[.agg #[vK, vF, vS, vM, .bool s.done], .agg #[.int .i64 15, .int .i64 arg]] w (TPost vK vF vS vM (stepS s ⟨15, arg⟩) w) := by
  obtain ⟨AK, cK, AF, cF, AS, cS, AM, cM, rfl, rfl, rfl, rfl, q1, q2, q3, q4, r1, r2, r3, r4⟩ := hs.rd hok.siz.k hok.siz.f hok.siz.t hok.siz.m
  have hkl := hok.kl
  have hsl := hok.sl
  have HN := As.mk (Box.new2 hs 15 arg)
  have HOK := As.mk hok
  clear hs hok r1 r2 r3 r4
  have HD := As.mk hd
  have HOA := As.mk ho
  have HK : As (newK 15 = -1) := ⟨rfl⟩
  obtain ⟨r, hr⟩ : ∃ r, takeS s ⟨15, arg⟩ = r := ⟨_, rfl⟩
  have HRR := As.mk hr
  have HQ : As (stepS s ⟨15, arg⟩ = fitS (takeS s ⟨15, arg⟩)) := ⟨by show (if s.done = true then none else fitS (takeS s ⟨15, arg⟩)) = _; rw [hd]; rfl⟩
  clear hd hr ho
  go_enter Try.func96, Try.ntmps96
  go_upto_region 1 with fail
  generalize ((w.alloc (.cells #[.slice AK s.kinds.length cK, .slice AF s.full.length cF, .slice AS s.stack.length cS, .slice AM s.memo.length cM, .bool s.done] 91)).alloc (.cells #[.int .i64 15, .int .i64 arg] 52)).alloc (.cells #[.slice none 0 0, .slice none 0 0, .slice none 0 0, .slice none 0 0, .bool false] 91) = w1 at HN ⊢
  have HB := As.mk HN.out.1
  have HO := As.mk HN.out.2
  have o0 := OB.c0 HO.out
  have o1 := OB.c1 HO.out
  clear HN
  have c0 := HB.out.b.c0; have c1 := HB.out.b.c1; have c2 := HB.out.b.c2; have c3 := HB.out.b.c3; have c4 := HB.out.b.c4
  have b0 := HB.out.b.fz 0; have b1 := HB.out.b.fz 1; have b2 := HB.out.b.fz 2; have b3 := HB.out.b.fz 3; have b4 := HB.out.b.fz 4
  rw [HD.out] at c4
  go_upto_region 5 with fail
  clear c4
  have c4 := HB.out.b.c4
  have o0' := o0
  have o1' := o1
  cases r with
  | none =>
    go_upto_region 15 with (first | (go_at_call 117; refine (newKind_c _ _).mono ?_; rw [HK.out]; rintro e w2 ⟨rfl, rfl⟩) | (go_at_call 120; refine (takeShapes_c _ _ _ _ s 15 arg _ HB.out.v HOK.out HOA.out (by omega)).mono ?_; rw [HRR.out]; rintro e w3 ht; obtain ⟨B1, n1, e1, B2, n2, e2, B3, n3, e3, B4, n4, e4, x, rfl, hf, hp⟩ := ht; have HF := As.mk hf; have HP := As.mk hp; have hbb := (HB.out.bad hf).1; clear hf hp c0 c1 c2 c3 c4 b0 b1 b2 b3 b4; have c0 := SB.c0 hbb; have c1 := SB.c1 hbb; have c2 := SB.c2 hbb; have c3 := SB.c3 hbb; have c4 := SB.c4 hbb; have b0 := SB.fz hbb 0; have b1 := SB.fz hbb 1; have b2 := SB.fz hbb 2; have b3 := SB.fz hbb 3; have b4 := SB.fz hbb 4; clear hbb))
    clear o0 o1 HO c0 c1 c2 c3 c4 b0 b1 b2 b3 b4
    have hbb := HB.out.bad HF.out
    have h5 := Fr.set5 (S := fun k => k = w.heap.size) (w := w3) (g := w.heap.size) rfl (.slice B1 n1 e1) (.slice B2 n2 e2) (.slice B3 n3 e3) (.slice B4 n4 e4) (.bool x)
    have hx5 := SB.all (.slice B1 n1 e1) (.slice B2 n2 e2) (.slice B3 n3 e3) (.slice B4 n4 e4) x hbb.1
    have hr5 := h5.blk hbb.2.1 HB.out.ne.symm
    have hF5 := (HB.out.f.then HF.out (fun i hi => HB.out.o i hi)).then h5 (fun i hi => .inr (by omega))
    generalize (((((w3.setCell ⟨w.heap.size, 0, none⟩ (.slice B1 n1 e1)).setCell ⟨w.heap.size, 1, none⟩ (.slice B2 n2 e2)).setCell ⟨w.heap.size, 2, none⟩ (.slice B3 n3 e3)).setCell ⟨w.heap.size, 3, none⟩ (.slice B4 n4 e4)).setCell ⟨w.heap.size, 4, none⟩ (.bool x)) = w5 at hx5 hr5 hF5 ⊢
    clear h5 hbb
    refine region_perm (fun w' => w'.cell? ⟨w.heap.size, 0, none⟩ = some (.slice B1 n1 e1) ∧ w'.cell? ⟨w.heap.size, 1, none⟩ = some (.slice B2 n2 e2) ∧ w'.cell? ⟨w.heap.size, 2, none⟩ = some (.slice B3 n3 e3) ∧ w'.cell? ⟨w.heap.size, 3, none⟩ = some (.slice B4 n4 e4) ∧ w'.cell? ⟨w.heap.size, 4, none⟩ = some (.bool x)) [] [(0, 1), (1, 0), (2, 0), (3, 0), (4, 1), (5, 0), (6, 0), (7, 0), (8, 0), (9, 0), (10, 1), (11, 0), (12, 0), (13, 0), (14, 2), (15, 0)] (by kernel_rfl) (by kernel_rfl) rfl (by kernel_rfl) (fun _ _ _ _ h => h) ?_
    generalize hwd : World.drew w5 = w6
    have he6 : Ext w5 w6 := by rw [← hwd]; exact (Ext.rf w5).dr
    have hx6 := he6.blk hx5
    have hr6 := he6.blk hr5
    have HF6 := As.mk (hF5.then (Fr.ofExt (S := fun _ => False) he6) (fun _ h => h.elim))
    clear hwd HB hx5 hr5 hF5 he6
    have HX6 := As.mk hx6
    have HR6 := As.mk hr6
    have hS := And.intro (SB.c0 hx6) (And.intro (SB.c1 hx6) (And.intro (SB.c2 hx6) (And.intro (SB.c3 hx6) (SB.c4 hx6))))
    clear hx6 hr6
    repeat (first | refine wpP.c0 (h := ?_) | refine wpP.c1 hS (h := ?_) | refine wpP.c0off (h := ?_) | refine wpP.c1off hS (h := ?_))
    refine wpP.ev (h := fun Kv hKv => ?_)
    have d0 := SB.c0 HR6.out; have d1 := SB.c1 HR6.out; have d2 := SB.c2 HR6.out; have d3 := SB.c3 HR6.out; have d4 := SB.c4 HR6.out
    have f0 := SB.fz HR6.out 0; have f1 := SB.fz HR6.out 1; have f2 := SB.fz HR6.out 2; have f3 := SB.fz HR6.out 3; have f4 := SB.fz HR6.out 4
    go_wp2_with fail
    have hs5 := Fr.set5 (S := fun k => k = w.heap.size + 1 + 1) (w := w6) (g := w.heap.size + 1 + 1) rfl (.slice B1 n1 e1) (.slice B2 n2 e2) (.slice B3 n3 e3) (.slice B4 n4 e4) (.bool x)
    have hbo := hs5.blk HX6.out (by omega)
    refine hKv.out _ _ (And.intro (SB.c0 hbo) (And.intro (SB.c1 hbo) (And.intro (SB.c2 hbo) (And.intro (SB.c3 hbo) (SB.c4 hbo))))) ?_
    have HS5 := As.mk hs5
    clear hbo hs5
    clear hKv Kv hS d0 d1 d2 d3 d4 f0 f1 f2 f3 f4
    repeat (first | refine wpP.c0 (h := ?_))
    refine wpP.done ?_
    go_wp2_with fail
    refine bodyPost_ret (results_cellt rfl _ _ (w.heap.size + 1 + 1) _ rfl (loadS (SB.all _ _ _ _ _ HR6.out))) rfl ?_
    rw [HQ.out, HRR.out]
    exact ⟨_, _, _, _, _, _, _, _, _, _, _, _, _, rfl, HF6.out.then HS5.out (fun i hi => .inr (by omega)), fun s' h => nomatch h⟩
  | some s1 =>
    go_upto_region 15 with (first | (go_at_call 117; refine (newKind_c _ _).mono ?_; rw [HK.out]; rintro e w2 ⟨rfl, rfl⟩) | (go_at_call 120; refine (takeShapes_c _ _ _ _ s 15 arg _ HB.out.v HOK.out HOA.out (by omega)).mono ?_; rw [HRR.out]; rintro e w3 ht; obtain ⟨B1, n1, e1, B2, n2, e2, B3, n3, e3, B4, n4, e4, x, rfl, hf, hp⟩ := ht; have HF := As.mk hf; have HP := As.mk hp; have hbb := (HB.out.bad hf).1; clear hf hp c0 c1 c2 c3 c4 b0 b1 b2 b3 b4; have c0 := SB.c0 hbb; have c1 := SB.c1 hbb; have c2 := SB.c2 hbb; have c3 := SB.c3 hbb; have c4 := SB.c4 hbb; have b0 := SB.fz hbb 0; have b1 := SB.fz hbb 1; have b2 := SB.fz hbb 2; have b3 := SB.fz hbb 3; have b4 := SB.fz hbb 4; clear hbb))
    clear o0 o1 HO c0 c1 c2 c3 c4 b0 b1 b2 b3 b4
    obtain ⟨hxd, hp⟩ := HP.out s1 rfl
    subst hxd
    have hpp := HB.out.put hp
    have hl1 : n1 = s1.kinds.length ∧ n3 = s1.stack.length ∧ n2 = s1.full.length ∧ n4 = s1.memo.length := by
      obtain ⟨_, _, _, _, _, _, _, _, k1, k2, k3, k4⟩ := hp.1.forms
      injection k1 with _ k1 _
      injection k2 with _ k2 _
      injection k3 with _ k3 _
      injection k4 with _ k4 _
      exact ⟨k1, k3, k2, k4⟩
    obtain ⟨rfl, rfl, rfl, rfl⟩ := hl1
    clear HP HF hp HB
    generalize (((((w3.setCell ⟨w.heap.size, 0, none⟩ (.slice B1 s1.kinds.length e1)).setCell ⟨w.heap.size, 1, none⟩ (.slice B2 s1.full.length e2)).setCell ⟨w.heap.size, 2, none⟩ (.slice B3 s1.stack.length e3)).setCell ⟨w.heap.size, 3, none⟩ (.slice B4 s1.memo.length e4)).setCell ⟨w.heap.size, 4, none⟩ (.bool s1.done)) = w5 at hpp ⊢
    have HB := As.mk hpp
    clear hpp
    rcases bcase ((s1.kinds.length : Int) ≤ 300) with h1 | h1
    · rcases bcase ((s1.stack.length : Int) ≤ 300) with h2 | h2
      · refine region_perm (fun w' => w'.cell? ⟨w.heap.size, 0, none⟩ = some (.slice B1 s1.kinds.length e1) ∧ w'.cell? ⟨w.heap.size, 1, none⟩ = some (.slice B2 s1.full.length e2) ∧ w'.cell? ⟨w.heap.size, 2, none⟩ = some (.slice B3 s1.stack.length e3) ∧ w'.cell? ⟨w.heap.size, 3, none⟩ = some (.slice B4 s1.memo.length e4) ∧ w'.cell? ⟨w.heap.size, 4, none⟩ = some (.bool s1.done)) [] [(0, 1), (1, 0), (2, 0), (3, 0), (4, 1), (5, 0), (6, 0), (7, 0), (8, 0), (9, 0), (10, 1), (11, 0), (12, 0), (13, 0), (14, 2), (15, 0)] (by kernel_rfl) (by kernel_rfl) rfl (by kernel_rfl) (fun _ _ _ _ h => h) ?_
        generalize hwd : World.drew w5 = w6
        have hb6 := HB.out.ext (show Ext w5 w6 by rw [← hwd]; exact (Ext.rf w5).dr)
        clear hwd HB
        have HB := As.mk hb6
        have hS := And.intro hb6.b.c0 (And.intro hb6.b.c1 (And.intro hb6.b.c2 (And.intro hb6.b.c3 hb6.b.c4)))
        clear hb6
        repeat (first | refine wpP.c0 (h := ?_) | refine wpP.c1 hS (h := ?_) | refine wpP.c0off (h := ?_) | refine wpP.c1off hS (h := ?_))
        refine wpP.ev (h := fun Kv hKv => ?_)
        have d0 := HB.out.r.c0; have d1 := HB.out.r.c1; have d2 := HB.out.r.c2; have d3 := HB.out.r.c3; have d4 := HB.out.r.c4
        have f0 := HB.out.r.fz 0; have f1 := HB.out.r.fz 1; have f2 := HB.out.r.fz 2; have f3 := HB.out.r.fz 3; have f4 := HB.out.r.fz 4
        go_wp2_with fail
        have hbo := (Fr.set5 (S := fun k => k = w.heap.size + 1 + 1) (w := w6) (g := w.heap.size + 1 + 1) rfl (.slice B1 s1.kinds.length e1) (.slice B2 s1.full.length e2) (.slice B3 s1.stack.length e3) (.slice B4 s1.memo.length e4) (.bool s1.done)).blk HB.out.b HB.out.ne
        refine hKv.out _ _ (And.intro (SB.c0 hbo) (And.intro (SB.c1 hbo) (And.intro (SB.c2 hbo) (And.intro (SB.c3 hbo) (SB.c4 hbo))))) ?_
        clear hbo
        clear hKv Kv hS d0 d1 d2 d3 d4 f0 f1 f2 f3 f4
        repeat (first | refine wpP.c0 (h := ?_))
        refine wpP.done ?_
        go_wp2_with fail
        have ho := HB.out.out
        refine bodyPost_ret (results_cellt rfl _ _ (w.heap.size + 1 + 1) _ rfl (loadS ho.1)) rfl ?_
        rw [HQ.out, HRR.out, fit_some (by omega) (by omega)]
        exact HB.out.tpost _ (.inr rfl)
      · refine region_perm (fun w' => w'.cell? ⟨w.heap.size, 0, none⟩ = some (.slice B1 s1.kinds.length e1) ∧ w'.cell? ⟨w.heap.size, 1, none⟩ = some (.slice B2 s1.full.length e2) ∧ w'.cell? ⟨w.heap.size, 2, none⟩ = some (.slice B3 s1.stack.length e3) ∧ w'.cell? ⟨w.heap.size, 3, none⟩ = some (.slice B4 s1.memo.length e4) ∧ w'.cell? ⟨w.heap.size, 4, none⟩ = some (.bool s1.done)) [] [(0, 1), (1, 0), (2, 0), (3, 0), (4, 1), (5, 0), (6, 0), (7, 0), (8, 0), (9, 0), (10, 1), (11, 0), (12, 0), (13, 0), (14, 2), (15, 0)] (by kernel_rfl) (by kernel_rfl) rfl (by kernel_rfl) (fun _ _ _ _ h => h) ?_
        generalize hwd : World.drew w5 = w6
        have hb6 := HB.out.ext (show Ext w5 w6 by rw [← hwd]; exact (Ext.rf w5).dr)
        clear hwd HB
        have HB := As.mk hb6
        have hS := And.intro hb6.b.c0 (And.intro hb6.b.c1 (And.intro hb6.b.c2 (And.intro hb6.b.c3 hb6.b.c4)))
        clear hb6
        repeat (first | refine wpP.c0 (h := ?_) | refine wpP.c1 hS (h := ?_) | refine wpP.c0off (h := ?_) | refine wpP.c1off hS (h := ?_))
        refine wpP.ev (h := fun Kv hKv => ?_)
        have d0 := HB.out.r.c0; have d1 := HB.out.r.c1; have d2 := HB.out.r.c2; have d3 := HB.out.r.c3; have d4 := HB.out.r.c4
        have f0 := HB.out.r.fz 0; have f1 := HB.out.r.fz 1; have f2 := HB.out.r.fz 2; have f3 := HB.out.r.fz 3; have f4 := HB.out.r.fz 4
        go_wp2_with fail
        have hbo := (Fr.set5 (S := fun k => k = w.heap.size + 1 + 1) (w := w6) (g := w.heap.size + 1 + 1) rfl (.slice B1 s1.kinds.length e1) (.slice B2 s1.full.length e2) (.slice B3 s1.stack.length e3) (.slice B4 s1.memo.length e4) (.bool s1.done)).blk HB.out.b HB.out.ne
        refine hKv.out _ _ (And.intro (SB.c0 hbo) (And.intro (SB.c1 hbo) (And.intro (SB.c2 hbo) (And.intro (SB.c3 hbo) (SB.c4 hbo))))) ?_
        clear hbo
        clear hKv Kv hS d0 d1 d2 d3 d4 f0 f1 f2 f3 f4
        repeat (first | refine wpP.c0 (h := ?_))
        refine wpP.done ?_
        go_wp2_with fail
        have ho := HB.out.out
        refine bodyPost_ret (results_cellt rfl _ _ (w.heap.size + 1 + 1) _ rfl (loadS ho.1)) rfl ?_
        rw [HQ.out, HRR.out, fit_none (by simp at h2; omega)]
        exact HB.out.tpost none (.inl rfl)
    · refine region_perm (fun w' => w'.cell? ⟨w.heap.size, 0, none⟩ = some (.slice B1 s1.kinds.length e1) ∧ w'.cell? ⟨w.heap.size, 1, none⟩ = some (.slice B2 s1.full.length e2) ∧ w'.cell? ⟨w.heap.size, 2, none⟩ = some (.slice B3 s1.stack.length e3) ∧ w'.cell? ⟨w.heap.size, 3, none⟩ = some (.slice B4 s1.memo.length e4) ∧ w'.cell? ⟨w.heap.size, 4, none⟩ = some (.bool s1.done)) [] [(0, 1), (1, 0), (2, 0), (3, 0), (4, 1), (5, 0), (6, 0), (7, 0), (8, 0), (9, 0), (10, 1), (11, 0), (12, 0), (13, 0), (14, 2), (15, 0)] (by kernel_rfl) (by kernel_rfl) rfl (by kernel_rfl) (fun _ _ _ _ h => h) ?_
      generalize hwd : World.drew w5 = w6
      have hb6 := HB.out.ext (show Ext w5 w6 by rw [← hwd]; exact (Ext.rf w5).dr)
      clear hwd HB
      have HB := As.mk hb6
      have hS := And.intro hb6.b.c0 (And.intro hb6.b.c1 (And.intro hb6.b.c2 (And.intro hb6.b.c3 hb6.b.c4)))
      clear hb6
      repeat (first | refine wpP.c0 (h := ?_) | refine wpP.c1 hS (h := ?_) | refine wpP.c0off (h := ?_) | refine wpP.c1off hS (h := ?_))
      refine wpP.ev (h := fun Kv hKv => ?_)
      have d0 := HB.out.r.c0; have d1 := HB.out.r.c1; have d2 := HB.out.r.c2; have d3 := HB.out.r.c3; have d4 := HB.out.r.c4
      have f0 := HB.out.r.fz 0; have f1 := HB.out.r.fz 1; have f2 := HB.out.r.fz 2; have f3 := HB.out.r.fz 3; have f4 := HB.out.r.fz 4
      go_wp2_with fail
      have hbo := (Fr.set5 (S := fun k => k = w.heap.size + 1 + 1) (w := w6) (g := w.heap.size + 1 + 1) rfl (.slice B1 s1.kinds.length e1) (.slice B2 s1.full.length e2) (.slice B3 s1.stack.length e3) (.slice B4 s1.memo.length e4) (.bool s1.done)).blk HB.out.b HB.out.ne
      refine hKv.out _ _ (And.intro (SB.c0 hbo) (And.intro (SB.c1 hbo) (And.intro (SB.c2 hbo) (And.intro (SB.c3 hbo) (SB.c4 hbo))))) ?_
      clear hbo
      clear hKv Kv hS d0 d1 d2 d3 d4 f0 f1 f2 f3 f4
      repeat (first | refine wpP.c0 (h := ?_))
      refine wpP.done ?_
      go_wp2_with fail
      have ho := HB.out.out
      refine bodyPost_ret (results_cellt rfl _ _ (w.heap.size + 1 + 1) _ rfl (loadS ho.1)) rfl ?_
      rw [HQ.out, HRR.out, fit_none (by simp at h1; omega)]
      exact HB.out.tpost none (.inl rfl)
set_option maxRecDepth 100000 in
set_option maxHeartbeats 1000000 in
theorem step_17 (vK vF vS vM : Value) (s : Sh) (arg : Int) (w : World) (hs : SV w vK vF vS vM s) (hok : okS s) (hd : s.done = false) (ho : okO ⟨17, arg⟩ = true) :
    Calls Try.prog 96 #[.agg #[vK, vF, vS, vM, .bool s.done], .agg #[.int .i64 17, .int .i64 arg]] w (TPost vK vF vS vM (stepS s ⟨17, arg⟩) w) := by
  obtain ⟨AK, cK, AF, cF, AS, cS, AM, cM, rfl, rfl, rfl, rfl, q1, q2, q3, q4, r1, r2, r3, r4⟩ := hs.rd hok.siz.k hok.siz.f hok.siz.t hok.siz.m
  have hkl := hok.kl
  have hsl := hok.sl
  have HN := As.mk (Box.new2 hs 17 arg)
  have HOK := As.mk hok
  clear hs hok r1 r2 r3 r4
  have HD := As.mk hd
  have HOA := As.mk ho
  have HK : As (newK 17 = -1) := ⟨rfl⟩
  obtain ⟨r, hr⟩ : ∃ r, takeS s ⟨17, arg⟩ = r := ⟨_, rfl⟩
  have HRR := As.mk hr
  have HQ : As (stepS s ⟨17, arg⟩ = fitS (takeS s ⟨17, arg⟩)) := ⟨by show (if s.done = true then none else fitS (takeS s ⟨17, arg⟩)) = _; rw [hd]; rfl⟩
  clear hd hr ho
  go_enter Try.func96, Try.ntmps96
  go_upto_region 1 with fail
  generalize ((w.alloc (.cells #[.slice AK s.kinds.length cK, .slice AF s.full.length cF, .slice AS s.stack.length cS, .slice AM s.memo.length cM, .bool s.done] 91)).alloc (.cells #[.int .i64 17, .int .i64 arg] 52)).alloc (.cells #[.slice none 0 0, .slice none 0 0, .slice none 0 0, .slice none 0 0, .bool false] 91) = w1 at HN ⊢
  have HB := As.mk HN.out.1
  have HO := As.mk HN.out.2
  have o0 := OB.c0 HO.out
  have o1 := OB.c1 HO.out
  clear HN
  have c0 := HB.out.b.c0; have c1 := HB.out.b.c1; have c2 := HB.out.b.c2; have c3 := HB.out.b.c3; have c4 := HB.out.b.c4
  have b0 := HB.out.b.fz 0; have b1 := HB.out.b.fz 1; have b2 := HB.out.b.fz 2; have b3 := HB.out.b.fz 3; have b4 := HB.out.b.fz 4
  rw [HD.out] at c4
  go_upto_region 5 with fail
  clear c4
  have c4 := HB.out.b.c4
  have o0' := o0
  have o1' := o1
  cases r with
  | none =>
    go_upto_region 15 with (first | (go_at_call 117; refine (newKind_c _ _).mono ?_; rw [HK.out]; rintro e w2 ⟨rfl, rfl⟩) | (go_at_call 120; refine (takeShapes_c _ _ _ _ s 17 arg _ HB.out.v HOK.out HOA.out (by omega)).mono ?_; rw [HRR.out]; rintro e w3 ht; obtain ⟨B1, n1, e1, B2, n2, e2, B3, n3, e3, B4, n4, e4, x, rfl, hf, hp⟩ := ht; have HF := As.mk hf; have HP := As.mk hp; have hbb := (HB.out.bad hf).1; clear hf hp c0 c1 c2 c3 c4 b0 b1 b2 b3 b4; have c0 := SB.c0 hbb; have c1 := SB.c1 hbb; have c2 := SB.c2 hbb; have c3 := SB.c3 hbb; have c4 := SB.c4 hbb; have b0 := SB.fz hbb 0; have b1 := SB.fz hbb 1; have b2 := SB.fz hbb 2; have b3 := SB.fz hbb 3; have b4 := SB.fz hbb 4; clear hbb))
    clear o0 o1 HO c0 c1 c2 c3 c4 b0 b1 b2 b3 b4
    have hbb := HB.out.bad HF.out
    have h5 := Fr.set5 (S := fun k => k = w.heap.size) (w := w3) (g := w.heap.size) rfl (.slice B1 n1 e1) (.slice B2 n2 e2) (.slice B3 n3 e3) (.slice B4 n4 e4) (.bool x)
    have hx5 := SB.all (.slice B1 n1 e1) (.slice B2 n2 e2) (.slice B3 n3 e3) (.slice B4 n4 e4) x hbb.1
    have hr5 := h5.blk hbb.2.1 HB.out.ne.symm
    have hF5 := (HB.out.f.then HF.out (fun i hi => HB.out.o i hi)).then h5 (fun i hi => .inr (by omega))
    generalize (((((w3.setCell ⟨w.heap.size, 0, none⟩ (.slice B1 n1 e1)).setCell ⟨w.heap.size, 1, none⟩ (.slice B2 n2 e2)).setCell ⟨w.heap.size, 2, none⟩ (.slice B3 n3 e3)).setCell ⟨w.heap.size, 3, none⟩ (.slice B4 n4 e4)).setCell ⟨w.heap.size, 4, none⟩ (.bool x)) = w5 at hx5 hr5 hF5 ⊢
    clear h5 hbb
    refine region_perm (fun w' => w'.cell? ⟨w.heap.size, 0, none⟩ = some (.slice B1 n1 e1) ∧ w'.cell? ⟨w.heap.size, 1, none⟩ = some (.slice B2 n2 e2) ∧ w'.cell? ⟨w.heap.size, 2, none⟩ = some (.slice B3 n3 e3) ∧ w'.cell? ⟨w.heap.size, 3, none⟩ = some (.slice B4 n4 e4) ∧ w'.cell? ⟨w.heap.size, 4, none⟩ = some (.bool x)) [] [(0, 1), (1, 0), (2, 0), (3, 0), (4, 1), (5, 0), (6, 0), (7, 0), (8, 0), (9, 0), (10, 1), (11, 0), (12, 0), (13, 0), (14, 2), (15, 0)] (by kernel_rfl) (by kernel_rfl) rfl (by kernel_rfl) (fun _ _ _ _ h => h) ?_
    generalize hwd : World.drew w5 = w6
    have he6 : Ext w5 w6 := by rw [← hwd]; exact (Ext.rf w5).dr
    have hx6 := he6.blk hx5
    have hr6 := he6.blk hr5
    have HF6 := As.mk (hF5.then (Fr.ofExt (S := fun _ => False) he6) (fun _ h => h.elim))
    clear hwd HB hx5 hr5 hF5 he6
    have HX6 := As.mk hx6
    have HR6 := As.mk hr6
    have hS := And.intro (SB.c0 hx6) (And.intro (SB.c1 hx6) (And.intro (SB.c2 hx6) (And.intro (SB.c3 hx6) (SB.c4 hx6))))
    clear hx6 hr6
    repeat (first | refine wpP.c0 (h := ?_) | refine wpP.c1 hS (h := ?_) | refine wpP.c0off (h := ?_) | refine wpP.c1off hS (h := ?_))
    refine wpP.ev (h := fun Kv hKv => ?_)
    have d0 := SB.c0 HR6.out; have d1 := SB.c1 HR6.out; have d2 := SB.c2 HR6.out; have d3 := SB.c3 HR6.out; have d4 := SB.c4 HR6.out
    have f0 := SB.fz HR6.out 0; have f1 := SB.fz HR6.out 1; have f2 := SB.fz HR6.out 2; have f3 := SB.fz HR6.out 3; have f4 := SB.fz HR6.out 4
    go_wp2_with fail
    have hs5 := Fr.set5 (S := fun k => k = w.heap.size + 1 + 1) (w := w6) (g := w.heap.size + 1 + 1) rfl (.slice B1 n1 e1) (.slice B2 n2 e2) (.slice B3 n3 e3) (.slice B4 n4 e4) (.bool x)
    have hbo := hs5.blk HX6.out (by omega)
    refine hKv.out _ _ (And.intro (SB.c0 hbo) (And.intro (SB.c1 hbo) (And.intro (SB.c2 hbo) (And.intro (SB.c3 hbo) (SB.c4 hbo))))) ?_
    have HS5 := As.mk hs5
    clear hbo hs5
    clear hKv Kv hS d0 d1 d2 d3 d4 f0 f1 f2 f3 f4
    repeat (first | refine wpP.c0 (h := ?_))
    refine wpP.done ?_
    go_wp2_with fail
    refine bodyPost_ret (results_cellt rfl _ _ (w.heap.size + 1 + 1) _ rfl (loadS (SB.all _ _ _ _ _ HR6.out))) rfl ?_
    rw [HQ.out, HRR.out]
    exact ⟨_, _, _, _, _, _, _, _, _, _, _, _, _, rfl, HF6.out.then HS5.out (fun i hi => .inr (by omega)), fun s' h => nomatch h⟩
  | some s1 =>
    go_upto_region 15 with (first | (go_at_call 117; refine (newKind_c _ _).mono ?_; rw [HK.out]; rintro e w2 ⟨rfl, rfl⟩) | (go_at_call 120; refine (takeShapes_c _ _ _ _ s 17 arg _ HB.out.v HOK.out HOA.out (by omega)).mono ?_; rw [HRR.out]; rintro e w3 ht; obtain ⟨B1, n1, e1, B2, n2, e2, B3, n3, e3, B4, n4, e4, x, rfl, hf, hp⟩ := ht; have HF := As.mk hf; have HP := As.mk hp; have hbb := (HB.out.bad hf).1; clear hf hp c0 c1 c2 c3 c4 b0 b1 b2 b3 b4; have c0 := SB.c0 hbb; have c1 := SB.c1 hbb; have c2 := SB.c2 hbb; have c3 := SB.c3 hbb; have c4 := SB.c4 hbb; have b0 := SB.fz hbb 0; have b1 := SB.fz hbb 1; have b2 := SB.fz hbb 2; have b3 := SB.fz hbb 3; have b4 := SB.fz hbb 4; clear hbb))
    clear o0 o1 HO c0 c1 c2 c3 c4 b0 b1 b2 b3 b4
    obtain ⟨hxd, hp⟩ := HP.out s1 rfl
    subst hxd
    have hpp := HB.out.put hp
    have hl1 : n1 = s1.kinds.length ∧ n3 = s1.stack.length ∧ n2 = s1.full.length ∧ n4 = s1.memo.length := by
      obtain ⟨_, _, _, _, _, _, _, _, k1, k2, k3, k4⟩ := hp.1.forms
      injection k1 with _ k1 _
      injection k2 with _ k2 _
      injection k3 with _ k3 _
      injection k4 with _ k4 _
      exact ⟨k1, k3, k2, k4⟩
    obtain ⟨rfl, rfl, rfl, rfl⟩ := hl1
    clear HP HF hp HB
    generalize (((((w3.setCell ⟨w.heap.size, 0, none⟩ (.slice B1 s1.kinds.length e1)).setCell ⟨w.heap.size, 1, none⟩ (.slice B2 s1.full.length e2)).setCell ⟨w.heap.size, 2, none⟩ (.slice B3 s1.stack.length e3)).setCell ⟨w.heap.size, 3, none⟩ (.slice B4 s1.memo.length e4)).setCell ⟨w.heap.size, 4, none⟩ (.bool s1.done)) = w5 at hpp ⊢
    have HB := As.mk hpp
    clear hpp
    rcases bcase ((s1.kinds.length : Int) ≤ 300) with h1 | h1
    · rcases bcase ((s1.stack.length : Int) ≤ 300) with h2 | h2
      · refine region_perm (fun w' => w'.cell? ⟨w.heap.size, 0, none⟩ = some (.slice B1 s1.kinds.length e1) ∧ w'.cell? ⟨w.heap.size, 1, none⟩ = some (.slice B2 s1.full.length e2) ∧ w'.cell? ⟨w.heap.size, 2, none⟩ = some (.slice B3 s1.stack.length e3) ∧ w'.cell? ⟨w.heap.size, 3, none⟩ = some (.slice B4 s1.memo.length e4) ∧ w'.cell? ⟨w.heap.size, 4, none⟩ = some (.bool s1.done)) [] [(0, 1), (1, 0), (2, 0), (3, 0), (4, 1), (5, 0), (6, 0), (7, 0), (8, 0), (9, 0), (10, 1), (11, 0), (12, 0), (13, 0), (14, 2), (15, 0)] (by kernel_rfl) (by kernel_rfl) rfl (by kernel_rfl) (fun _ _ _ _ h => h) ?_
        generalize hwd : World.drew w5 = w6
        have hb6 := HB.out.ext (show Ext w5 w6 by rw [← hwd]; exact (Ext.rf w5).dr)
        clear hwd HB
        have HB := As.mk hb6
        have hS := And.intro hb6.b.c0 (And.intro hb6.b.c1 (And.intro hb6.b.c2 (And.intro hb6.b.c3 hb6.b.c4)))
        clear hb6
        repeat (first | refine wpP.c0 (h := ?_) | refine wpP.c1 hS (h := ?_) | refine wpP.c0off (h := ?_) | refine wpP.c1off hS (h := ?_))
        refine wpP.ev (h := fun Kv hKv => ?_)
        have d0 := HB.out.r.c0; have d1 := HB.out.r.c1; have d2 := HB.out.r.c2; have d3 := HB.out.r.c3; have d4 := HB.out.r.c4
        have f0 := HB.out.r.fz 0; have f1 := HB.out.r.fz 1; have f2 := HB.out.r.fz 2; have f3 := HB.out.r.fz 3; have f4 := HB.out.r.fz 4
        go_wp2_with fail
        have hbo := (Fr.set5 (S := fun k => k = w.heap.size + 1 + 1) (w := w6) (g := w.heap.size + 1 + 1) rfl (.slice B1 s1.kinds.length e1) (.slice B2 s1.full.length e2) (.slice B3 s1.stack.length e3) (.slice B4 s1.memo.length e4) (.bool s1.done)).blk HB.out.b HB.out.ne
        refine hKv.out _ _ (And.intro (SB.c0 hbo) (And.intro (SB.c1 hbo) (And.intro (SB.c2 hbo) (And.intro (SB.c3 hbo) (SB.c4 hbo))))) ?_
        clear hbo
        clear hKv Kv hS d0 d1 d2 d3 d4 f0 f1 f2 f3 f4
        repeat (first | refine wpP.c0 (h := ?_))
        refine wpP.done ?_
        go_wp2_with fail
        have ho := HB.out.out
        refine bodyPost_ret (results_cellt rfl _ _ (w.heap.size + 1 + 1) _ rfl (loadS ho.1)) rfl ?_
        rw [HQ.out, HRR.out, fit_some (by omega) (by omega)]
        exact HB.out.tpost _ (.inr rfl)
      · refine region_perm (fun w' => w'.cell? ⟨w.heap.size, 0, none⟩ = some (.slice B1 s1.kinds.length e1) ∧ w'.cell? ⟨w.heap.size, 1, none⟩ = some (.slice B2 s1.full.length e2) ∧ w'.cell? ⟨w.heap.size, 2, none⟩ = some (.slice B3 s1.stack.length e3) ∧ w'.cell? ⟨w.heap.size, 3, none⟩ = some (.slice B4 s1.memo.length e4) ∧ w'.cell? ⟨w.heap.size, 4, none⟩ = some (.bool s1.done)) [] [(0, 1), (1, 0), (2, 0), (3, 0), (4, 1), (5, 0), (6, 0), (7, 0), (8, 0), (9, 0), (10, 1), (11, 0), (12, 0), (13, 0), (14, 2), (15, 0)] (by kernel_rfl) (by kernel_rfl) rfl (by kernel_rfl) (fun _ _ _ _ h => h) ?_
        generalize hwd : World.drew w5 = w6
        have hb6 := HB.out.ext (show Ext w5 w6 by rw [← hwd]; exact (Ext.rf w5).dr)
        clear hwd HB
        have HB := As.mk hb6
        have hS := And.intro hb6.b.c0 (And.intro hb6.b.c1 (And.intro hb6.b.c2 (And.intro hb6.b.c3 hb6.b.c4)))
        clear hb6
        repeat (first | refine wpP.c0 (h := ?_) | refine wpP.c1 hS (h := ?_) | refine wpP.c0off (h := ?_) | refine wpP.c1off hS (h := ?_))
        refine wpP.ev (h := fun Kv hKv => ?_)
        have d0 := HB.out.r.c0; have d1 := HB.out.r.c1; have d2 := HB.out.r.c2; have d3 := HB.out.r.c3; have d4 := HB.out.r.c4
        have f0 := HB.out.r.fz 0; have f1 := HB.out.r.fz 1; have f2 := HB.out.r.fz 2; have f3 := HB.out.r.fz 3; have f4 := HB.out.r.fz 4
        go_wp2_with fail
        have hbo := (Fr.set5 (S := fun k => k = w.heap.size + 1 + 1) (w := w6) (g := w.heap.size + 1 + 1) rfl (.slice B1 s1.kinds.length e1) (.slice B2 s1.full.length e2) (.slice B3 s1.stack.length e3) (.slice B4 s1.memo.length e4) (.bool s1.done)).blk HB.out.b HB.out.ne
        refine hKv.out _ _ (And.intro (SB.c0 hbo) (And.intro (SB.c1 hbo) (And.intro (SB.c2 hbo) (And.intro (SB.c3 hbo) (SB.c4 hbo))))) ?_
        clear hbo
        clear hKv Kv hS d0 d1 d2 d3 d4 f0 f1 f2 f3 f4
        repeat (first | refine wpP.c0 (h := ?_))
        refine wpP.done ?_
        go_wp2_with fail
        have ho := HB.out.out
        refine bodyPost_ret (results_cellt rfl _ _ (w.heap.size + 1 + 1) _ rfl (loadS ho.1)) rfl ?_
        rw [HQ.out, HRR.out, fit_none (by simp at h2; omega)]
        exact HB.out.tpost none (.inl rfl)
    · refine region_perm (fun w' => w'.cell? ⟨w.heap.size, 0, none⟩ = some (.slice B1 s1.kinds.length e1) ∧ w'.cell? ⟨w.heap.size, 1, none⟩ = some (.slice B2 s1.full.length e2) ∧ w'.cell? ⟨w.heap.size, 2, none⟩ = some (.slice B3 s1.stack.length e3) ∧ w'.cell? ⟨w.heap.size, 3, none⟩ = some (.slice B4 s1.memo.length e4) ∧ w'.cell? ⟨w.heap.size, 4, none⟩ = some (.bool s1.done)) [] [(0, 1), (1, 0), (2, 0), (3, 0), (4, 1), (5, 0), (6, 0), (7, 0), (8, 0), (9, 0), (10, 1), (11, 0), (12, 0), (13, 0), (14, 2), (15, 0)] (by kernel_rfl) (by kernel_rfl) rfl (by kernel_rfl) (fun _ _ _ _ h => h) ?_
      generalize hwd : World.drew w5 = w6
      have hb6 := HB.out.ext (show Ext w5 w6 by rw [← hwd]; exact (Ext.rf w5).dr)
      clear hwd HB
      have HB := As.mk hb6
      have hS := And.intro hb6.b.c0 (And.intro hb6.b.c1 (And.intro hb6.b.c2 (And.intro hb6.b.c3 hb6.b.c4)))
      clear hb6
      repeat (first | refine wpP.c0 (h := ?_) | refine wpP.c1 hS (h := ?_) | refine wpP.c0off (h := ?_) | refine wpP.c1off hS (h := ?_))
      refine wpP.ev (h := fun Kv hKv => ?_)
      have d0 := HB.out.r.c0; have d1 := HB.out.r.c1; have d2 := HB.out.r.c2; have d3 := HB.out.r.c3; have d4 := HB.out.r.c4
      have f0 := HB.out.r.fz 0; have f1 := HB.out.r.fz 1; have f2 := HB.out.r.fz 2; have f3 := HB.out.r.fz 3; have f4 := HB.out.r.fz 4
      go_wp2_with fail
      have hbo := (Fr.set5 (S := fun k => k = w.heap.size + 1 + 1) (w := w6) (g := w.heap.size + 1 + 1) rfl (.slice B1 s1.kinds.length e1) (.slice B2 s1.full.length e2) (.slice B3 s1.stack.length e3) (.slice B4 s1.memo.length e4) (.bool s1.done)).blk HB.out.b HB.out.ne
      refine hKv.out _ _ (And.intro (SB.c0 hbo) (And.intro (SB.c1 hbo) (And.intro (SB.c2 hbo) (And.intro (SB.c3 hbo) (SB.c4 hbo))))) ?_
      clear hbo
      clear hKv Kv hS d0 d1 d2 d3 d4 f0 f1 f2 f3 f4
      repeat (first | refine wpP.c0 (h := ?_))
      refine wpP.done ?_
      go_wp2_with fail
      have ho := HB.out.out
      refine bodyPost_ret (results_cellt rfl _ _ (w.heap.size + 1 + 1) _ rfl (loadS ho.1)) rfl ?_
      rw [HQ.out, HRR.out, fit_none (by simp at h1; omega)]
      exact HB.out.tpost none (.inl rfl)
set_option maxRecDepth 100000 in
set_option maxHeartbeats 1000000 in
theorem step_19 (vK vF vS vM : Value) (s : Sh) (arg : Int) (w : World) (hs : SV w vK vF vS vM s) (hok : okS s) (hd : s.done = false) (ho : okO ⟨19, arg⟩ = true) :
    Calls Try.prog 96 #[.agg #[vK, vF, vS, vM, .bool s.done], .agg #[.int .i64 19, .int .i64 arg]] w (TPost vK vF vS vM (stepS s ⟨19, arg⟩) w) := by
  obtain ⟨AK, cK, AF, cF, AS, cS, AM, cM, rfl, rfl, rfl, rfl, q1, q2, q3, q4, r1, r2, r3, r4⟩ := hs.rd hok.siz.k hok.siz.f hok.siz.t hok.siz.m
  have hkl := hok.kl
  have hsl := hok.sl
  have HN := As.mk (Box.new2 hs 19 arg)
  have HOK := As.mk hok
  clear hs hok r1 r2 r3 r4
  have HD := As.mk hd
  have HOA := As.mk ho
  have HK : As (newK 19 = -1) := ⟨rfl⟩
  obtain ⟨r, hr⟩ : ∃ r, takeS s ⟨19, arg⟩ = r := ⟨_, rfl⟩
  have HRR := As.mk hr
  have HQ : As (stepS s ⟨19, arg⟩ = fitS (takeS s ⟨19, arg⟩)) := ⟨by show (if s.done = true then none else fitS (takeS s ⟨19, arg⟩)) = _; rw [hd]; rfl⟩
  clear hd hr ho
  go_enter Try.func96, Try.ntmps96
  go_upto_region 1 with fail
  generalize ((w.alloc (.cells #[.slice AK s.kinds.length cK, .slice AF s.full.length cF, .slice AS s.stack.length cS, .slice AM s.memo.length cM, .bool s.done] 91)).alloc (.cells #[.int .i64 19, .int .i64 arg] 52)).alloc (.cells #[.slice none 0 0, .slice none 0 0, .slice none 0 0, .slice none 0 0, .bool false] 91) = w1 at HN ⊢
  have HB := As.mk HN.out.1
  have HO := As.mk HN.out.2
  have o0 := OB.c0 HO.out
  have o1 := OB.c1 HO.out
  clear HN
  have c0 := HB.out.b.c0; have c1 := HB.out.b.c1; have c2 := HB.out.b.c2; have c3 := HB.out.b.c3; have c4 := HB.out.b.c4
  have b0 := HB.out.b.fz 0; have b1 := HB.out.b.fz 1; have b2 := HB.out.b.fz 2; have b3 := HB.out.b.fz 3; have b4 := HB.out.b.fz 4
  rw [HD.out] at c4
  go_upto_region 5 with fail
  clear c4
  have c4 := HB.out.b.c4
  have o0' := o0
  have o1' := o1
  cases r with
  | none =>
    go_upto_region 15 with (first | (go_at_call 117; refine (newKind_c _ _).mono ?_; rw [HK.out]; rintro e w2 ⟨rfl, rfl⟩) | (go_at_call 120; refine (takeShapes_c _ _ _ _ s 19 arg _ HB.out.v HOK.out HOA.out (by omega)).mono ?_; rw [HRR.out]; rintro e w3 ht; obtain ⟨B1, n1, e1, B2, n2, e2, B3, n3, e3, B4, n4, e4, x, rfl, hf, hp⟩ := ht; have HF := As.mk hf; have HP := As.mk hp; have hbb := (HB.out.bad hf).1; clear hf hp c0 c1 c2 c3 c4 b0 b1 b2 b3 b4; have c0 := SB.c0 hbb; have c1 := SB.c1 hbb; have c2 := SB.c2 hbb; have c3 := SB.c3 hbb; have c4 := SB.c4 hbb; have b0 := SB.fz hbb 0; have b1 := SB.fz hbb 1; have b2 := SB.fz hbb 2; have b3 := SB.fz hbb 3; have b4 := SB.fz hbb 4; clear hbb))
    clear o0 o1 HO c0 c1 c2 c3 c4 b0 b1 b2 b3 b4
    have hbb := HB.out.bad HF.out
    have h5 := Fr.set5 (S := fun k => k = w.heap.size) (w := w3) (g := w.heap.size) rfl (.slice B1 n1 e1) (.slice B2 n2 e2) (.slice B3 n3 e3) (.slice B4 n4 e4) (.bool x)
    have hx5 := SB.all (.slice B1 n1 e1) (.slice B2 n2 e2) (.slice B3 n3 e3) (.slice B4 n4 e4) x hbb.1
    have hr5 := h5.blk hbb.2.1 HB.out.ne.symm
    have hF5 := (HB.out.f.then HF.out (fun i hi => HB.out.o i hi)).then h5 (fun i hi => .inr (by omega))
    generalize (((((w3.setCell ⟨w.heap.size, 0, none⟩ (.slice B1 n1 e1)).setCell ⟨w.heap.size, 1, none⟩ (.slice B2 n2 e2)).setCell ⟨w.heap.size, 2, none⟩ (.slice B3 n3 e3)).setCell ⟨w.heap.size, 3, none⟩ (.slice B4 n4 e4)).setCell ⟨w.heap.size, 4, none⟩ (.bool x)) = w5 at hx5 hr5 hF5 ⊢
    clear h5 hbb
    refine region_perm (fun w' => w'.cell? ⟨w.heap.size, 0, none⟩ = some (.slice B1 n1 e1) ∧ w'.cell? ⟨w.heap.size, 1, none⟩ = some (.slice B2 n2 e2) ∧ w'.cell? ⟨w.heap.size, 2, none⟩ = some (.slice B3 n3 e3) ∧ w'.cell? ⟨w.heap.size, 3, none⟩ = some (.slice B4 n4 e4) ∧ w'.cell? ⟨w.heap.size, 4, none⟩ = some (.bool x)) [] [(0, 1), (1, 0), (2, 0), (3, 0), (4, 1), (5, 0), (6, 0), (7, 0), (8, 0), (9, 0), (10, 1), (11, 0), (12, 0), (13, 0), (14, 2), (15, 0)] (by kernel_rfl) (by kernel_rfl) rfl (by kernel_rfl) (fun _ _ _ _ h => h) ?_
    generalize hwd : World.drew w5 = w6
    have he6 : Ext w5 w6 := by rw [← hwd]; exact (Ext.rf w5).dr
    have hx6 := he6.blk hx5
    have hr6 := he6.blk hr5
    have HF6 := As.mk (hF5.then (Fr.ofExt (S := fun _ => False) he6) (fun _ h => h.elim))
    clear hwd HB hx5 hr5 hF5 he6
    have HX6 := As.mk hx6
    have HR6 := As.mk hr6
    have hS := And.intro (SB.c0 hx6) (And.intro (SB.c1 hx6) (And.intro (SB.c2 hx6) (And.intro (SB.c3 hx6) (SB.c4 hx6))))
    clear hx6 hr6
    repeat (first | refine wpP.c0 (h := ?_) | refine wpP.c1 hS (h := ?_) | refine wpP.c0off (h := ?_) | refine wpP.c1off hS (h := ?_))
    refine wpP.ev (h := fun Kv hKv => ?_)
    have d0 := SB.c0 HR6.out; have d1 := SB.c1 HR6.out; have d2 := SB.c2 HR6.out; have d3 := SB.c3 HR6.out; have d4 := SB.c4 HR6.out
    have f0 := SB.fz HR6.out 0; have f1 := SB.fz HR6.out 1; have f2 := SB.fz HR6.out 2; have f3 := SB.fz HR6.out 3; have f4 := SB.fz HR6.out 4
    go_wp2_with fail
    have hs5 := Fr.set5 (S := fun k => k = w.heap.size + 1 + 1) (w := w6) (g := w.heap.size + 1 + 1) rfl (.slice B1 n1 e1) (.slice B2 n2 e2) (.slice B3 n3 e3) (.slice B4 n4 e4) (.bool x)
    have hbo := hs5.blk HX6.out (by omega)
    refine hKv.out _ _ (And.intro (SB.c0 hbo) (And.intro (SB.c1 hbo) (And.intro (SB.c2 hbo) (And.intro (SB.c3 hbo) (SB.c4 hbo))))) ?_
    have HS5 := As.mk hs5
    clear hbo hs5
    clear hKv Kv hS d0 d1 d2 d3 d4 f0 f1 f2 f3 f4
    repeat (first | refine wpP.c0 (h := ?_))
    refine wpP.done ?_
    go_wp2_with fail
    refine bodyPost_ret (results_cellt rfl _ _ (w.heap.size + 1 + 1) _ rfl (loadS (SB.all _ _ _ _ _ HR6.out))) rfl ?_
    rw [HQ.out, HRR.out]
    exact ⟨_, _, _, _, _, _, _, _, _, _, _, _, _, rfl, HF6.out.then HS5.out (fun i hi => .inr (by omega)), fun s' h => nomatch h⟩
  | some s1 =>
    go_upto_region 15 with (first | (go_at_call 117; refine (newKind_c _ _).mono ?_; rw [HK.out]; rintro e w2 ⟨rfl, rfl⟩) | (go_at_call 120; refine (takeShapes_c _ _ _ _ s 19 arg _ HB.out.v HOK.out HOA.out (by omega)).mono ?_; rw [HRR.out]; rintro e w3 ht; obtain ⟨B1, n1, e1, B2, n2, e2, B3, n3, e3, B4, n4, e4, x, rfl, hf, hp⟩ := ht; have HF := As.mk hf; have HP := As.mk hp; have hbb := (HB.out.bad hf).1; clear hf hp c0 c1 c2 c3 c4 b0 b1 b2 b3 b4; have c0 := SB.c0 hbb; have c1 := SB.c1 hbb; have c2 := SB.c2 hbb; have c3 := SB.c3 hbb; have c4 := SB.c4 hbb; have b0 := SB.fz hbb 0; have b1 := SB.fz hbb 1; have b2 := SB.fz hbb 2; have b3 := SB.fz hbb 3; have b4 := SB.fz hbb 4; clear hbb))
    clear o0 o1 HO c0 c1 c2 c3 c4 b0 b1 b2 b3 b4
    obtain ⟨hxd, hp⟩ := HP.out s1 rfl
    subst hxd
    have hpp := HB.out.put hp
    have hl1 : n1 = s1.kinds.length ∧ n3 = s1.stack.length ∧ n2 = s1.full.length ∧ n4 = s1.memo.length := by
      obtain ⟨_, _, _, _, _, _, _, _, k1, k2, k3, k4⟩ := hp.1.forms
      injection k1 with _ k1 _
      injection k2 with _ k2 _
      injection k3 with _ k3 _
      injection k4 with _ k4 _
      exact ⟨k1, k3, k2, k4⟩
    obtain ⟨rfl, rfl, rfl, rfl⟩ := hl1
    clear HP HF hp HB
    generalize (((((w3.setCell ⟨w.heap.size, 0, none⟩ (.slice B1 s1.kinds.length e1)).setCell ⟨w.heap.size, 1, none⟩ (.slice B2 s1.full.length e2)).setCell ⟨w.heap.size, 2, none⟩ (.slice B3 s1.stack.length e3)).setCell ⟨w.heap.size, 3, none⟩ (.slice B4 s1.memo.length e4)).setCell ⟨w.heap.size, 4, none⟩ (.bool s1.done)) = w5 at hpp ⊢
    have HB := As.mk hpp
    clear hpp
    rcases bcase ((s1.kinds.length : Int) ≤ 300) with h1 | h1
    · rcases bcase ((s1.stack.length : Int) ≤ 300) with h2 | h2
      · refine region_perm (fun w' => w'.cell? ⟨w.heap.size, 0, none⟩ = some (.slice B1 s1.kinds.length e1) ∧ w'.cell? ⟨w.heap.size, 1, none⟩ = some (.slice B2 s1.full.length e2) ∧ w'.cell? ⟨w.heap.size, 2, none⟩ = some (.slice B3 s1.stack.length e3) ∧ w'.cell? ⟨w.heap.size, 3, none⟩ = some (.slice B4 s1.memo.length e4) ∧ w'.cell? ⟨w.heap.size, 4, none⟩ = some (.bool s1.done)) [] [(0, 1), (1, 0), (2, 0), (3, 0), (4, 1), (5, 0), (6, 0), (7, 0), (8, 0), (9, 0), (10, 1), (11, 0), (12, 0), (13, 0), (14, 2), (15, 0)] (by kernel_rfl) (by kernel_rfl) rfl (by kernel_rfl) (fun _ _ _ _ h => h) ?_
        generalize hwd : World.drew w5 = w6
        have hb6 := HB.out.ext (show Ext w5 w6 by rw [← hwd]; exact (Ext.rf w5).dr)
        clear hwd HB
        have HB := As.mk hb6
        have hS := And.intro hb6.b.c0 (And.intro hb6.b.c1 (And.intro hb6.b.c2 (And.intro hb6.b.c3 hb6.b.c4)))
        clear hb6
        repeat (first | refine wpP.c0 (h := ?_) | refine wpP.c1 hS (h := ?_) | refine wpP.c0off (h := ?_) | refine wpP.c1off hS (h := ?_))
        refine wpP.ev (h := fun Kv hKv => ?_)
        have d0 := HB.out.r.c0; have d1 := HB.out.r.c1; have d2 := HB.out.r.c2; have d3 := HB.out.r.c3; have d4 := HB.out.r.c4
        have f0 := HB.out.r.fz 0; have f1 := HB.out.r.fz 1; have f2 := HB.out.r.fz 2; have f3 := HB.out.r.fz 3; have f4 := HB.out.r.fz 4
        go_wp2_with fail
        have hbo := (Fr.set5 (S := fun k => k = w.heap.size + 1 + 1) (w := w6) (g := w.heap.size + 1 + 1) rfl (.slice B1 s1.kinds.length e1) (.slice B2 s1.full.length e2) (.slice B3 s1.stack.length e3) (.slice B4 s1.memo.length e4) (.bool s1.done)).blk HB.out.b HB.out.ne
        refine hKv.out _ _ (And.intro (SB.c0 hbo) (And.intro (SB.c1 hbo) (And.intro (SB.c2 hbo) (And.intro (SB.c3 hbo) (SB.c4 hbo))))) ?_
        clear hbo
        clear hKv Kv hS d0 d1 d2 d3 d4 f0 f1 f2 f3 f4
        repeat (first | refine wpP.c0 (h := ?_))
        refine wpP.done ?_
        go_wp2_with fail
        have ho := HB.out.out
        refine bodyPost_ret (results_cellt rfl _ _ (w.heap.size + 1 + 1) _ rfl (loadS ho.1)) rfl ?_
        rw [HQ.out, HRR.out, fit_some (by omega) (by omega)]
        exact HB.out.tpost _ (.inr rfl)
      · refine region_perm (fun w' => w'.cell? ⟨w.heap.size, 0, none⟩ = some (.slice B1 s1.kinds.length e1) ∧ w'.cell? ⟨w.heap.size, 1, none⟩ = some (.slice B2 s1.full.length e2) ∧ w'.cell? ⟨w.heap.size, 2, none⟩ = some (.slice B3 s1.stack.length e3) ∧ w'.cell? ⟨w.heap.size, 3, none⟩ = some (.slice B4 s1.memo.length e4) ∧ w'.cell? ⟨w.heap.size, 4, none⟩ = some (.bool s1.done)) [] [(0, 1), (1, 0), (2, 0), (3, 0), (4, 1), (5, 0), (6, 0), (7, 0), (8, 0), (9, 0), (10, 1), (11, 0), (12, 0), (13, 0), (14, 2), (15, 0)] (by kernel_rfl) (by kernel_rfl) rfl (by kernel_rfl) (fun _ _ _ _ h => h) ?_
        generalize hwd : World.drew w5 = w6
        have hb6 := HB.out.ext (show Ext w5 w6 by rw [← hwd]; exact (Ext.rf w5).dr)
        clear hwd HB
        have HB := As.mk hb6
        have hS := And.intro hb6.b.c0 (And.intro hb6.b.c1 (And.intro hb6.b.c2 (And.intro hb6.b.c3 hb6.b.c4)))
        clear hb6
        repeat (first | refine wpP.c0 (h := ?_) | refine wpP.c1 hS (h := ?_) | refine wpP.c0off (h := ?_) | refine wpP.c1off hS (h := ?_))
        refine wpP.ev (h := fun Kv hKv => ?_)
        have d0 := HB.out.r.c0; have d1 := HB.out.r.c1; have d2 := HB.out.r.c2; have d3 := HB.out.r.c3; have d4 := HB.out.r.c4
        have f0 := HB.out.r.fz 0; have f1 := HB.out.r.fz 1; have f2 := HB.out.r.fz 2; have f3 := HB.out.r.fz 3; have f4 := HB.out.r.fz 4
        go_wp2_with fail
        have hbo := (Fr.set5 (S := fun k => k = w.heap.size + 1 + 1) (w := w6) (g := w.heap.size + 1 + 1) rfl (.slice B1 s1.kinds.length e1) (.slice B2 s1.full.length e2) (.slice B3 s1.stack.length e3) (.slice B4 s1.memo.length e4) (.bool s1.done)).blk HB.out.b HB.out.ne
        refine hKv.out _ _ (And.intro (SB.c0 hbo) (And.intro (SB.c1 hbo) (And.intro (SB.c2 hbo) (And.intro (SB.c3 hbo) (SB.c4 hbo))))) ?_
        clear hbo
        clear hKv Kv hS d0 d1 d2 d3 d4 f0 f1 f2 f3 f4
        repeat (first | refine wpP.c0 (h := ?_))
        refine wpP.done ?_
        go_wp2_with fail
        have ho := HB.out.out
        refine bodyPost_ret (results_cellt rfl _ _ (w.heap.size + 1 + 1) _ rfl (loadS ho.1)) rfl ?_
        rw [HQ.out, HRR.out, fit_none (by simp at h2; omega)]
        exact HB.out.tpost none (.inl rfl)
    · refine region_perm (fun w' => w'.cell? ⟨w.heap.size, 0, none⟩ = some (.slice B1 s1.kinds.length e1) ∧ w'.cell? ⟨w.heap.size, 1, none⟩ = some (.slice B2 s1.full.length e2) ∧ w'.cell? ⟨w.heap.size, 2, none⟩ = some (.slice B3 s1.stack.length e3) ∧ w'.cell? ⟨w.heap.size, 3, none⟩ = some (.slice B4 s1.memo.length e4) ∧ w'.cell? ⟨w.heap.size, 4, none⟩ = some (.bool s1.done)) [] [(0, 1), (1, 0), (2, 0), (3, 0), (4, 1), (5, 0), (6, 0), (7, 0), (8, 0), (9, 0), (10, 1), (11, 0), (12, 0), (13, 0), (14, 2), (15, 0)] (by kernel_rfl) (by kernel_rfl) rfl (by kernel_rfl) (fun _ _ _ _ h => h) ?_
      generalize hwd : World.drew w5 = w6
      have hb6 := HB.out.ext (show Ext w5 w6 by rw [← hwd]; exact (Ext.rf w5).dr)
      clear hwd HB
      have HB := As.mk hb6
      have hS := And.intro hb6.b.c0 (And.intro hb6.b.c1 (And.intro hb6.b.c2 (And.intro hb6.b.c3 hb6.b.c4)))
      clear hb6
      repeat (first | refine wpP.c0 (h := ?_) | refine wpP.c1 hS (h := ?_) | refine wpP.c0off (h := ?_) | refine wpP.c1off hS (h := ?_))
      refine wpP.ev (h := fun Kv hKv => ?_)
      have d0 := HB.out.r.c0; have d1 := HB.out.r.c1; have d2 := HB.out.r.c2; have d3 := HB.out.r.c3; have d4 := HB.out.r.c4
      have f0 := HB.out.r.fz 0; have f1 := HB.out.r.fz 1; have f2 := HB.out.r.fz 2; have f3 := HB.out.r.fz 3; have f4 := HB.out.r.fz 4
      go_wp2_with fail
      have hbo := (Fr.set5 (S := fun k => k = w.heap.size + 1 + 1) (w := w6) (g := w.heap.size + 1 + 1) rfl (.slice B1 s1.kinds.length e1) (.slice B2 s1.full.length e2) (.slice B3 s1.stack.length e3) (.slice B4 s1.memo.length e4) (.bool s1.done)).blk HB.out.b HB.out.ne
      refine hKv.out _ _ (And.intro (SB.c0 hbo) (And.intro (SB.c1 hbo) (And.intro (SB.c2 hbo) (And.intro (SB.c3 hbo) (SB.c4 hbo))))) ?_
      clear hbo
      clear hKv Kv hS d0 d1 d2 d3 d4 f0 f1 f2 f3 f4
      repeat (first | refine wpP.c0 (h := ?_))
      refine wpP.done ?_
      go_wp2_with fail
      have ho := HB.out.out
      refine bodyPost_ret (results_cellt rfl _ _ (w.heap.size + 1 + 1) _ rfl (loadS ho.1)) rfl ?_
      rw [HQ.out, HRR.out, fit_none (by simp at h1; omega)]
      exact HB.out.tpost none (.inl rfl)
theorem stepShapes_c (vK vF vS vM : Value) (s : Sh) (o : Opr) (w : World) (hs : SV w vK vF vS vM s) (hok : okS s) (ho : okO o = true) :
    Calls Try.prog 96 #[.agg #[vK, vF, vS, vM, .bool s.done], .agg #[.int .i64 o.code, .int .i64 o.arg]] w (TPost vK vF vS vM (stepS s o) w) := by
  obtain ⟨c, arg⟩ := o
  cases hd : s.done with
  | true =>
    have : stepS s ⟨c, arg⟩ = none := by unfold stepS; rw [hd]; rfl
    rw [this, ← hd]
    exact step_done vK vF vS vM s c arg w hs hok hd
  | false =>
    rw [← hd]
    have hnd : stepS s ⟨c, arg⟩ = fitS (rawS s ⟨c, arg⟩) := by unfold stepS; rw [hd]; rfl
    obtain ⟨n, hn, hc⟩ := code_cases ho
    simp only at hc
    subst hc
    have hnew : ∀ kd, newK n = kd → 0 ≤ kd → Calls Try.prog 96 #[.agg #[vK, vF, vS, vM, .bool s.done], .agg #[.int .i64 n, .int .i64 arg]] w (TPost vK vF vS vM (stepS s ⟨n, arg⟩) w) := by
      intro kd hk h0
      have e : rawS s ⟨n, arg⟩ = some (pushS s kd) := by unfold rawS; simp only; rw [hk, if_pos h0]
      rw [hnd, e]
      exact step_new vK vF vS vM s n arg kd w hs hok hk h0 hd
    match n, hn with
    | 0, _ => exact hnew 0 rfl (by omega)
    | 1, _ => exact hnew 1 rfl (by omega)
    | 4, _ => exact hnew 2 rfl (by omega)
    | 7, _ => exact hnew 3 rfl (by omega)
    | 10, _ => exact hnew 4 rfl (by omega)
    | 13, _ => exact hnew 5 rfl (by omega)
    | 2, _ => rw [hnd]; exact step_2 vK vF vS vM s arg w hs hok hd
    | 16, _ =>
      have h := of_decide_eq_true ho
      obtain ⟨k, rfl⟩ := Int.eq_ofNat_of_zero_le h.2.2.1
      have h19 : (k : Int) ≤ 19 := h.2.2.2
      have e : fitS (rawS s ⟨16, (k : Int)⟩) = memoS s k := by
        show fitS (if s.memo.getD (Int.toNat k) 0 < 0 then none else some { s with stack := s.stack ++ [s.memo.getD (Int.toNat k) 0] }) = _
        unfold memoS
        rw [Int.toNat_natCast]
        split <;> rfl
      rw [hnd]
      show Calls _ _ _ _ (TPost _ _ _ _ (fitS (rawS s ⟨16, (k : Int)⟩)) _)
      rw [e]
      exact step_16 vK vF vS vM s k w hs hok hd (by omega)
    | 3, _ => exact step_3 vK vF vS vM s arg w hs hok hd
    | 9, _ => exact step_9 vK vF vS vM s arg w hs hok hd
    | 12, _ => exact step_12 vK vF vS vM s arg w hs hok hd
    | 18, _ => exact step_18 vK vF vS vM s arg w hs hok hd
    | 5, _ => exact step_5 vK vF vS vM s arg w hs hok hd ho
    | 6, _ => exact step_6 vK vF vS vM s arg w hs hok hd ho
    | 8, _ => exact step_8 vK vF vS vM s arg w hs hok hd ho
    | 11, _ => exact step_11 vK vF vS vM s arg w hs hok hd ho
    | 14, _ => exact step_14 vK vF vS vM s arg w hs hok hd ho
    | 15, _ => exact step_15 vK vF vS vM s arg w hs hok hd ho
    | 17, _ => exact step_17 vK vF vS vM s arg w hs hok hd ho
    | 19, _ => exact step_19 vK vF vS vM s arg w hs hok hd ho
end Go.Proofs.Ytgenllcfpjgklaa.C
