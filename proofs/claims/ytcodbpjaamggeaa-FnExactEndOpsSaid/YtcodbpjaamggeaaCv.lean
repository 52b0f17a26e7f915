/- Shapes in memory: the orders that take from the top of the stack. -/
import Derived.Test.YtcodbpjaamggeaaCu
set_option linter.unusedVariables false
set_option linter.unusedSimpArgs false
namespace Go.Proofs.Ytcodbpjaamggeaa.C
open Go.RowKit Go.Proofs.Ytcodbpjaamggeaa.W Go.Proofs.Ytcodbpjaamggeaa.P

set_option maxRecDepth 100000 in
set_option maxHeartbeats 1000000 in
theorem take_15 (vK vF vS vM : Value) (s : Sh) (arg : Int) (w : World) (hs : SV w vK vF vS vM s) (hok : okS s) (ha0 : 0 ≤ arg) (ha : arg ≤ 19) :
    Calls Try.prog 131 #[.agg #[vK, vF, vS, vM, .bool s.done], .agg #[.int .i64 15, .int .i64 arg]] w (TPost vK vF vS vM (takeS s ⟨15, arg⟩) w) := by
  obtain ⟨AK, cK, AF, cF, AS, cS, AM, cM, rfl, rfl, rfl, rfl, q1, q2, q3, q4, r1, r2, r3, r4⟩ := hs.rd hok.siz.k hok.siz.f hok.siz.t hok.siz.m
  have hsl := hok.sl
  have hn := Box.new2 hs 15 arg
  have HN := As.mk hn
  have HS := As.mk hs
  have HOK := As.mk hok
  clear hs hn hok r1 r2 r3 r4
  go_enter Try.func131, Try.ntmps131
  go_upto_region 1 with fail
  generalize ((w.alloc (.cells #[.slice AK s.kinds.length cK, .slice AF s.full.length cF, .slice AS s.stack.length cS, .slice AM s.memo.length cM, .bool s.done] 51)).alloc (.cells #[.int .i64 15, .int .i64 arg] 82)).alloc (.cells #[.slice none 0 0, .slice none 0 0, .slice none 0 0, .slice none 0 0, .bool false] 51) = w1 at HN ⊢
  have hb := HN.out.1
  have HO := As.mk HN.out.2
  clear HN
  have HB := As.mk hb; have c0 := hb.b.c0; have c1 := hb.b.c1; have c2 := hb.b.c2; have c3 := hb.b.c3; have c4 := hb.b.c4; clear hb
  go_upto_region 2 with (go_at_call 87; refine (shapeAt_i _ _ _ _ _ _ _ _ _ _ _ s _ _ (rdA_I HB.out.v.k HOK.out.siz.k) (rdA_I HB.out.v.t HOK.out.siz.t) HOK.out.lt (by omega) (by omega)).mono ?_; rintro e w2 ⟨z0, rfl, hz, he⟩; have HZ0 := As.mk hz; have hb := HB.out.ext he; have HO2 := As.mk (he.blk HO.out); clear hz he HO)
  clear c0 c1 c2 c3 c4 HB
  have HO := HO2
  clear HO2
  have HB := As.mk hb; have c0 := hb.b.c0; have c1 := hb.b.c1; have c2 := hb.b.c2; have c3 := hb.b.c3; have c4 := hb.b.c4; clear hb
  go_upto_region 3 with (go_at_call 87; refine (shapeAt_i _ _ _ _ _ _ _ _ _ _ _ s _ _ (rdA_I HB.out.v.k HOK.out.siz.k) (rdA_I HB.out.v.t HOK.out.siz.t) HOK.out.lt (by omega) (by omega)).mono ?_; rintro e w3 ⟨z1, rfl, hz, he⟩; have HZ1 := As.mk hz; have hb := HB.out.ext he; have HO2 := As.mk (he.blk HO.out); clear hz he HO)
  clear c0 c1 c2 c3 c4 HB
  have HO := HO2
  clear HO2
  have HB := As.mk hb; have c0 := hb.b.c0; have c1 := hb.b.c1; have c2 := hb.b.c2; have c3 := hb.b.c3; have c4 := hb.b.c4; clear hb
  have HZ0 : As (z0 = atS s 0) := HZ0
  have HZ1 : As (z1 = atS s 1) := HZ1
  have o0 := OB.c0 HO.out
  have o1 := OB.c1 HO.out
  have d0 := HB.out.r.c0; have d1 := HB.out.r.c1; have d2 := HB.out.r.c2; have d3 := HB.out.r.c3; have d4 := HB.out.r.c4
  have f0 := HB.out.r.fz 0; have f1 := HB.out.r.fz 1; have f2 := HB.out.r.fz 2; have f3 := HB.out.r.fz 3; have f4 := HB.out.r.fz 4
  have fs := HB.out.b.fz 2
  rcases bcase (0 ≤ z0) with h0 | h0
  · have hl0 := atS_nonneg (s := s) (d := 0) (by rw [← HZ0.out]; exact h0)
    have hlen := hl0.1
    have HL0 := As.mk hl0
    clear hl0
    obtain ⟨k, rfl⟩ := Int.eq_ofNat_of_zero_le ha0
    have hk : k < s.memo.length := by have := HOK.out.ml; omega
    obtain ⟨aM, rfl, m1⟩ := (rdA_I HB.out.v.m HOK.out.siz.m).2 k hk
    obtain ⟨aS, rfl, m2⟩ := (rdA_I HB.out.v.t HOK.out.siz.t).2 (s.stack.length - 1) (by omega)
    have hsx : s.stack[s.stack.length - 1] = st s.stack 0 := (st_at _ _ hlen).symm
    rw [hsx] at m2
    obtain ⟨x, hx⟩ : ∃ x, x = st s.stack 0 := ⟨_, rfl⟩
    rw [← hx] at m2
    have HX := As.mk hx
    clear hx hsx
    have hb2 := HB.out.mset k x
    have HB2 := As.mk hb2
    clear hb2
    have hx1 : ((s.stack.length : Int) - 1).toNat = s.stack.length - 1 := by omega
    have hx2 : 0 ≤ (s.stack.length : Int) - 1 := by omega
    have hx3 : (s.stack.length : Int) - 1 < s.stack.length := by omega
    have hx4 : (k : Int) < s.memo.length := by omega
    have hx5 : 1 ≤ (s.stack.length : Int) := by omega
    have hx6 : IntKind.i64.wrap ((s.stack.length : Int) - 1) = (s.stack.length : Int) - 1 := wrapI _ (by omega) (by omega)
    have hf5 : w3.frozen? (aM.add k) = false := by
      obtain ⟨gM, rfl⟩ := own_ad HB.out.v.m
      rcases HB.out.v.m.2 with ⟨hv, _⟩ | ⟨g, cap, cur, hv, _, hh, _⟩
      · exact nomatch hv
      · injection hv with hv; injection hv with hv; injection hv with hv; subst hv
        rw [(add_at gM k 0).1]
        simp [World.frozen?, hh]
    have hsl1 := slice_toA (some aS) s.stack.length cS q3
    go_upto_region 27 with fail
    refine region_perm (fun w' => w'.cell? ⟨w.heap.size, 3, none⟩ = some (.slice (some aM) s.memo.length cM) ∧ w'.cell? ⟨w.heap.size + 1, 1, none⟩ = some (.int .i64 k) ∧ w'.cell? ⟨w.heap.size, 2, none⟩ = some (.slice (some aS) s.stack.length cS) ∧ w'.cell? (aS.add (s.stack.length - 1)) = some (.int .i64 x)) [13] [(0, 0), (1, 1), (2, 0), (3, 1), (4, 0), (5, 1), (6, 0), (7, 1), (8, 0), (9, 0), (10, 0), (11, 1), (12, 0), (13, 3)] (by kernel_rfl) (by kernel_rfl) rfl (by kernel_rfl) (fun _ _ _ _ h => h) ?_
    have hS := And.intro c3 (And.intro o1 (And.intro c2 m2))
    repeat (first | refine wpP.c0 (h := ?_) | refine wpP.c1 (w := w3.drew) hS (h := ?_))
    refine wpP.last (h := fun Kv hKv => ?_)
    go_wp2_with fail
    refine hKv.out _ _ (wpP.done ?_)
    clear hKv Kv hS c0 c1 c2 c3 c4 d0 d1 d2 d3 d4 f0 f1 f2 f3 f4 fs o0 o1 m1 m2 hf5
    have hb4 := HB2.out.ext (Ext.rf _).dr
    clear HB2 HB
    generalize (w3.setCell (aM.add k) (.int .i64 x)).drew = w4 at hb4 ⊢
    have HB4 := As.mk hb4
    have c0 := hb4.b.c0; have c1 := hb4.b.c1; have c2 := hb4.b.c2; have c3 := hb4.b.c3; have c4 := hb4.b.c4
    have d0 := hb4.r.c0; have d1 := hb4.r.c1; have d2 := hb4.r.c2; have d3 := hb4.r.c3; have d4 := hb4.r.c4
    have f0 := hb4.r.fz 0; have f1 := hb4.r.fz 1; have f2 := hb4.r.fz 2; have f3 := hb4.r.fz 3; have f4 := hb4.r.fz 4
    have fs := hb4.b.fz 2
    have hb3 := Box.same hb4
    have HB3 := As.mk hb3
    clear hb3 hb4
    go_wp2_with fail
    have ho := HB3.out.out
    refine bodyPost_ret (results_cellt rfl _ _ (w.heap.size + 1 + 1) _ rfl (loadS ho.1)) rfl ?_
    have hr : takeS s ⟨15, (k : Int)⟩ = some { s with memo := s.memo.set k (st s.stack 0) } := by show (if atS s 0 < 0 then none else some { s with memo := s.memo.set (Int.toNat k) (st s.stack 0) }) = _; exact if_neg (by rw [← HZ0.out]; omega)
    rw [hr]
    exact HB3.out.tpost _ (.inr (by rw [HX.out]))
  · go_wp2_with fail
    have ho := HB.out.out
    refine bodyPost_ret (results_cellt rfl _ _ (w.heap.size + 1 + 1) _ rfl (loadS ho.1)) rfl ?_
    have hr : takeS s ⟨15, arg⟩ = none := by unfold takeS; exact if_pos (by rw [← HZ0.out]; simpa using h0)
    rw [hr]
    exact HB.out.tpost _ (.inl rfl)
set_option maxRecDepth 100000 in
set_option maxHeartbeats 1000000 in
theorem take_19 (vK vF vS vM : Value) (s : Sh) (arg : Int) (w : World) (hs : SV w vK vF vS vM s) (hok : okS s) :
    Calls Try.prog 131 #[.agg #[vK, vF, vS, vM, .bool s.done], .agg #[.int .i64 19, .int .i64 arg]] w (TPost vK vF vS vM (takeS s ⟨19, arg⟩) w) := by
  obtain ⟨AK, cK, AF, cF, AS, cS, AM, cM, rfl, rfl, rfl, rfl, q1, q2, q3, q4, r1, r2, r3, r4⟩ := hs.rd hok.siz.k hok.siz.f hok.siz.t hok.siz.m
  have hsl := hok.sl
  have hn := Box.new2 hs 19 arg
  have HN := As.mk hn
  have HS := As.mk hs
  have HOK := As.mk hok
  clear hs hn hok r1 r2 r3 r4
  go_enter Try.func131, Try.ntmps131
  go_upto_region 1 with fail
  generalize ((w.alloc (.cells #[.slice AK s.kinds.length cK, .slice AF s.full.length cF, .slice AS s.stack.length cS, .slice AM s.memo.length cM, .bool s.done] 51)).alloc (.cells #[.int .i64 19, .int .i64 arg] 82)).alloc (.cells #[.slice none 0 0, .slice none 0 0, .slice none 0 0, .slice none 0 0, .bool false] 51) = w1 at HN ⊢
  have hb := HN.out.1
  have HO := As.mk HN.out.2
  clear HN
  have HB := As.mk hb; have c0 := hb.b.c0; have c1 := hb.b.c1; have c2 := hb.b.c2; have c3 := hb.b.c3; have c4 := hb.b.c4; clear hb
  go_upto_region 2 with (go_at_call 87; refine (shapeAt_i _ _ _ _ _ _ _ _ _ _ _ s _ _ (rdA_I HB.out.v.k HOK.out.siz.k) (rdA_I HB.out.v.t HOK.out.siz.t) HOK.out.lt (by omega) (by omega)).mono ?_; rintro e w2 ⟨z0, rfl, hz, he⟩; have HZ0 := As.mk hz; have hb := HB.out.ext he; have HO2 := As.mk (he.blk HO.out); clear hz he HO)
  clear c0 c1 c2 c3 c4 HB
  have HO := HO2
  clear HO2
  have HB := As.mk hb; have c0 := hb.b.c0; have c1 := hb.b.c1; have c2 := hb.b.c2; have c3 := hb.b.c3; have c4 := hb.b.c4; clear hb
  go_upto_region 3 with (go_at_call 87; refine (shapeAt_i _ _ _ _ _ _ _ _ _ _ _ s _ _ (rdA_I HB.out.v.k HOK.out.siz.k) (rdA_I HB.out.v.t HOK.out.siz.t) HOK.out.lt (by omega) (by omega)).mono ?_; rintro e w3 ⟨z1, rfl, hz, he⟩; have HZ1 := As.mk hz; have hb := HB.out.ext he; have HO2 := As.mk (he.blk HO.out); clear hz he HO)
  clear c0 c1 c2 c3 c4 HB
  have HO := HO2
  clear HO2
  have HB := As.mk hb; have c0 := hb.b.c0; have c1 := hb.b.c1; have c2 := hb.b.c2; have c3 := hb.b.c3; have c4 := hb.b.c4; clear hb
  have HZ0 : As (z0 = atS s 0) := HZ0
  have HZ1 : As (z1 = atS s 1) := HZ1
  have o0 := OB.c0 HO.out
  have o1 := OB.c1 HO.out
  have d0 := HB.out.r.c0; have d1 := HB.out.r.c1; have d2 := HB.out.r.c2; have d3 := HB.out.r.c3; have d4 := HB.out.r.c4
  have f0 := HB.out.r.fz 0; have f1 := HB.out.r.fz 1; have f2 := HB.out.r.fz 2; have f3 := HB.out.r.fz 3; have f4 := HB.out.r.fz 4
  have fs := HB.out.b.fz 2
  rcases bcase (0 ≤ z0) with h0 | h0
  · have hl0 := atS_nonneg (s := s) (d := 0) (by rw [← HZ0.out]; exact h0)
    have hlen := hl0.1
    have HL0 := As.mk hl0
    clear hl0
    have hbd := HB.out.dn true
    have HD := As.mk hbd
    clear hbd
    have hfd := HB.out.b.fz 4
    have hsl1 := slice_toA AS s.stack.length cS q3
    rcases bceq (s.stack.length : Int) 1 with h1 | h1
    · have h1n : s.stack.length = 1 := by omega
      have hb5 := Box.same HD.out
      have HB5 := As.mk hb5
      have H1 := As.mk h1n
      have h1b : ((s.stack.length : Int) == 1) = true := by rw [beq_iff_eq]; exact h1
      clear hb5 h1n h1
      go_wp2_with fail
      have ho := HB5.out.out
      refine bodyPost_ret (results_cellt rfl _ _ (w.heap.size + 1 + 1) _ rfl (loadS ho.1)) rfl ?_
      have hr : takeS s ⟨19, arg⟩ = some { s with done := true } := by show (if atS s 0 < 0 then none else if s.stack.length = 1 then some { s with done := true } else none) = _; rw [if_neg (by rw [← HZ0.out]; omega), if_pos H1.out]
      rw [hr]
      exact HB5.out.tpost _ (.inr rfl)
    · go_wp2_with fail
      have ho := HD.out.out
      refine bodyPost_ret (results_cellt rfl _ _ (w.heap.size + 1 + 1) _ rfl (loadS ho.1)) rfl ?_
      have hr : takeS s ⟨19, arg⟩ = none := by show (if atS s 0 < 0 then none else if s.stack.length = 1 then some { s with done := true } else none) = _; rw [if_neg (by rw [← HZ0.out]; omega), if_neg (by simp at h1; omega)]
      rw [hr]
      exact HD.out.tpost none (.inl rfl)
  · have hbd := HB.out.dn true
    have HD := As.mk hbd
    clear hbd
    have hfd := HB.out.b.fz 4
    go_wp2_with fail
    have ho := HD.out.out
    refine bodyPost_ret (results_cellt rfl _ _ (w.heap.size + 1 + 1) _ rfl (loadS ho.1)) rfl ?_
    have hr : takeS s ⟨19, arg⟩ = none := by unfold takeS; exact if_pos (by rw [← HZ0.out]; simpa using h0)
    rw [hr]
    exact HD.out.tpost none (.inl rfl)
set_option maxRecDepth 100000 in
set_option maxHeartbeats 1000000 in
theorem take_11 (vK vF vS vM : Value) (s : Sh) (arg : Int) (w : World) (hs : SV w vK vF vS vM s) (hok : okS s) :
    Calls Try.prog 131 #[.agg #[vK, vF, vS, vM, .bool s.done], .agg #[.int .i64 11, .int .i64 arg]] w (TPost vK vF vS vM (takeS s ⟨11, arg⟩) w) := by
  obtain ⟨AK, cK, AF, cF, AS, cS, AM, cM, rfl, rfl, rfl, rfl, q1, q2, q3, q4, r1, r2, r3, r4⟩ := hs.rd hok.siz.k hok.siz.f hok.siz.t hok.siz.m
  have hsl := hok.sl
  have hn := Box.new2 hs 11 arg
  have HN := As.mk hn
  have HS := As.mk hs
  have HOK := As.mk hok
  clear hs hn hok r1 r2 r3 r4
  go_enter Try.func131, Try.ntmps131
  go_upto_region 1 with fail
  generalize ((w.alloc (.cells #[.slice AK s.kinds.length cK, .slice AF s.full.length cF, .slice AS s.stack.length cS, .slice AM s.memo.length cM, .bool s.done] 51)).alloc (.cells #[.int .i64 11, .int .i64 arg] 82)).alloc (.cells #[.slice none 0 0, .slice none 0 0, .slice none 0 0, .slice none 0 0, .bool false] 51) = w1 at HN ⊢
  have hb := HN.out.1
  have HO := As.mk HN.out.2
  clear HN
  have HB := As.mk hb; have c0 := hb.b.c0; have c1 := hb.b.c1; have c2 := hb.b.c2; have c3 := hb.b.c3; have c4 := hb.b.c4; clear hb
  go_upto_region 2 with (go_at_call 87; refine (shapeAt_i _ _ _ _ _ _ _ _ _ _ _ s _ _ (rdA_I HB.out.v.k HOK.out.siz.k) (rdA_I HB.out.v.t HOK.out.siz.t) HOK.out.lt (by omega) (by omega)).mono ?_; rintro e w2 ⟨z0, rfl, hz, he⟩; have HZ0 := As.mk hz; have hb := HB.out.ext he; have HO2 := As.mk (he.blk HO.out); clear hz he HO)
  clear c0 c1 c2 c3 c4 HB
  have HO := HO2
  clear HO2
  have HB := As.mk hb; have c0 := hb.b.c0; have c1 := hb.b.c1; have c2 := hb.b.c2; have c3 := hb.b.c3; have c4 := hb.b.c4; clear hb
  go_upto_region 3 with (go_at_call 87; refine (shapeAt_i _ _ _ _ _ _ _ _ _ _ _ s _ _ (rdA_I HB.out.v.k HOK.out.siz.k) (rdA_I HB.out.v.t HOK.out.siz.t) HOK.out.lt (by omega) (by omega)).mono ?_; rintro e w3 ⟨z1, rfl, hz, he⟩; have HZ1 := As.mk hz; have hb := HB.out.ext he; have HO2 := As.mk (he.blk HO.out); clear hz he HO)
  clear c0 c1 c2 c3 c4 HB
  have HO := HO2
  clear HO2
  have HB := As.mk hb; have c0 := hb.b.c0; have c1 := hb.b.c1; have c2 := hb.b.c2; have c3 := hb.b.c3; have c4 := hb.b.c4; clear hb
  have HZ0 : As (z0 = atS s 0) := HZ0
  have HZ1 : As (z1 = atS s 1) := HZ1
  have o0 := OB.c0 HO.out
  have o1 := OB.c1 HO.out
  have d0 := HB.out.r.c0; have d1 := HB.out.r.c1; have d2 := HB.out.r.c2; have d3 := HB.out.r.c3; have d4 := HB.out.r.c4
  have f0 := HB.out.r.fz 0; have f1 := HB.out.r.fz 1; have f2 := HB.out.r.fz 2; have f3 := HB.out.r.fz 3; have f4 := HB.out.r.fz 4
  have fs := HB.out.b.fz 2
  rcases bcase (0 ≤ z0) with h0 | h0
  · have hl0 := atS_nonneg (s := s) (d := 0) (by rw [← HZ0.out]; exact h0)
    have hlen := hl0.1
    have HL0 := As.mk hl0
    clear hl0
    cases hkk : keyK z1 with
    | false =>
      have HKK := As.mk hkk
      clear hkk
      go_upto_region 20 with (first | (go_at_call 152; refine (keyKind_c _ _).mono ?_; rw [HKK.out]; rintro e w4 ⟨rfl, rfl⟩) | (go_at_call 87; refine (shapeAt_i _ _ _ _ _ _ _ _ _ _ _ s _ _ (rdA_I HB.out.v.k HOK.out.siz.k) (rdA_I HB.out.v.t HOK.out.siz.t) HOK.out.lt (by omega) (by omega)).mono ?_; rintro e w4 ⟨z2, rfl, hz, he⟩; have HZ2 := As.mk hz; have hb := HB.out.ext he; have HB4 := As.mk hb; clear hz he hb))
      go_wp2_with fail
      have ho := HB.out.out
      refine bodyPost_ret (results_cellt rfl _ _ (w.heap.size + 1 + 1) _ rfl (loadS ho.1)) rfl ?_
      have hr : takeS s ⟨11, arg⟩ = none := by show (if atS s 0 < 0 then none else if keyK (atS s 1) = true ∧ atS s 2 = 4 then some (cutS s 2) else none) = _; rw [if_neg (by rw [← HZ0.out]; omega), if_neg (fun h => by rw [← HZ1.out, HKK.out] at h; exact Bool.false_ne_true h.1)]
      rw [hr]
      exact HB.out.tpost _ (.inl rfl)
    | true =>
      have HKK := As.mk hkk
      clear hkk
      go_upto_region 20 with (first | (go_at_call 152; refine (keyKind_c _ _).mono ?_; rw [HKK.out]; rintro e w4 ⟨rfl, rfl⟩) | (go_at_call 87; refine (shapeAt_i _ _ _ _ _ _ _ _ _ _ _ s _ _ (rdA_I HB.out.v.k HOK.out.siz.k) (rdA_I HB.out.v.t HOK.out.siz.t) HOK.out.lt (by omega) (by omega)).mono ?_; rintro e w4 ⟨z2, rfl, hz, he⟩; have HZ2 := As.mk hz; have hb := HB.out.ext he; have HB4 := As.mk hb; clear hz he hb))
      clear c0 c1 c2 c3 c4 d0 d1 d2 d3 d4 f0 f1 f2 f3 f4 fs o0 o1
      have HZ2 : As (z2 = atS s 2) := HZ2
      have hb4 := HB4.out
      have HB4 := As.mk hb4
      have c0 := hb4.b.c0; have c1 := hb4.b.c1; have c2 := hb4.b.c2; have c3 := hb4.b.c3; have c4 := hb4.b.c4
      have d0 := hb4.r.c0; have d1 := hb4.r.c1; have d2 := hb4.r.c2; have d3 := hb4.r.c3; have d4 := hb4.r.c4
      have f0 := hb4.r.fz 0; have f1 := hb4.r.fz 1; have f2 := hb4.r.fz 2; have f3 := hb4.r.fz 3; have f4 := hb4.r.fz 4
      have fs := hb4.b.fz 2
      have hb3 := hb4
      have HB3 := As.mk hb3
      clear hb3 hb4
      rcases bceq z2 4 with h1 | h1
      · have h13 : atS s 2 = 4 := by rw [← HZ2.out]; exact h1
        have hlen1 := (atS_nonneg (s := s) (d := 2) (by rw [h13]; omega)).1
        have H13 := As.mk h13
        clear h13 HZ2
        have hsl1 := slice_toI AS s.stack.length cS 2 (by omega) q3
        have hb2 := HB4.out.cut 2
        have HB2 := As.mk hb2
        clear hb2
        subst h1
        go_wp2_with fail
        have ho := HB2.out.out
        refine bodyPost_ret (results_cellt rfl _ _ (w.heap.size + 1 + 1) _ rfl (loadS ho.1)) rfl ?_
        have hr : takeS s ⟨11, arg⟩ = some (cutS s 2) := by show (if atS s 0 < 0 then none else if keyK (atS s 1) = true ∧ atS s 2 = 4 then some (cutS s 2) else none) = _; rw [if_neg (by rw [← HZ0.out]; omega), if_pos ⟨by rw [← HZ1.out]; exact HKK.out, H13.out⟩]
        rw [hr]
        exact HB2.out.tpost _ (.inr rfl)
      · go_wp2_with fail
        have ho := HB4.out.out
        refine bodyPost_ret (results_cellt rfl _ _ (w.heap.size + 1 + 1) _ rfl (loadS ho.1)) rfl ?_
        have hr : takeS s ⟨11, arg⟩ = none := by show (if atS s 0 < 0 then none else if keyK (atS s 1) = true ∧ atS s 2 = 4 then some (cutS s 2) else none) = _; rw [if_neg (by rw [← HZ0.out]; omega), if_neg (fun h => by rw [← HZ2.out] at h; have := h.2; simp at h1; exact h1 this)]
        rw [hr]
        exact HB4.out.tpost _ (.inl rfl)
  · go_wp2_with fail
    have ho := HB.out.out
    refine bodyPost_ret (results_cellt rfl _ _ (w.heap.size + 1 + 1) _ rfl (loadS ho.1)) rfl ?_
    have hr : takeS s ⟨11, arg⟩ = none := by unfold takeS; exact if_pos (by rw [← HZ0.out]; simpa using h0)
    rw [hr]
    exact HB.out.tpost _ (.inl rfl)
set_option maxRecDepth 100000 in
set_option maxHeartbeats 1000000 in
theorem take_14 (vK vF vS vM : Value) (s : Sh) (arg : Int) (w : World) (hs : SV w vK vF vS vM s) (hok : okS s) :
    Calls Try.prog 131 #[.agg #[vK, vF, vS, vM, .bool s.done], .agg #[.int .i64 14, .int .i64 arg]] w (TPost vK vF vS vM (takeS s ⟨14, arg⟩) w) := by
  obtain ⟨AK, cK, AF, cF, AS, cS, AM, cM, rfl, rfl, rfl, rfl, q1, q2, q3, q4, r1, r2, r3, r4⟩ := hs.rd hok.siz.k hok.siz.f hok.siz.t hok.siz.m
  have hsl := hok.sl
  have hn := Box.new2 hs 14 arg
  have HN := As.mk hn
  have HS := As.mk hs
  have HOK := As.mk hok
  clear hs hn hok r1 r2 r3 r4
  go_enter Try.func131, Try.ntmps131
  go_upto_region 1 with fail
  generalize ((w.alloc (.cells #[.slice AK s.kinds.length cK, .slice AF s.full.length cF, .slice AS s.stack.length cS, .slice AM s.memo.length cM, .bool s.done] 51)).alloc (.cells #[.int .i64 14, .int .i64 arg] 82)).alloc (.cells #[.slice none 0 0, .slice none 0 0, .slice none 0 0, .slice none 0 0, .bool false] 51) = w1 at HN ⊢
  have hb := HN.out.1
  have HO := As.mk HN.out.2
  clear HN
  have HB := As.mk hb; have c0 := hb.b.c0; have c1 := hb.b.c1; have c2 := hb.b.c2; have c3 := hb.b.c3; have c4 := hb.b.c4; clear hb
  go_upto_region 2 with (go_at_call 87; refine (shapeAt_i _ _ _ _ _ _ _ _ _ _ _ s _ _ (rdA_I HB.out.v.k HOK.out.siz.k) (rdA_I HB.out.v.t HOK.out.siz.t) HOK.out.lt (by omega) (by omega)).mono ?_; rintro e w2 ⟨z0, rfl, hz, he⟩; have HZ0 := As.mk hz; have hb := HB.out.ext he; have HO2 := As.mk (he.blk HO.out); clear hz he HO)
  clear c0 c1 c2 c3 c4 HB
  have HO := HO2
  clear HO2
  have HB := As.mk hb; have c0 := hb.b.c0; have c1 := hb.b.c1; have c2 := hb.b.c2; have c3 := hb.b.c3; have c4 := hb.b.c4; clear hb
  go_upto_region 3 with (go_at_call 87; refine (shapeAt_i _ _ _ _ _ _ _ _ _ _ _ s _ _ (rdA_I HB.out.v.k HOK.out.siz.k) (rdA_I HB.out.v.t HOK.out.siz.t) HOK.out.lt (by omega) (by omega)).mono ?_; rintro e w3 ⟨z1, rfl, hz, he⟩; have HZ1 := As.mk hz; have hb := HB.out.ext he; have HO2 := As.mk (he.blk HO.out); clear hz he HO)
  clear c0 c1 c2 c3 c4 HB
  have HO := HO2
  clear HO2
  have HB := As.mk hb; have c0 := hb.b.c0; have c1 := hb.b.c1; have c2 := hb.b.c2; have c3 := hb.b.c3; have c4 := hb.b.c4; clear hb
  have HZ0 : As (z0 = atS s 0) := HZ0
  have HZ1 : As (z1 = atS s 1) := HZ1
  have o0 := OB.c0 HO.out
  have o1 := OB.c1 HO.out
  have d0 := HB.out.r.c0; have d1 := HB.out.r.c1; have d2 := HB.out.r.c2; have d3 := HB.out.r.c3; have d4 := HB.out.r.c4
  have f0 := HB.out.r.fz 0; have f1 := HB.out.r.fz 1; have f2 := HB.out.r.fz 2; have f3 := HB.out.r.fz 3; have f4 := HB.out.r.fz 4
  have fs := HB.out.b.fz 2
  rcases bcase (0 ≤ z0) with h0 | h0
  · have hl0 := atS_nonneg (s := s) (d := 0) (by rw [← HZ0.out]; exact h0)
    have hlen := hl0.1
    have HL0 := As.mk hl0
    clear hl0
    rcases bceq z1 5 with h1 | h1
    · have h13 : atS s 1 = 5 := by rw [← HZ1.out]; exact h1
      have hs1 := atS_nonneg (s := s) (d := 1) (by rw [h13]; omega)
      have hlen1 := hs1.1
      have H13 := As.mk h13
      obtain ⟨k, hk⟩ := Int.eq_ofNat_of_zero_le hs1.2
      have hkl : k < s.kinds.length := by have := HOK.out.lt _ (st_mem _ _ hlen1); omega
      have hkf : k < s.full.length := by have := HOK.out.fl; omega
      obtain ⟨aF, rfl, m1⟩ := (rdA_B HB.out.v.f HOK.out.siz.f).2 k hkf
      obtain ⟨aS, rfl, m2⟩ := (rdA_I HB.out.v.t HOK.out.siz.t).2 (s.stack.length - 1 - 1) (by omega)
      rw [← st_at s.stack 1 hlen1, hk] at m2
      obtain ⟨b, hb⟩ : ∃ b, b = s.full[k] := ⟨_, rfl⟩
      rw [← hb] at m1
      have HK := As.mk hk
      have HBB : As (s.full.getD k false = b) := ⟨by rw [hb, List.getD_eq_getElem?_getD, List.getElem?_eq_getElem hkf]; rfl⟩
      clear h13 HZ1 hs1 hk hb
      subst h1
      have hx1 : ((s.stack.length : Int) - 2).toNat = s.stack.length - 1 - 1 := by omega
      have hx2 : 0 ≤ (s.stack.length : Int) - 2 := by omega
      have hx3 : (s.stack.length : Int) - 2 < s.stack.length := by omega
      have hx4 : (k : Int) < s.full.length := by omega
      have hx5 : 2 ≤ (s.stack.length : Int) := by omega
      have hx6 : IntKind.i64.wrap ((s.stack.length : Int) - 2) = (s.stack.length : Int) - 2 := wrapI _ (by omega) (by omega)
      cases b with
      | true =>
        go_upto_region 22 with fail
        go_quiet (fail)
        generalize hwq : World.drewN w3 _ = w4
        have hbq := HB.out.ext (show Ext w3 w4 by rw [← hwq]; exact (Ext.rf w3).dN _)
        clear hwq c0 c1 c2 c3 c4 d0 d1 d2 d3 d4 f0 f1 f2 f3 f4 fs o0 o1 HB
        have HB4 := As.mk hbq
        have c0 := hbq.b.c0; have c1 := hbq.b.c1; have c2 := hbq.b.c2; have c3 := hbq.b.c3; have c4 := hbq.b.c4
        have d0 := hbq.r.c0; have d1 := hbq.r.c1; have d2 := hbq.r.c2; have d3 := hbq.r.c3; have d4 := hbq.r.c4
        have f0 := hbq.r.fz 0; have f1 := hbq.r.fz 1; have f2 := hbq.r.fz 2; have f3 := hbq.r.fz 3; have f4 := hbq.r.fz 4
        have fs := hbq.b.fz 2
        have hb3 := hbq
        have HB3 := As.mk hb3
        clear hb3 hbq
        go_wp2_with fail
        have ho := HB4.out.out
        refine bodyPost_ret (results_cellt rfl _ _ (w.heap.size + 1 + 1) _ rfl (loadS ho.1)) rfl ?_
        have hr : takeS s ⟨14, arg⟩ = none := by show (if atS s 0 < 0 then none else if atS s 1 = 5 ∧ s.full.getD (st s.stack 1).toNat false = false then some { cutS s 1 with full := s.full.set (st s.stack 1).toNat true } else none) = _; rw [if_neg (by rw [← HZ0.out]; omega), if_neg (fun h => by rw [HK.out, Int.toNat_natCast, HBB.out] at h; exact Bool.false_ne_true h.2.symm)]
        rw [hr]
        exact HB4.out.tpost _ (.inl rfl)
      | false =>
        have hsl1 := slice_toI (some aS) s.stack.length cS 1 (by omega) q3
        have hf5 : w3.frozen? (aF.add k) = false := by
          have hf : World.ownsRow w3 0 4 1 (.slice (some aF) s.full.length cF) s.full.length (bools s.full) := HB.out.v.f
          obtain ⟨gM, rfl⟩ := own_ad hf
          rcases hf.2 with ⟨hv, _⟩ | ⟨g, cap, cur, hv, _, hh, _⟩
          · exact nomatch hv
          · injection hv with hv; injection hv with hv; injection hv with hv; subst hv
            rw [(add_at gM k 0).1]
            simp [World.frozen?, hh]
        have m3 := m1
        go_upto_region 22 with fail
        go_quiet (fail)
        go_upto_region 24 with fail
        generalize hwq : World.drewN w3 _ = w4
        have he4 : Ext w3 w4 := by rw [← hwq]; exact (Ext.rf w3).dN _
        have hb2 := (HB.out.ext he4).fset k true
        have HB2 := As.mk hb2
        have g1 := he4.cellOf c1; have g2 := he4.cellOf c2; have g3 := he4.cellOf m2; have g4 := he4.cellOf m1
        have hf6 : w4.frozen? (aF.add k) = false := by rw [← hwq]; exact hf5
        clear hb2 hwq c0 c1 c2 c3 c4 d0 d1 d2 d3 d4 f0 f1 f2 f3 f4 fs o0 o1 m1 m2 m3 hf5
        refine region_perm (fun w' => w'.cell? ⟨w.heap.size, 1, none⟩ = some (.slice (some aF) s.full.length cF) ∧ w'.cell? ⟨w.heap.size, 2, none⟩ = some (.slice (some aS) s.stack.length cS) ∧ w'.cell? (aS.add (s.stack.length - 1 - 1)) = some (.int .i64 k)) [11] [(0, 0), (1, 1), (2, 0), (3, 1), (4, 0), (5, 1), (6, 0), (7, 0), (8, 0), (9, 1), (10, 0), (11, 3)] (by kernel_rfl) (by kernel_rfl) rfl (by kernel_rfl) (fun _ _ _ _ h => h) ?_
        have hS := And.intro g1 (And.intro g2 g3)
        repeat (first | refine wpP.c0 (h := ?_) | refine wpP.c1 (w := w4.drew) hS (h := ?_))
        refine wpP.last (h := fun Kv hKv => ?_)
        go_wp2_with fail
        refine hKv.out _ _ (wpP.done ?_)
        clear hKv Kv hS g1 g2 g3 g4 hf6
        have hb4 := HB2.out.ext (Ext.rf _).dr
        clear HB2 HB he4
        generalize (w4.setCell (aF.add k) (.bool true)).drew = w5 at hb4 ⊢
        have HB4 := As.mk hb4
        have c0 := hb4.b.c0; have c1 := hb4.b.c1; have c2 := hb4.b.c2; have c3 := hb4.b.c3; have c4 := hb4.b.c4
        have d0 := hb4.r.c0; have d1 := hb4.r.c1; have d2 := hb4.r.c2; have d3 := hb4.r.c3; have d4 := hb4.r.c4
        have f0 := hb4.r.fz 0; have f1 := hb4.r.fz 1; have f2 := hb4.r.fz 2; have f3 := hb4.r.fz 3; have f4 := hb4.r.fz 4
        have fs := hb4.b.fz 2
        have hb3 := Box.cut (s := { s with full := s.full.set k true }) hb4 1
        have HB3 := As.mk hb3
        clear hb3 hb4
        go_wp2_with fail
        have ho := HB3.out.out
        refine bodyPost_ret (results_cellt rfl _ _ (w.heap.size + 1 + 1) _ rfl (loadS ho.1)) rfl ?_
        have hr : takeS s ⟨14, arg⟩ = some { cutS s 1 with full := s.full.set (st s.stack 1).toNat true } := by show (if atS s 0 < 0 then none else if atS s 1 = 5 ∧ s.full.getD (st s.stack 1).toNat false = false then some { cutS s 1 with full := s.full.set (st s.stack 1).toNat true } else none) = _; rw [if_neg (by rw [← HZ0.out]; omega), if_pos ⟨H13.out, by rw [HK.out, Int.toNat_natCast]; exact HBB.out⟩]
        rw [hr]
        exact HB3.out.tpost _ (.inr (by rw [HK.out]; rfl))
    · have h1' := h1
      go_upto_region 22 with fail
      go_quiet (fail)
      generalize hwq : World.drewN w3 _ = w4
      have hbq := HB.out.ext (show Ext w3 w4 by rw [← hwq]; exact (Ext.rf w3).dN _)
      clear hwq c0 c1 c2 c3 c4 d0 d1 d2 d3 d4 f0 f1 f2 f3 f4 fs o0 o1 HB
      have HB4 := As.mk hbq
      have c0 := hbq.b.c0; have c1 := hbq.b.c1; have c2 := hbq.b.c2; have c3 := hbq.b.c3; have c4 := hbq.b.c4
      have d0 := hbq.r.c0; have d1 := hbq.r.c1; have d2 := hbq.r.c2; have d3 := hbq.r.c3; have d4 := hbq.r.c4
      have f0 := hbq.r.fz 0; have f1 := hbq.r.fz 1; have f2 := hbq.r.fz 2; have f3 := hbq.r.fz 3; have f4 := hbq.r.fz 4
      have fs := hbq.b.fz 2
      have hb3 := hbq
      have HB3 := As.mk hb3
      clear hb3 hbq
      go_wp2_with fail
      have ho := HB4.out.out
      refine bodyPost_ret (results_cellt rfl _ _ (w.heap.size + 1 + 1) _ rfl (loadS ho.1)) rfl ?_
      have hr : takeS s ⟨14, arg⟩ = none := by show (if atS s 0 < 0 then none else if atS s 1 = 5 ∧ s.full.getD (st s.stack 1).toNat false = false then some { cutS s 1 with full := s.full.set (st s.stack 1).toNat true } else none) = _; rw [if_neg (by rw [← HZ0.out]; omega), if_neg (fun h => by have := h.1; rw [← HZ1.out] at this; simp at h1; exact h1 this)]
      rw [hr]
      exact HB4.out.tpost _ (.inl rfl)
  · have h0' := h0
    go_upto_region 22 with fail
    go_quiet (fail)
    generalize hwq : World.drewN w3 _ = w4
    have hbq := HB.out.ext (show Ext w3 w4 by rw [← hwq]; exact (Ext.rf w3).dN _)
    clear hwq c0 c1 c2 c3 c4 d0 d1 d2 d3 d4 f0 f1 f2 f3 f4 fs o0 o1 HB
    have HB4 := As.mk hbq
    have c0 := hbq.b.c0; have c1 := hbq.b.c1; have c2 := hbq.b.c2; have c3 := hbq.b.c3; have c4 := hbq.b.c4
    have d0 := hbq.r.c0; have d1 := hbq.r.c1; have d2 := hbq.r.c2; have d3 := hbq.r.c3; have d4 := hbq.r.c4
    have f0 := hbq.r.fz 0; have f1 := hbq.r.fz 1; have f2 := hbq.r.fz 2; have f3 := hbq.r.fz 3; have f4 := hbq.r.fz 4
    have fs := hbq.b.fz 2
    have hb3 := hbq
    have HB3 := As.mk hb3
    clear hb3 hbq
    go_wp2_with fail
    have ho := HB4.out.out
    refine bodyPost_ret (results_cellt rfl _ _ (w.heap.size + 1 + 1) _ rfl (loadS ho.1)) rfl ?_
    have hr : takeS s ⟨14, arg⟩ = none := by unfold takeS; exact if_pos (by rw [← HZ0.out]; simpa using h0)
    rw [hr]
    exact HB4.out.tpost _ (.inl rfl)
end Go.Proofs.Ytcodbpjaamggeaa.C
