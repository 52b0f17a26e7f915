/- Shapes in memory: the orders that take all above a mark. -/
import Derived.Test.YtgenllcfpjgklaaCu
set_option linter.unusedVariables false
set_option linter.unusedSimpArgs false
namespace Go.Proofs.Ytgenllcfpjgklaa.C
open Go.RowKit Go.Proofs.Ytgenllcfpjgklaa.W Go.Proofs.Ytgenllcfpjgklaa.P

/-- The stack is cut to what lies below a mark. -/
theorem Box.to {v0K v0F v0S v0M w0 w g g2 vK vF AS n cS vM s} (h : Box v0K v0F v0S v0M w0 w g g2 vK vF (.slice AS n cS) vM s) (sp : List Int) (hsp : sp = s.stack.take sp.length) (hl : sp.length ≤ s.stack.length) :
    Box v0K v0F v0S v0M w0 (w.setCell ⟨g, 2, none⟩ (.slice AS sp.length cS)) g g2 vK vF (.slice AS sp.length cS) vM { s with stack := sp } := by
  obtain ⟨A', c', hv, _, _⟩ := own_form h.v.t
  injection hv with hv1 hv2 hv3
  subst hv1 hv2 hv3
  refine Box.t h (l := sp) ?_ (Fr.rf _ _) (.inl (by cases AS <;> rfl))
  have := own_take h.v.t sp.length hl
  unfold IR
  rw [Nat.mul_one] at this
  have e : (nums s.stack).take sp.length = nums sp := by rw [nums, ← List.map_take, ← hsp]; rfl
  rwa [e] at this
theorem slice_toP (A : Option Addr) (n c p : Nat) (hm : p ≤ n) (hc : n ≤ c) : ∀ W : World, (Instr.slice 23 (.slice A n c) none (some (.int .i64 (p : Int))) none).run Try.prog W = .ok (.slice A p c) W := by
  intro W
  obtain ⟨inf, hi, hsz⟩ : ∃ i, Try.prog.info? 3 = some i ∧ i.size = 1 := by
    obtain ⟨i, h, h2⟩ := Option.map_eq_some_iff.1 infoI
    exact ⟨i, h, by simp only [Prod.mk.injEq] at h2; exact h2.2.1⟩
  have := slice_to (P := Try.prog) 23 3 (by kernel_rfl) hi hsz A n c (p : Int) (by omega) (by omega) hc W
  simpa using this
theorem Box.new1 {vK vF vS vM s w} (h : SV w vK vF vS vM s) : Box vK vF vS vM w ((w.alloc (.cells #[vK, vF, vS, vM, .bool s.done] 91)).alloc (.cells #[.slice none 0 0, .slice none 0 0, .slice none 0 0, .slice none 0 0, .bool false] 91)) w.heap.size (w.heap.size + 1) vK vF vS vM s := Box.new h
/-- What the mark's place says. -/
def AtMark (s : List Int) (p : Nat) (sp dl : List Int) : Prop := sp.length = p ∧ sp = s.take p ∧ dl = s.drop (p + 1) ∧ topN s = s.length - 1 - p ∧ p < s.length
theorem AtMark.cut {s : Sh} {p : Nat} {sp dl : List Int} (h : AtMark s.stack p sp dl) : cutS s (topN s.stack + 1) = { s with stack := sp } ∧ s.stack.drop (s.stack.length - topN s.stack) = dl ∧ topN s.stack ≠ s.stack.length ∧ dl.length = topN s.stack := by
  obtain ⟨h1, h2, h3, h4, h5⟩ := h
  have e1 : s.stack.length - (topN s.stack + 1) = p := by omega
  have e2 : s.stack.length - topN s.stack = p + 1 := by omega
  refine ⟨by unfold cutS; rw [e1, h2], by rw [e2, h3], by omega, by rw [h3, List.length_drop]; omega⟩
theorem AtMark.mk' {s : List Int} {p : Nat} (hlt : p < s.length) (h1 : s.length - 1 - p ≤ topN s) (h0 : s[p] < 0) : AtMark s p (s.take p) (s.drop (p + 1)) := by
  refine ⟨by simp; omega, rfl, rfl, ?_, hlt⟩
  refine topN_end s (s.length - 1 - p) h1 (by omega) ?_
  have e : s.length - 1 - (s.length - 1 - p) = p := by omega
  simpa only [e] using h0

theorem allK_cons (kinds : List Int) (x : Int) (r : List Int) : allK kinds (x :: r) = (keyK (kinds.getD x.toNat 0) && allK kinds (r.drop 1)) := by
  cases r <;> simp [allK]
theorem tmod2 (n : Nat) : Int.tmod (n : Int) 2 = ((n % 2 : Nat) : Int) := by
  rw [Int.tmod_eq_emod_of_nonneg (by omega)]; omega
set_option maxRecDepth 100000 in
set_option maxHeartbeats 1000000 in
theorem mark_18 (vK vF vS vM : Value) (s : Sh) (w : World) (hs : SV w vK vF vS vM s) (hok : okS s) :
    Calls Try.prog 119 #[.agg #[vK, vF, vS, vM, .bool s.done], .int .i64 18] w (TPost vK vF vS vM (markS s 18) w) := by
  obtain ⟨AK, cK, AF, cF, AS, cS, AM, cM, rfl, rfl, rfl, rfl, q1, q2, q3, q4, r1, r2, r3, r4⟩ := hs.rd hok.siz.k hok.siz.f hok.siz.t hok.siz.m
  have hsl := hok.sl
  have HN := As.mk (Box.new hs)
  have HS := As.mk hs
  have HOK := As.mk hok
  clear hs hok r1 r2 r3 r4
  go_enter Try.func119, Try.ntmps119
  go_upto_region 1 with fail
  generalize (w.alloc (.cells #[.slice AK s.kinds.length cK, .slice AF s.full.length cF, .slice AS s.stack.length cS, .slice AM s.memo.length cM, .bool s.done] 91)).alloc (.cells #[.slice none 0 0, .slice none 0 0, .slice none 0 0, .slice none 0 0, .bool false] 91) = w1 at HN ⊢
  have hb := HN.out
  clear HN
  have HB := As.mk hb; have c0 := hb.b.c0; have c1 := hb.b.c1; have c2 := hb.b.c2; have c3 := hb.b.c3; have c4 := hb.b.c4
  have d0 := hb.r.c0; have d1 := hb.r.c1; have d2 := hb.r.c2; have d3 := hb.r.c3; have d4 := hb.r.c4
  have f0 := hb.r.fz 0; have f1 := hb.r.fz 1; have f2 := hb.r.fz 2; have f3 := hb.r.fz 3; have f4 := hb.r.fz 4
  have fs := hb.b.fz 2
  clear hb
  go_wp2_with fail
  go_loop [6] (fun a => ∃ j : Int, -1 ≤ j ∧ j < s.stack.length ∧ a = .int .i64 j ∧ As (((s.stack.length : Int) - 1 - j).toNat ≤ topN s.stack)) (fun a => (intOf a + 1).toNat)
  case atStart => exact ⟨(s.stack.length : Int) - 1, by omega, by omega, rfl, ⟨by simp⟩⟩
  case round =>
    obtain ⟨j, hj1, hj2, rfl, hn⟩ := hrel
    by_cases hj0 : j < 0
    · have hjm : j = -1 := by omega
      subst hjm
      go_wp2_with fail
      have ho := HB.out.out
      refine bodyPost_ret (results_cellt rfl _ _ (w.heap.size + 1) _ rfl (loadS ho.1)) rfl ?_
      have hr : markS s 18 = none := by
        unfold markS
        refine if_pos ?_
        have := topN_le s.stack
        have h2 := hn.out
        omega
      rw [hr]
      exact HB.out.tpost none (.inl rfl)
    · obtain ⟨p, rfl⟩ := Int.eq_ofNat_of_zero_le (show 0 ≤ j by omega)
      have hp : p < s.stack.length := by omega
      obtain ⟨aS, hA, m1⟩ := (rdA_I HB.out.v.t HOK.out.siz.t).2 p hp
      subst hA
      by_cases hx : s.stack[p] < 0
      · have hx0 : decide (0 ≤ s.stack[p]) = false := by simp; omega
        have HM := As.mk (AtMark.mk' hp (by have := hn.out; omega) hx)
        obtain ⟨sp, hsp⟩ : ∃ sp, sp = s.stack.take p := ⟨_, rfl⟩
        obtain ⟨dl, hdl⟩ : ∃ dl, dl = s.stack.drop (p + 1) := ⟨_, rfl⟩
        rw [← hsp, ← hdl] at HM
        have HDL := As.mk hdl
        clear hsp hdl hx
        obtain rfl : p = sp.length := HM.out.1.symm
        have hpl : sp.length ≤ s.stack.length := by omega
        obtain ⟨A1, s1, s2⟩ := slice_fromA (some aS) cS s.stack dl sp.length HDL.out (by omega) q3
        have s3 := slice_toP (some aS) s.stack.length cS sp.length hpl q3
        have HRD := As.mk s2
        have HDN := As.mk (show dl.length ≤ 300 by have := HM.out.2.2.1; rw [this, List.length_drop]; omega)
        clear s2
        go_upto_region 7 with (go_at_call 121; refine (copyInts_c _ _ _ _ (HRD.out _ (rdA_I HB.out.v.t HOK.out.siz.t))).mono ?_; rintro e w2 ⟨A2, c2', rfl, hI, he, hf⟩; have HI := As.mk hI; have HE := As.mk he; have HF := As.mk hf; clear hI he hf)
        have hb := HB.out.ext HE.out
        have hbt := Box.to hb sp (HM.out.2.1) hpl
        have HBT := As.mk hbt
        clear hbt HB s1 m1
        clear c0 c1 c2 c3 c4 d0 d1 d2 d3 d4 f0 f1 f2 f3 f4 fs
        have HB := As.mk hb; have c0 := hb.b.c0; have c1 := hb.b.c1; have c2 := hb.b.c2; have c3 := hb.b.c3; have c4 := hb.b.c4
        have d0 := hb.r.c0; have d1 := hb.r.c1; have d2 := hb.r.c2; have d3 := hb.r.c3; have d4 := hb.r.c4
        have f0 := hb.r.fz 0; have f1 := hb.r.fz 1; have f2 := hb.r.fz 2; have f3 := hb.r.fz 3; have f4 := hb.r.fz 4
        have fs := hb.b.fz 2
        clear hb
        go_wp2_with fail
        have ho := HBT.out.out
        refine bodyPost_ret (results_cellt rfl _ _ (w.heap.size + 1) _ rfl (loadS ho.1)) rfl ?_
        have hr : markS s 18 = some { s with stack := sp } := by
          obtain ⟨k1, k2, k3, k4⟩ := HM.out.cut
          rw [← k1]
          exact if_neg k3
        rw [hr]
        exact HBT.out.tpost _ (.inr rfl)
      · have hx0 : 0 ≤ s.stack[p] := by omega
        clear hx
        go_wp2_with fail
        go_round
        case rel => exact ⟨(p : Int) - 1, by omega, by omega, rfl, ⟨by
          have h2 := topN_step s.stack (s.stack.length - 1 - p) (by have := hn.out; omega) (by omega) (by
            have e : s.stack.length - 1 - (s.stack.length - 1 - p) = p := by omega
            simpa only [e] using hx0)
          omega⟩⟩
        case measure => simp only [intOf]; omega
set_option maxRecDepth 100000 in
set_option maxHeartbeats 1000000 in
theorem mark_3 (vK vF vS vM : Value) (s : Sh) (w : World) (hs : SV w vK vF vS vM s) (hok : okS s) :
    Calls Try.prog 119 #[.agg #[vK, vF, vS, vM, .bool s.done], .int .i64 3] w (TPost vK vF vS vM (markS s 3) w) := by
  obtain ⟨AK, cK, AF, cF, AS, cS, AM, cM, rfl, rfl, rfl, rfl, q1, q2, q3, q4, r1, r2, r3, r4⟩ := hs.rd hok.siz.k hok.siz.f hok.siz.t hok.siz.m
  have hsl := hok.sl
  have HN := As.mk (Box.new hs)
  have HS := As.mk hs
  have HOK := As.mk hok
  clear hs hok r1 r2 r3 r4
  go_enter Try.func119, Try.ntmps119
  go_upto_region 1 with fail
  generalize (w.alloc (.cells #[.slice AK s.kinds.length cK, .slice AF s.full.length cF, .slice AS s.stack.length cS, .slice AM s.memo.length cM, .bool s.done] 91)).alloc (.cells #[.slice none 0 0, .slice none 0 0, .slice none 0 0, .slice none 0 0, .bool false] 91) = w1 at HN ⊢
  have hb := HN.out
  clear HN
  have HB := As.mk hb; have c0 := hb.b.c0; have c1 := hb.b.c1; have c2 := hb.b.c2; have c3 := hb.b.c3; have c4 := hb.b.c4
  have d0 := hb.r.c0; have d1 := hb.r.c1; have d2 := hb.r.c2; have d3 := hb.r.c3; have d4 := hb.r.c4
  have f0 := hb.r.fz 0; have f1 := hb.r.fz 1; have f2 := hb.r.fz 2; have f3 := hb.r.fz 3; have f4 := hb.r.fz 4
  have fs := hb.b.fz 2
  clear hb
  go_wp2_with fail
  go_loop [6] (fun a => ∃ j : Int, -1 ≤ j ∧ j < s.stack.length ∧ a = .int .i64 j ∧ As (((s.stack.length : Int) - 1 - j).toNat ≤ topN s.stack)) (fun a => (intOf a + 1).toNat)
  case atStart => exact ⟨(s.stack.length : Int) - 1, by omega, by omega, rfl, ⟨by simp⟩⟩
  case round =>
    obtain ⟨j, hj1, hj2, rfl, hn⟩ := hrel
    by_cases hj0 : j < 0
    · have hjm : j = -1 := by omega
      subst hjm
      go_wp2_with fail
      have ho := HB.out.out
      refine bodyPost_ret (results_cellt rfl _ _ (w.heap.size + 1) _ rfl (loadS ho.1)) rfl ?_
      have hr : markS s 3 = none := by
        unfold markS
        refine if_pos ?_
        have := topN_le s.stack
        have h2 := hn.out
        omega
      rw [hr]
      exact HB.out.tpost none (.inl rfl)
    · obtain ⟨p, rfl⟩ := Int.eq_ofNat_of_zero_le (show 0 ≤ j by omega)
      have hp : p < s.stack.length := by omega
      obtain ⟨aS, hA, m1⟩ := (rdA_I HB.out.v.t HOK.out.siz.t).2 p hp
      subst hA
      by_cases hx : s.stack[p] < 0
      · have hx0 : decide (0 ≤ s.stack[p]) = false := by simp; omega
        have HM := As.mk (AtMark.mk' hp (by have := hn.out; omega) hx)
        obtain ⟨sp, hsp⟩ : ∃ sp, sp = s.stack.take p := ⟨_, rfl⟩
        obtain ⟨dl, hdl⟩ : ∃ dl, dl = s.stack.drop (p + 1) := ⟨_, rfl⟩
        rw [← hsp, ← hdl] at HM
        have HDL := As.mk hdl
        clear hsp hdl hx
        obtain rfl : p = sp.length := HM.out.1.symm
        have hpl : sp.length ≤ s.stack.length := by omega
        obtain ⟨A1, s1, s2⟩ := slice_fromA (some aS) cS s.stack dl sp.length HDL.out (by omega) q3
        have s3 := slice_toP (some aS) s.stack.length cS sp.length hpl q3
        have HRD := As.mk s2
        have HDN := As.mk (show dl.length ≤ 300 by have := HM.out.2.2.1; rw [this, List.length_drop]; omega)
        clear s2
        go_upto_region 7 with (go_at_call 121; refine (copyInts_c _ _ _ _ (HRD.out _ (rdA_I HB.out.v.t HOK.out.siz.t))).mono ?_; rintro e w2 ⟨A2, c2', rfl, hI, he, hf⟩; have HI := As.mk hI; have HE := As.mk he; have HF := As.mk hf; clear hI he hf)
        have hb := HB.out.ext HE.out
        have hbt := Box.to hb sp (HM.out.2.1) hpl
        have HBT := As.mk hbt
        clear hbt HB s1 m1
        clear c0 c1 c2 c3 c4 d0 d1 d2 d3 d4 f0 f1 f2 f3 f4 fs
        have HB := As.mk hb; have c0 := hb.b.c0; have c1 := hb.b.c1; have c2 := hb.b.c2; have c3 := hb.b.c3; have c4 := hb.b.c4
        have d0 := hb.r.c0; have d1 := hb.r.c1; have d2 := hb.r.c2; have d3 := hb.r.c3; have d4 := hb.r.c4
        have f0 := hb.r.fz 0; have f1 := hb.r.fz 1; have f2 := hb.r.fz 2; have f3 := hb.r.fz 3; have f4 := hb.r.fz 4
        have fs := hb.b.fz 2
        clear hb
        have hz : sizS { s with stack := sp } := ⟨HOK.out.siz.k, HOK.out.siz.f, Nat.le_trans hpl HOK.out.siz.t, HOK.out.siz.m⟩
        have HZ := As.mk hz
        clear hz
        go_wp2_with (go_at_call 118; refine (pushShape_c _ _ _ _ { s with stack := sp } 2 _ HBT.out.v HZ.out.k HZ.out.f HZ.out.t).mono ?_; rintro e w4 ⟨vK', vF', vS', vM', rfl, hp⟩; obtain ⟨B1, e1, B2, e2, B3, e3, B4, e4, rfl, rfl, rfl, rfl⟩ := hp.1.forms; have HP := As.mk hp; have hr := (HBT.out.via hp).1; have HR4 := As.mk hr; have d0 := hr.c0; have d1 := hr.c1; have d2 := hr.c2; have d3 := hr.c3; have d4 := hr.c4; have f0 := hr.fz 0; have f1 := hr.fz 1; have f2 := hr.fz 2; have f3 := hr.fz 3; have f4 := hr.fz 4; clear hp hr)
        refine bodyPost_ret (results_cellt rfl _ _ (w.heap.size + 1) _ rfl (loadS (SB.all _ _ _ _ _ HR4.out))) rfl ?_
        have hr : markS s 3 = some (pushS { s with stack := sp } 2) := by
          obtain ⟨k1, k2, k3, k4⟩ := HM.out.cut
          rw [← k1]
          exact if_neg k3
        rw [hr]
        exact HBT.out.tvia HP.out
      · have hx0 : 0 ≤ s.stack[p] := by omega
        clear hx
        go_wp2_with fail
        go_round
        case rel => exact ⟨(p : Int) - 1, by omega, by omega, rfl, ⟨by
          have h2 := topN_step s.stack (s.stack.length - 1 - p) (by have := hn.out; omega) (by omega) (by
            have e : s.stack.length - 1 - (s.stack.length - 1 - p) = p := by omega
            simpa only [e] using hx0)
          omega⟩⟩
        case measure => simp only [intOf]; omega
set_option maxRecDepth 100000 in
set_option maxHeartbeats 1000000 in
theorem mark_9 (vK vF vS vM : Value) (s : Sh) (w : World) (hs : SV w vK vF vS vM s) (hok : okS s) :
    Calls Try.prog 119 #[.agg #[vK, vF, vS, vM, .bool s.done], .int .i64 9] w (TPost vK vF vS vM (markS s 9) w) := by
  obtain ⟨AK, cK, AF, cF, AS, cS, AM, cM, rfl, rfl, rfl, rfl, q1, q2, q3, q4, r1, r2, r3, r4⟩ := hs.rd hok.siz.k hok.siz.f hok.siz.t hok.siz.m
  have hsl := hok.sl
  have HN := As.mk (Box.new hs)
  have HS := As.mk hs
  have HOK := As.mk hok
  clear hs hok r1 r2 r3 r4
  go_enter Try.func119, Try.ntmps119
  go_upto_region 1 with fail
  generalize (w.alloc (.cells #[.slice AK s.kinds.length cK, .slice AF s.full.length cF, .slice AS s.stack.length cS, .slice AM s.memo.length cM, .bool s.done] 91)).alloc (.cells #[.slice none 0 0, .slice none 0 0, .slice none 0 0, .slice none 0 0, .bool false] 91) = w1 at HN ⊢
  have hb := HN.out
  clear HN
  have HB := As.mk hb; have c0 := hb.b.c0; have c1 := hb.b.c1; have c2 := hb.b.c2; have c3 := hb.b.c3; have c4 := hb.b.c4
  have d0 := hb.r.c0; have d1 := hb.r.c1; have d2 := hb.r.c2; have d3 := hb.r.c3; have d4 := hb.r.c4
  have f0 := hb.r.fz 0; have f1 := hb.r.fz 1; have f2 := hb.r.fz 2; have f3 := hb.r.fz 3; have f4 := hb.r.fz 4
  have fs := hb.b.fz 2
  clear hb
  go_wp2_with fail
  go_loop [6] (fun a => ∃ j : Int, -1 ≤ j ∧ j < s.stack.length ∧ a = .int .i64 j ∧ As (((s.stack.length : Int) - 1 - j).toNat ≤ topN s.stack)) (fun a => (intOf a + 1).toNat)
  case atStart => exact ⟨(s.stack.length : Int) - 1, by omega, by omega, rfl, ⟨by simp⟩⟩
  case round =>
    obtain ⟨j, hj1, hj2, rfl, hn⟩ := hrel
    by_cases hj0 : j < 0
    · have hjm : j = -1 := by omega
      subst hjm
      go_wp2_with fail
      have ho := HB.out.out
      refine bodyPost_ret (results_cellt rfl _ _ (w.heap.size + 1) _ rfl (loadS ho.1)) rfl ?_
      have hr : markS s 9 = none := by
        unfold markS
        refine if_pos ?_
        have := topN_le s.stack
        have h2 := hn.out
        omega
      rw [hr]
      exact HB.out.tpost none (.inl rfl)
    · obtain ⟨p, rfl⟩ := Int.eq_ofNat_of_zero_le (show 0 ≤ j by omega)
      have hp : p < s.stack.length := by omega
      obtain ⟨aS, hA, m1⟩ := (rdA_I HB.out.v.t HOK.out.siz.t).2 p hp
      subst hA
      by_cases hx : s.stack[p] < 0
      · have hx0 : decide (0 ≤ s.stack[p]) = false := by simp; omega
        have HM := As.mk (AtMark.mk' hp (by have := hn.out; omega) hx)
        obtain ⟨sp, hsp⟩ : ∃ sp, sp = s.stack.take p := ⟨_, rfl⟩
        obtain ⟨dl, hdl⟩ : ∃ dl, dl = s.stack.drop (p + 1) := ⟨_, rfl⟩
        rw [← hsp, ← hdl] at HM
        have HDL := As.mk hdl
        clear hsp hdl hx
        obtain rfl : p = sp.length := HM.out.1.symm
        have hpl : sp.length ≤ s.stack.length := by omega
        obtain ⟨A1, s1, s2⟩ := slice_fromA (some aS) cS s.stack dl sp.length HDL.out (by omega) q3
        have s3 := slice_toP (some aS) s.stack.length cS sp.length hpl q3
        have HRD := As.mk s2
        have HDN := As.mk (show dl.length ≤ 300 by have := HM.out.2.2.1; rw [this, List.length_drop]; omega)
        clear s2
        go_upto_region 7 with (go_at_call 121; refine (copyInts_c _ _ _ _ (HRD.out _ (rdA_I HB.out.v.t HOK.out.siz.t))).mono ?_; rintro e w2 ⟨A2, c2', rfl, hI, he, hf⟩; have HI := As.mk hI; have HE := As.mk he; have HF := As.mk hf; clear hI he hf)
        have hb := HB.out.ext HE.out
        have hbt := Box.to hb sp (HM.out.2.1) hpl
        have HBT := As.mk hbt
        clear hbt HB s1 m1
        clear c0 c1 c2 c3 c4 d0 d1 d2 d3 d4 f0 f1 f2 f3 f4 fs
        have HB := As.mk hb; have c0 := hb.b.c0; have c1 := hb.b.c1; have c2 := hb.b.c2; have c3 := hb.b.c3; have c4 := hb.b.c4
        have d0 := hb.r.c0; have d1 := hb.r.c1; have d2 := hb.r.c2; have d3 := hb.r.c3; have d4 := hb.r.c4
        have f0 := hb.r.fz 0; have f1 := hb.r.fz 1; have f2 := hb.r.fz 2; have f3 := hb.r.fz 3; have f4 := hb.r.fz 4
        have fs := hb.b.fz 2
        clear hb
        go_upto_region 12 with fail
        generalize hw3 : w2.setCell ⟨w.heap.size, 2, none⟩ (.slice (some aS) sp.length cS) = w3 at HBT ⊢
        have HX := As.mk hw3
        clear hw3 c0 c1 c2 c3 c4 d0 d1 d2 d3 d4 f0 f1 f2 f3 f4 fs
        have hb := HBT.out
        have HB := As.mk hb; have c0 := hb.b.c0; have c1 := hb.b.c1; have c2 := hb.b.c2; have c3 := hb.b.c3; have c4 := hb.b.c4
        have d0 := hb.r.c0; have d1 := hb.r.c1; have d2 := hb.r.c2; have d3 := hb.r.c3; have d4 := hb.r.c4
        have f0 := hb.r.fz 0; have f1 := hb.r.fz 1; have f2 := hb.r.fz 2; have f3 := hb.r.fz 3; have f4 := hb.r.fz 4
        have fs := hb.b.fz 2
        clear hb
        clear d0 d1 d2 d3 d4 f0 f1 f2 f3 f4 fs
        refine region_perm (fun w' => w'.cell? ⟨w.heap.size, 0, none⟩ = some (.slice AK s.kinds.length cK) ∧ w'.cell? ⟨w.heap.size, 1, none⟩ = some (.slice AF s.full.length cF) ∧ w'.cell? ⟨w.heap.size, 2, none⟩ = some (.slice (some aS) sp.length cS) ∧ w'.cell? ⟨w.heap.size, 3, none⟩ = some (.slice AM s.memo.length cM) ∧ w'.cell? ⟨w.heap.size, 4, none⟩ = some (.bool s.done)) [4] [(0, 1), (1, 1), (2, 2), (3, 0), (4, 3), (5, 0)] (by kernel_rfl) (by kernel_rfl) rfl (by kernel_rfl) (fun _ _ _ _ h => h) ?_
        have hS := And.intro c0 (And.intro c1 (And.intro c2 (And.intro c3 c4)))
        repeat (first | refine wpP.c0 (h := ?_) | refine wpP.c1 (w := w3.drew) hS (h := ?_))
        refine wpP.ev (h := fun Kv hKv => ?_)
        go_wp2_with (go_at_call 134; refine (shapeAt_i _ _ _ _ _ _ _ _ _ _ _ { s with stack := sp } _ _ ((rdA_I HB.out.v.k HOK.out.siz.k).ext (Ext.dr (Ext.rf _))) ((rdA_I HB.out.v.t (Nat.le_trans hpl HOK.out.siz.t)).ext (Ext.dr (Ext.rf _))) (fun x hx => HOK.out.lt x (by have := HM.out.2.1; rw [this] at hx; exact List.mem_of_mem_take hx)) (by omega) (by omega)).mono ?_; rintro e w4 ⟨z0, rfl, hz, he⟩; have hz0 : z0 = atS { s with stack := sp } 0 := hz; have HZ0 := As.mk hz0; have HE4 : As (Ext w3 w4) := ⟨((Ext.rf w3).dr).trans he⟩; clear hz hz0 he)
        refine hKv.out _ _ ⟨HE4.out.cellOf c0, HE4.out.cellOf c1, HE4.out.cellOf c2, HE4.out.cellOf c3, HE4.out.cellOf c4⟩ ?_
        clear hKv Kv
        have hb4 := HB.out.ext HE4.out
        have HB4 := As.mk hb4
        clear hb4
        clear hS c0 c1 c2 c3 c4
        rcases bceq z0 3 with h1 | h1
        · have H13 : As (atS { s with stack := sp } 0 = 3) := ⟨by rw [← HZ0.out]; exact h1⟩
          clear HZ0
          subst h1
          repeat (first | refine wpP.c0 (h := ?_))
          refine wpP.last (h := fun Kv hKv => ?_)
          have d0 := HB4.out.r.c0; have d1 := HB4.out.r.c1; have d2 := HB4.out.r.c2; have d3 := HB4.out.r.c3; have d4 := HB4.out.r.c4
          have f0 := HB4.out.r.fz 0; have f1 := HB4.out.r.fz 1; have f2 := HB4.out.r.fz 2; have f3 := HB4.out.r.fz 3; have f4 := HB4.out.r.fz 4
          go_wp2_with fail
          refine hKv.out _ _ ?_
          clear hKv Kv d0 d1 d2 d3 d4 f0 f1 f2 f3 f4
          repeat (first | refine wpP.c0 (h := ?_))
          refine wpP.done ?_
          go_wp2_with fail
          have ho := HB4.out.out
          refine bodyPost_ret (results_cellt rfl _ _ (w.heap.size + 1) _ rfl (loadS ho.1)) rfl ?_
          have hr : markS s 9 = some { s with stack := sp } := by
            obtain ⟨k1, k2, k3, k4⟩ := HM.out.cut
            show (if topN s.stack = s.stack.length then none else if atS (cutS s (topN s.stack + 1)) 0 = 3 then some (cutS s (topN s.stack + 1)) else none) = _
            rw [if_neg k3, k1, if_pos H13.out]
          rw [hr]
          exact HB4.out.tpost _ (.inr rfl)
        · repeat (first | refine wpP.c0 (h := ?_))
          refine wpP.last (h := fun Kv hKv => ?_)
          have d0 := HB4.out.r.c0; have d1 := HB4.out.r.c1; have d2 := HB4.out.r.c2; have d3 := HB4.out.r.c3; have d4 := HB4.out.r.c4
          have f0 := HB4.out.r.fz 0; have f1 := HB4.out.r.fz 1; have f2 := HB4.out.r.fz 2; have f3 := HB4.out.r.fz 3; have f4 := HB4.out.r.fz 4
          go_wp2_with fail
          refine hKv.out _ _ ?_
          clear hKv Kv d0 d1 d2 d3 d4 f0 f1 f2 f3 f4
          repeat (first | refine wpP.c0 (h := ?_))
          refine wpP.done ?_
          go_wp2_with fail
          have ho := HB4.out.out
          refine bodyPost_ret (results_cellt rfl _ _ (w.heap.size + 1) _ rfl (loadS ho.1)) rfl ?_
          have hr : markS s 9 = none := by
            obtain ⟨k1, k2, k3, k4⟩ := HM.out.cut
            show (if topN s.stack = s.stack.length then none else if atS (cutS s (topN s.stack + 1)) 0 = 3 then some (cutS s (topN s.stack + 1)) else none) = _
            rw [if_neg k3, k1, if_neg (by rw [← HZ0.out]; simpa using h1)]
          rw [hr]
          exact HB4.out.tpost none (.inl rfl)
      · have hx0 : 0 ≤ s.stack[p] := by omega
        clear hx
        go_wp2_with fail
        go_round
        case rel => exact ⟨(p : Int) - 1, by omega, by omega, rfl, ⟨by
          have h2 := topN_step s.stack (s.stack.length - 1 - p) (by have := hn.out; omega) (by omega) (by
            have e : s.stack.length - 1 - (s.stack.length - 1 - p) = p := by omega
            simpa only [e] using hx0)
          omega⟩⟩
        case measure => simp only [intOf]; omega
set_option maxRecDepth 100000 in
set_option maxHeartbeats 1000000 in
theorem mark_12 (vK vF vS vM : Value) (s : Sh) (w : World) (hs : SV w vK vF vS vM s) (hok : okS s) :
    Calls Try.prog 119 #[.agg #[vK, vF, vS, vM, .bool s.done], .int .i64 12] w (TPost vK vF vS vM (markS s 12) w) := by
  obtain ⟨AK, cK, AF, cF, AS, cS, AM, cM, rfl, rfl, rfl, rfl, q1, q2, q3, q4, r1, r2, r3, r4⟩ := hs.rd hok.siz.k hok.siz.f hok.siz.t hok.siz.m
  have hsl := hok.sl
  have HN := As.mk (Box.new hs)
  have HS := As.mk hs
  have HOK := As.mk hok
  clear hs hok r1 r2 r3 r4
  go_enter Try.func119, Try.ntmps119
  go_upto_region 1 with fail
  generalize (w.alloc (.cells #[.slice AK s.kinds.length cK, .slice AF s.full.length cF, .slice AS s.stack.length cS, .slice AM s.memo.length cM, .bool s.done] 91)).alloc (.cells #[.slice none 0 0, .slice none 0 0, .slice none 0 0, .slice none 0 0, .bool false] 91) = w1 at HN ⊢
  have hb := HN.out
  clear HN
  have HB := As.mk hb; have c0 := hb.b.c0; have c1 := hb.b.c1; have c2 := hb.b.c2; have c3 := hb.b.c3; have c4 := hb.b.c4
  have d0 := hb.r.c0; have d1 := hb.r.c1; have d2 := hb.r.c2; have d3 := hb.r.c3; have d4 := hb.r.c4
  have f0 := hb.r.fz 0; have f1 := hb.r.fz 1; have f2 := hb.r.fz 2; have f3 := hb.r.fz 3; have f4 := hb.r.fz 4
  have fs := hb.b.fz 2
  clear hb
  go_wp2_with fail
  go_loop [6] (fun a => ∃ j : Int, -1 ≤ j ∧ j < s.stack.length ∧ a = .int .i64 j ∧ As (((s.stack.length : Int) - 1 - j).toNat ≤ topN s.stack)) (fun a => (intOf a + 1).toNat)
  case atStart => exact ⟨(s.stack.length : Int) - 1, by omega, by omega, rfl, ⟨by simp⟩⟩
  case round =>
    obtain ⟨j, hj1, hj2, rfl, hn⟩ := hrel
    by_cases hj0 : j < 0
    · have hjm : j = -1 := by omega
      subst hjm
      go_wp2_with fail
      have ho := HB.out.out
      refine bodyPost_ret (results_cellt rfl _ _ (w.heap.size + 1) _ rfl (loadS ho.1)) rfl ?_
      have hr : markS s 12 = none := by
        unfold markS
        refine if_pos ?_
        have := topN_le s.stack
        have h2 := hn.out
        omega
      rw [hr]
      exact HB.out.tpost none (.inl rfl)
    · obtain ⟨p, rfl⟩ := Int.eq_ofNat_of_zero_le (show 0 ≤ j by omega)
      have hp : p < s.stack.length := by omega
      obtain ⟨aS, hA, m1⟩ := (rdA_I HB.out.v.t HOK.out.siz.t).2 p hp
      subst hA
      by_cases hx : s.stack[p] < 0
      · have hx0 : decide (0 ≤ s.stack[p]) = false := by simp; omega
        have HM := As.mk (AtMark.mk' hp (by have := hn.out; omega) hx)
        obtain ⟨sp, hsp⟩ : ∃ sp, sp = s.stack.take p := ⟨_, rfl⟩
        obtain ⟨dl, hdl⟩ : ∃ dl, dl = s.stack.drop (p + 1) := ⟨_, rfl⟩
        rw [← hsp, ← hdl] at HM
        have HDL := As.mk hdl
        clear hsp hdl hx
        obtain rfl : p = sp.length := HM.out.1.symm
        have hpl : sp.length ≤ s.stack.length := by omega
        obtain ⟨A1, s1, s2⟩ := slice_fromA (some aS) cS s.stack dl sp.length HDL.out (by omega) q3
        have s3 := slice_toP (some aS) s.stack.length cS sp.length hpl q3
        have HRD := As.mk s2
        have HDN := As.mk (show dl.length ≤ 300 by have := HM.out.2.2.1; rw [this, List.length_drop]; omega)
        clear s2
        go_upto_region 7 with (go_at_call 121; refine (copyInts_c _ _ _ _ (HRD.out _ (rdA_I HB.out.v.t HOK.out.siz.t))).mono ?_; rintro e w2 ⟨A2, c2', rfl, hI, he, hf⟩; have HI := As.mk hI; have HE := As.mk he; have HF := As.mk hf; clear hI he hf)
        have hb := HB.out.ext HE.out
        have hbt := Box.to hb sp (HM.out.2.1) hpl
        have HBT := As.mk hbt
        have HBW := As.mk hb.b
        clear hbt HB s1 m1
        clear c0 c1 c2 c3 c4 d0 d1 d2 d3 d4 f0 f1 f2 f3 f4 fs
        have HB := As.mk hb; have c0 := hb.b.c0; have c1 := hb.b.c1; have c2 := hb.b.c2; have c3 := hb.b.c3; have c4 := hb.b.c4
        have d0 := hb.r.c0; have d1 := hb.r.c1; have d2 := hb.r.c2; have d3 := hb.r.c3; have d4 := hb.r.c4
        have f0 := hb.r.fz 0; have f1 := hb.r.fz 1; have f2 := hb.r.fz 2; have f3 := hb.r.fz 3; have f4 := hb.r.fz 4
        have fs := hb.b.fz 2
        clear hb
        go_upto_region 14 with fail
        generalize hw3 : w2.setCell ⟨w.heap.size, 2, none⟩ (.slice (some aS) sp.length cS) = w3 at HBT ⊢
        have HX := As.mk hw3
        clear hw3 c0 c1 c2 c3 c4 d0 d1 d2 d3 d4 f0 f1 f2 f3 f4 fs
        have hb := HBT.out
        have HB := As.mk hb; have c0 := hb.b.c0; have c1 := hb.b.c1; have c2 := hb.b.c2; have c3 := hb.b.c3; have c4 := hb.b.c4
        have d0 := hb.r.c0; have d1 := hb.r.c1; have d2 := hb.r.c2; have d3 := hb.r.c3; have d4 := hb.r.c4
        have f0 := hb.r.fz 0; have f1 := hb.r.fz 1; have f2 := hb.r.fz 2; have f3 := hb.r.fz 3; have f4 := hb.r.fz 4
        have fs := hb.b.fz 2
        clear hb
        clear d0 d1 d2 d3 d4 f0 f1 f2 f3 f4 fs
        have HI3 : As (RdI w3 A2 dl) := ⟨rdA_I (by rw [← HX.out]; exact HI.out.keep (fun k hk => Below.heap_setCell _ _ _ _ (fun e => own_ne_blk HI.out HBW.out (by decide) (by rw [hk]; exact congrArg some e)))) (by have := HDN.out; omega)⟩
        have hdn := HDN.out
        have hin : ∀ x ∈ dl, 0 ≤ x ∧ x < s.kinds.length := by
          obtain ⟨k1, k2, k3, k4⟩ := HM.out.cut
          intro x hx
          rw [← k2] at hx
          refine ⟨?_, HOK.out.lt x (List.mem_of_mem_drop hx)⟩
          obtain ⟨q, hq, rfl⟩ := List.mem_iff_getElem.1 hx
          have htl := topN_le s.stack
          simp only [List.length_drop] at hq
          rw [List.getElem_drop]
          obtain ⟨h1, h2⟩ := topN_ge s.stack (topN s.stack - 1 - q) (by omega)
          have : s.stack.length - 1 - (topN s.stack - 1 - q) = s.stack.length - topN s.stack + q := by omega
          simpa [this] using h2
        have HIN := As.mk hin
        clear hin
        go_wp2_with fail
        go_loopw [8] (fun i wr => ∃ k : Nat, k ≤ dl.length + 1 ∧ i = .int .i64 k ∧ As (allK s.kinds dl = allK s.kinds (dl.drop k) ∧ k % 2 = 0) ∧ As (Ext w3 wr)) (fun i _ => dl.length + 1 - (intOf i).toNat)
        case atStart => exact ⟨0, by omega, rfl, ⟨rfl, rfl⟩, ⟨Ext.rf _⟩⟩
        case round =>
          obtain ⟨k, hk, rfl, hal, he⟩ := hrel
          have g0 := he.out.cellOf c0
          by_cases hlt : k < dl.length
          · obtain ⟨aL, hA, l1⟩ := (HI3.out.ext he.out).2 k hlt
            subst hA
            obtain ⟨x, hx⟩ := Int.eq_ofNat_of_zero_le (HIN.out _ (List.getElem_mem hlt)).1
            have hxl : x < s.kinds.length := by have := (HIN.out _ (List.getElem_mem hlt)).2; omega
            rw [hx] at l1
            obtain ⟨aK, hA, l2⟩ := ((rdA_I HB.out.v.k HOK.out.siz.k).ext he.out).2 x hxl
            subst hA
            have hcons : allK s.kinds (dl.drop k) = (keyK s.kinds[x] && allK s.kinds (dl.drop (k + 2))) := by
              rw [List.drop_eq_getElem_cons hlt, allK_cons, hx, Int.toNat_natCast, List.getD_eq_getElem?_getD, List.getElem?_eq_getElem hxl, List.drop_drop]; rfl
            obtain ⟨kx, hkx⟩ : ∃ kx, kx = s.kinds[x] := ⟨_, rfl⟩
            rw [← hkx] at l2 hcons
            have HC := As.mk hcons
            have q1 : (x : Int) < s.kinds.length := by omega
            have q2 : (k : Int) < dl.length := by omega
            clear hkx hcons hx
            cases hkk : keyK kx with
            | true =>
              have HKK := As.mk hkk
              clear hkk
              go_upto_region 17 with fail
              refine region_perm (fun w' => w'.cell? ⟨w.heap.size, 0, none⟩ = some (.slice (some aK) s.kinds.length cK) ∧ w'.cell? (aL.add k) = some (.int .i64 x) ∧ w'.cell? (aK.add x) = some (.int .i64 kx)) [] [(0, 0), (1, 1), (2, 0), (3, 0), (4, 0), (5, 1), (6, 0), (7, 1), (8, 2), (9, 0)] (by kernel_rfl) (by kernel_rfl) rfl (by kernel_rfl) (fun _ _ _ _ h => h) ?_
              have hS := And.intro g0 (And.intro l1 l2)
              repeat (first | refine wpP.c0 (h := ?_) | refine wpP.c1 (w := wr.drew) hS (h := ?_))
              refine wpP.ev (h := fun Kv hKv => ?_)
              go_wp2_with (go_at_call 135; refine (keyKind_c _ _).mono ?_; rw [HKK.out]; rintro e w4 ⟨rfl, rfl⟩)
              refine hKv.out _ _ hS ?_
              clear hKv Kv
              repeat (first | refine wpP.c0 (h := ?_))
              refine wpP.done ?_
              clear hS
              generalize hwd : World.drew wr = w5
              have he5 : Ext w3 w5 := by rw [← hwd]; exact he.out.dr
              have HE5 := As.mk he5
              clear hwd he5
              go_wp2_with fail
              go_roundw
              case rel => exact ⟨k + 2, by omega, by go_num, ⟨by rw [hal.out.1, HC.out, HKK.out]; rfl, by have := hal.out.2; omega⟩, HE5⟩
              case measure => simp only [intOf]; omega
            | false =>
              have HKK := As.mk hkk
              clear hkk
              go_upto_region 17 with fail
              refine region_perm (fun w' => w'.cell? ⟨w.heap.size, 0, none⟩ = some (.slice (some aK) s.kinds.length cK) ∧ w'.cell? (aL.add k) = some (.int .i64 x) ∧ w'.cell? (aK.add x) = some (.int .i64 kx)) [] [(0, 0), (1, 1), (2, 0), (3, 0), (4, 0), (5, 1), (6, 0), (7, 1), (8, 2), (9, 0)] (by kernel_rfl) (by kernel_rfl) rfl (by kernel_rfl) (fun _ _ _ _ h => h) ?_
              have hS := And.intro g0 (And.intro l1 l2)
              repeat (first | refine wpP.c0 (h := ?_) | refine wpP.c1 (w := wr.drew) hS (h := ?_))
              refine wpP.ev (h := fun Kv hKv => ?_)
              go_wp2_with (go_at_call 135; refine (keyKind_c _ _).mono ?_; rw [HKK.out]; rintro e w4 ⟨rfl, rfl⟩)
              refine hKv.out _ _ hS ?_
              clear hKv Kv
              repeat (first | refine wpP.c0 (h := ?_))
              refine wpP.done ?_
              clear hS
              generalize hwd : World.drew wr = w5
              have he5 : Ext w3 w5 := by rw [← hwd]; exact he.out.dr
              have HE5 := As.mk he5
              clear hwd he5
              have hb4 := HB.out.ext HE5.out
              have HB4 := As.mk hb4
              clear g0 c0 c1 c2 c3 c4
              have c0 := hb4.b.c0; have c1 := hb4.b.c1; have c2 := hb4.b.c2; have c3 := hb4.b.c3; have c4 := hb4.b.c4
              have d0 := hb4.r.c0; have d1 := hb4.r.c1; have d2 := hb4.r.c2; have d3 := hb4.r.c3; have d4 := hb4.r.c4
              have f0 := hb4.r.fz 0; have f1 := hb4.r.fz 1; have f2 := hb4.r.fz 2; have f3 := hb4.r.fz 3; have f4 := hb4.r.fz 4
              clear hb4
              go_wp2_with fail
              have ho := HB4.out.out
              refine bodyPost_ret (results_cellt rfl _ _ (w.heap.size + 1) _ rfl (loadS ho.1)) rfl ?_
              have hr : markS s 12 = none := by
                obtain ⟨k1, k2, k3, k4⟩ := HM.out.cut
                show (if topN s.stack = s.stack.length then none else if allK s.kinds (s.stack.drop (s.stack.length - topN s.stack)) = true ∧ atS (cutS s (topN s.stack + 1)) 0 = 4 ∧ topN s.stack % 2 = 0 then some (cutS s (topN s.stack + 1)) else none) = _
                rw [if_neg k3, k2, if_neg (fun h => by rw [hal.out.1, HC.out, HKK.out] at h; exact Bool.false_ne_true h.1)]
              rw [hr]
              exact HB4.out.tpost none (.inl rfl)
          · have hall : allK s.kinds dl = true := by rw [hal.out.1, List.drop_eq_nil_of_le (by omega)]; rfl
            have HALL := As.mk hall
            clear hall
            have hb := HB.out.ext he.out
            have HBo := HB
            clear g0 c0 c1 c2 c3 c4 HB
            have HB := As.mk hb
            have c0 := hb.b.c0; have c1 := hb.b.c1; have c2 := hb.b.c2; have c3 := hb.b.c3; have c4 := hb.b.c4
            clear hb
            obtain ⟨r, hr⟩ : ∃ r : Int, r = Int.tmod (dl.length : Int) 2 := ⟨_, rfl⟩
            have HR := As.mk (hr.trans (tmod2 dl.length))
            replace hr := hr.symm
            go_upto_region 19 with fail
            refine region_perm (fun w' => w'.cell? ⟨w.heap.size, 0, none⟩ = some (.slice AK s.kinds.length cK) ∧ w'.cell? ⟨w.heap.size, 1, none⟩ = some (.slice AF s.full.length cF) ∧ w'.cell? ⟨w.heap.size, 2, none⟩ = some (.slice (some aS) sp.length cS) ∧ w'.cell? ⟨w.heap.size, 3, none⟩ = some (.slice AM s.memo.length cM) ∧ w'.cell? ⟨w.heap.size, 4, none⟩ = some (.bool s.done)) [10] [(0, 1), (1, 1), (2, 2), (3, 0), (4, 0), (5, 0), (6, 0), (7, 0), (8, 0), (9, 0), (10, 3), (11, 0)] (by kernel_rfl) (by kernel_rfl) rfl (by kernel_rfl) (fun _ _ _ _ h => h) ?_
            have hS := And.intro c0 (And.intro c1 (And.intro c2 (And.intro c3 c4)))
            repeat (first | refine wpP.c0 (h := ?_) | refine wpP.c1 (w := wr.drew) hS (h := ?_))
            refine wpP.ev (h := fun Kv hKv => ?_)
            go_wp2_with (go_at_call 134; refine (shapeAt_i _ _ _ _ _ _ _ _ _ _ _ { s with stack := sp } _ _ ((rdA_I HB.out.v.k HOK.out.siz.k).ext (Ext.dr (Ext.rf _))) ((rdA_I HB.out.v.t (Nat.le_trans hpl HOK.out.siz.t)).ext (Ext.dr (Ext.rf _))) (fun x hx => HOK.out.lt x (by have := HM.out.2.1; rw [this] at hx; exact List.mem_of_mem_take hx)) (by omega) (by omega)).mono ?_; rintro e w4 ⟨z0, rfl, hz, he⟩; have hz0 : z0 = atS { s with stack := sp } 0 := hz; have HZ0 := As.mk hz0; have HE4 : As (Ext wr w4) := ⟨((Ext.rf wr).dr).trans he⟩; clear hz hz0 he)
            refine hKv.out _ _ ⟨HE4.out.cellOf c0, HE4.out.cellOf c1, HE4.out.cellOf c2, HE4.out.cellOf c3, HE4.out.cellOf c4⟩ ?_
            clear hKv Kv
            have hb4 := HB.out.ext HE4.out
            have HB4 := As.mk hb4
            clear hb4
            clear hS c0 c1 c2 c3 c4
            rcases bceq z0 4 with h1 | h1
            · have H13 : As (atS { s with stack := sp } 0 = 4) := ⟨by rw [← HZ0.out]; exact h1⟩
              clear HZ0
              subst h1
              rcases bceq r 0 with h2 | h2
              · have H2 : As (dl.length % 2 = 0) := ⟨by have := HR.out; omega⟩
                clear HR
                subst h2
                repeat (first | refine wpP.c0 (h := ?_))
                refine wpP.last (h := fun Kv hKv => ?_)
                have d0 := HB4.out.r.c0; have d1 := HB4.out.r.c1; have d2 := HB4.out.r.c2; have d3 := HB4.out.r.c3; have d4 := HB4.out.r.c4
                have f0 := HB4.out.r.fz 0; have f1 := HB4.out.r.fz 1; have f2 := HB4.out.r.fz 2; have f3 := HB4.out.r.fz 3; have f4 := HB4.out.r.fz 4
                go_wp2_with fail
                refine hKv.out _ _ ?_
                clear hKv Kv d0 d1 d2 d3 d4 f0 f1 f2 f3 f4
                repeat (first | refine wpP.c0 (h := ?_))
                refine wpP.done ?_
                go_wp2_with fail
                have ho := HB4.out.out
                refine bodyPost_ret (results_cellt rfl _ _ (w.heap.size + 1) _ rfl (loadS ho.1)) rfl ?_
                have hr : markS s 12 = some { s with stack := sp } := by
                  obtain ⟨k1, k2, k3, k4⟩ := HM.out.cut
                  show (if topN s.stack = s.stack.length then none else if allK s.kinds (s.stack.drop (s.stack.length - topN s.stack)) = true ∧ atS (cutS s (topN s.stack + 1)) 0 = 4 ∧ topN s.stack % 2 = 0 then some (cutS s (topN s.stack + 1)) else none) = _
                  rw [if_neg k3, k2, k1, ← k4, if_pos ⟨HALL.out, H13.out, H2.out⟩]
                rw [hr]
                exact HB4.out.tpost _ (.inr rfl)
              · repeat (first | refine wpP.c0 (h := ?_))
                refine wpP.last (h := fun Kv hKv => ?_)
                have d0 := HB4.out.r.c0; have d1 := HB4.out.r.c1; have d2 := HB4.out.r.c2; have d3 := HB4.out.r.c3; have d4 := HB4.out.r.c4
                have f0 := HB4.out.r.fz 0; have f1 := HB4.out.r.fz 1; have f2 := HB4.out.r.fz 2; have f3 := HB4.out.r.fz 3; have f4 := HB4.out.r.fz 4
                go_wp2_with fail
                refine hKv.out _ _ ?_
                clear hKv Kv d0 d1 d2 d3 d4 f0 f1 f2 f3 f4
                repeat (first | refine wpP.c0 (h := ?_))
                refine wpP.done ?_
                go_wp2_with fail
                have ho := HB4.out.out
                refine bodyPost_ret (results_cellt rfl _ _ (w.heap.size + 1) _ rfl (loadS ho.1)) rfl ?_
                have hr : markS s 12 = none := by
                  obtain ⟨k1, k2, k3, k4⟩ := HM.out.cut
                  show (if topN s.stack = s.stack.length then none else if allK s.kinds (s.stack.drop (s.stack.length - topN s.stack)) = true ∧ atS (cutS s (topN s.stack + 1)) 0 = 4 ∧ topN s.stack % 2 = 0 then some (cutS s (topN s.stack + 1)) else none) = _
                  rw [if_neg k3, k2, k1, ← k4, if_neg (fun h => by have := h.2.2; have h3 := HR.out; rw [this] at h3; simp at h2; exact h2 h3)]
                rw [hr]
                exact HB4.out.tpost none (.inl rfl)
            · repeat (first | refine wpP.c0 (h := ?_) | refine wpP.c0off (h := ?_))
              refine wpP.last (h := fun Kv hKv => ?_)
              have d0 := HB4.out.r.c0; have d1 := HB4.out.r.c1; have d2 := HB4.out.r.c2; have d3 := HB4.out.r.c3; have d4 := HB4.out.r.c4
              have f0 := HB4.out.r.fz 0; have f1 := HB4.out.r.fz 1; have f2 := HB4.out.r.fz 2; have f3 := HB4.out.r.fz 3; have f4 := HB4.out.r.fz 4
              go_wp2_with fail
              refine hKv.out _ _ ?_
              clear hKv Kv d0 d1 d2 d3 d4 f0 f1 f2 f3 f4
              repeat (first | refine wpP.c0 (h := ?_))
              refine wpP.done ?_
              go_wp2_with fail
              have ho := HB4.out.out
              refine bodyPost_ret (results_cellt rfl _ _ (w.heap.size + 1) _ rfl (loadS ho.1)) rfl ?_
              have hr : markS s 12 = none := by
                obtain ⟨k1, k2, k3, k4⟩ := HM.out.cut
                show (if topN s.stack = s.stack.length then none else if allK s.kinds (s.stack.drop (s.stack.length - topN s.stack)) = true ∧ atS (cutS s (topN s.stack + 1)) 0 = 4 ∧ topN s.stack % 2 = 0 then some (cutS s (topN s.stack + 1)) else none) = _
                rw [if_neg k3, k2, k1, ← k4, if_neg (fun h => by have := h.2.1; rw [← HZ0.out] at this; simp at h1; exact h1 this)]
              rw [hr]
              exact HB4.out.tpost none (.inl rfl)
      · have hx0 : 0 ≤ s.stack[p] := by omega
        clear hx
        go_wp2_with fail
        go_round
        case rel => exact ⟨(p : Int) - 1, by omega, by omega, rfl, ⟨by
          have h2 := topN_step s.stack (s.stack.length - 1 - p) (by have := hn.out; omega) (by omega) (by
            have e : s.stack.length - 1 - (s.stack.length - 1 - p) = p := by omega
            simpa only [e] using hx0)
          omega⟩⟩
        case measure => simp only [intOf]; omega
theorem markShapes_c (vK vF vS vM : Value) (s : Sh) (c : Int) (w : World) (hs : SV w vK vF vS vM s) (hok : okS s) (hc : c = 3 ∨ c = 9 ∨ c = 12 ∨ c = 18) :
    Calls Try.prog 119 #[.agg #[vK, vF, vS, vM, .bool s.done], .int .i64 c] w (TPost vK vF vS vM (markS s c) w) := by
  rcases hc with rfl | rfl | rfl | rfl
  · exact mark_3 vK vF vS vM s w hs hok
  · exact mark_9 vK vF vS vM s w hs hok
  · exact mark_12 vK vF vS vM s w hs hok
  · exact mark_18 vK vF vS vM s w hs hok
end Go.Proofs.Ytgenllcfpjgklaa.C
