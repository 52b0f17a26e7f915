/- Shapes in memory: the orders that take from the top of the stack. Shapes in memory: the orders that take from the top of the stack. -/
import Derived.Test.YtgenllcfpjgklaaCs
set_option linter.unusedVariables false
set_option linter.unusedSimpArgs false
namespace Go.Proofs.Ytgenllcfpjgklaa.C
open Go.RowKit Go.Proofs.Ytgenllcfpjgklaa.W Go.Proofs.Ytgenllcfpjgklaa.P

theorem shapeAt_i (AK AS AF AM : Option Addr) (cK cS nF cF nM cM : Nat) (dn : Bool) (s : Sh) (i : Int) (w : World) (hK : RdI w AK s.kinds) (hS : RdI w AS s.stack) (hi : ∀ x ∈ s.stack, x < s.kinds.length) (h0 : 0 ≤ i) (hd : i ≤ 1000000) :
    Calls Try.prog 134 #[.agg #[.slice AK s.kinds.length cK, .slice AF nF cF, .slice AS s.stack.length cS, .slice AM nM cM, .bool dn], .int .i64 i] w fun e w' => ∃ z, e = .returned (.int .i64 z) ∧ z = atS s i.toNat ∧ Ext w w' := by
  obtain ⟨d, rfl⟩ := Int.eq_ofNat_of_zero_le h0
  exact (shapeAt_c AK AS AF AM cK cS nF cF nM cM dn s d w hK hS hi (by omega)).mono (fun e w' h => ⟨_, h.1, by simp, h.2⟩)
abbrev OB (w : World) (g : Nat) (c a : Int) : Prop := w.heap[g]? = some (.cells #[.int .i64 c, .int .i64 a] 52 (0, 0))
theorem OB.c0 {w g c a} (h : OB w g c a) : w.cell? ⟨g, 0, none⟩ = some (.int .i64 c) := by simp [World.cell?, h]
theorem OB.c1 {w g c a} (h : OB w g c a) : w.cell? ⟨g, 1, none⟩ = some (.int .i64 a) := by simp [World.cell?, h]
/-- Shapes and an order, boxed. -/
theorem Box.new2 {vK vF vS vM s w} (h : SV w vK vF vS vM s) (c a : Int) : Box vK vF vS vM w (((w.alloc (.cells #[vK, vF, vS, vM, .bool s.done] 91)).alloc (.cells #[.int .i64 c, .int .i64 a] 52)).alloc (.cells #[.slice none 0 0, .slice none 0 0, .slice none 0 0, .slice none 0 0, .bool false] 91)) w.heap.size (w.heap.size + 1 + 1) vK vF vS vM s ∧
    OB (((w.alloc (.cells #[vK, vF, vS, vM, .bool s.done] 91)).alloc (.cells #[.int .i64 c, .int .i64 a] 52)).alloc (.cells #[.slice none 0 0, .slice none 0 0, .slice none 0 0, .slice none 0 0, .bool false] 91)) (w.heap.size + 1) c a := by
  refine ⟨⟨(((Ext.rf _).al _).al _).blk (al_new _ _), ?_, h.ext ((((Ext.rf _).al _).al _).al _), Fr.ofExt ((((Ext.rf _).al _).al _).al _), fun k hk => .inl hk, by omega, by omega⟩, ?_⟩
  · have h := al_new ((w.alloc (.cells #[vK, vF, vS, vM, .bool s.done] 91)).alloc (.cells #[.int .i64 c, .int .i64 a] 52)) (.cells #[.slice none 0 0, .slice none 0 0, .slice none 0 0, .slice none 0 0, .bool false] 91)
    rw [al_size, al_size] at h
    exact h
  · have h := al_new (w.alloc (.cells #[vK, vF, vS, vM, .bool s.done] 91)) (.cells #[.int .i64 c, .int .i64 a] 52)
    rw [al_size] at h
    exact ((Ext.rf _).al _).blk h
/-- The stack is cut. -/
theorem Box.cut {v0K v0F v0S v0M w0 w g g2 vK vF AS cS vM s} (h : Box v0K v0F v0S v0M w0 w g g2 vK vF (.slice AS s.stack.length cS) vM s) (n : Nat) :
    Box v0K v0F v0S v0M w0 (w.setCell ⟨g, 2, none⟩ (.slice AS (s.stack.length - n) cS)) g g2 vK vF (.slice AS (s.stack.length - n) cS) vM (cutS s n) := by
  refine Box.t h (l := s.stack.take (s.stack.length - n)) ?_ (Fr.rf _ _) (.inl (by cases AS <;> rfl))
  have := own_take h.v.t (s.stack.length - n) (Nat.sub_le _ _)
  unfold IR
  rw [Nat.mul_one] at this
  rw [List.length_take, Nat.min_eq_left (Nat.sub_le _ _)]
  simpa [nums] using this
/-- What becomes of shapes that are handed over, where an order may not be possible. -/
def TPost (vK vF vS vM : Value) (r : Option Sh) (w : World) (e : Ending) (w' : World) : Prop :=
  ∃ A1 n1 c1 A2 n2 c2 A3 n3 c3 A4 n4 c4 x, e = .returned (.tuple #[.agg #[.slice A1 n1 c1, .slice A2 n2 c2, .slice A3 n3 c3, .slice A4 n4 c4, .bool x], .bool r.isSome]) ∧ Fr (SF vK vF vS vM) w w' ∧
    ∀ s', r = some s' → x = s'.done ∧ SPost vK vF vS vM s' w (.slice A1 n1 c1) (.slice A2 n2 c2) (.slice A3 n3 c3) (.slice A4 n4 c4) w'
theorem Box.tpost {v0K v0F v0S v0M w0 w g g2 A1 n1 c1 A2 n2 c2 A3 n3 c3 A4 n4 c4 s} (h : Box v0K v0F v0S v0M w0 w g g2 (.slice A1 n1 c1) (.slice A2 n2 c2) (.slice A3 n3 c3) (.slice A4 n4 c4) s) (r : Option Sh) (hr : r = none ∨ r = some s) :
    TPost v0K v0F v0S v0M r w0 (.returned (.tuple #[.agg #[.slice A1 n1 c1, .slice A2 n2 c2, .slice A3 n3 c3, .slice A4 n4 c4, .bool s.done], .bool r.isSome])) (((((w.setCell ⟨g2, 0, none⟩ (.slice A1 n1 c1)).setCell ⟨g2, 1, none⟩ (.slice A2 n2 c2)).setCell ⟨g2, 2, none⟩ (.slice A3 n3 c3)).setCell ⟨g2, 3, none⟩ (.slice A4 n4 c4)).setCell ⟨g2, 4, none⟩ (.bool s.done)) := by
  refine ⟨_, _, _, _, _, _, _, _, _, _, _, _, _, rfl, h.out.2.2.1, fun s' hs' => ?_⟩
  rcases hr with rfl | rfl
  · exact nomatch hs'
  · injection hs' with hs'
    subst hs'
    exact ⟨rfl, h.out.2⟩
/-- A function of shapes is called on a box's shapes, and its result is the result. -/
theorem Box.via {v0K v0F v0S v0M w0 w w' g g2 vK vF vS vM s vK' vF' vS' vM' s'} (h : Box v0K v0F v0S v0M w0 w g g2 vK vF vS vM s) (hp : SPost vK vF vS vM s' w vK' vF' vS' vM' w') :
    SB w' g2 (.slice none 0 0) (.slice none 0 0) (.slice none 0 0) (.slice none 0 0) false ∧
    (∀ a b c d x, vK' = a → vF' = b → vS' = c → vM' = d → s'.done = x → SPost v0K v0F v0S v0M s' w0 vK' vF' vS' vM' (((((w'.setCell ⟨g2, 0, none⟩ a).setCell ⟨g2, 1, none⟩ b).setCell ⟨g2, 2, none⟩ c).setCell ⟨g2, 3, none⟩ d).setCell ⟨g2, 4, none⟩ (.bool x))) := by
  have hr := hp.2.1.blk h.r (fun e => h.v.nb h.r e)
  refine ⟨hr, ?_⟩
  rintro a b c d x rfl rfl rfl rfl rfl
  have hf := Fr.set5 (S := fun k => k = g2) (w := w') (g := g2) rfl vK' vF' vS' vM' (.bool s'.done)
  refine ⟨hp.1.fr hf (fun k hk e => hp.1.nb hr (by rw [← e]; exact hk)), (h.f.then hp.2.1 (fun i hi => h.o i hi)).then hf (fun i hi => .inr (by have := h.lo.2; omega)), fun k hk => ?_⟩
  rcases hp.2.2 k hk with e | e
  · exact h.o k e
  · have := h.f.size; exact .inr (by omega)
theorem rdA_B {w : World} {A : Option Addr} {c : Nat} {l : List Bool} (h : BR w (.slice A l.length c) l) (hl : l.length ≤ 1000000) : RdB w A l := by
  obtain ⟨A', c', hv, _, hr⟩ := BR.rd h (by omega)
  injection hv with hv
  subst hv
  exact hr
/-- An element of a row is another one. -/
theorem Box.fl0 {v0K v0F v0S v0M w0 w w2 g g2 vK vF vS vM s l} (h : Box v0K v0F v0S v0M w0 w g g2 vK vF vS vM s) (hI : BR w2 vF l) (hf : Fr (fun k => vF.ownBlock = some k) w w2) :
    Box v0K v0F v0S v0M w0 w2 g g2 vK vF vS vM { s with full := l } :=
  ⟨hf.blk h.b (fun e => h.v.nb h.b (.inr (.inl e))), hf.blk h.r (fun e => h.v.nb h.r (.inr (.inl e))), ⟨h.v.k.fr hf (fun k hk => own_ne_type h.v.k h.v.f (by decide) hk), hI, h.v.t.fr hf (fun k hk => own_ne_type h.v.t h.v.f (by decide) hk), h.v.m.fr hf (fun k hk => own_ne_type h.v.m h.v.f (by decide) hk), h.v.ks, h.v.km, h.v.sm⟩, h.f.then hf (fun i hi => h.o i (.inr (.inl hi))), h.o, h.ne, h.lo⟩
theorem Box.m0 {v0K v0F v0S v0M w0 w w2 g g2 vK vF vS vM s l} (h : Box v0K v0F v0S v0M w0 w g g2 vK vF vS vM s) (hI : IR w2 vM l) (hf : Fr (fun k => vM.ownBlock = some k) w w2) :
    Box v0K v0F v0S v0M w0 w2 g g2 vK vF vS vM { s with memo := l } :=
  ⟨hf.blk h.b (fun e => h.v.nb h.b (.inr (.inr (.inr e)))), hf.blk h.r (fun e => h.v.nb h.r (.inr (.inr (.inr e)))), ⟨h.v.k.fr hf (fun k hk e => h.v.km k hk e), h.v.f.fr hf (fun k hk => own_ne_type h.v.f h.v.m (by decide) hk), h.v.t.fr hf (fun k hk e => h.v.sm k hk e), hI, h.v.ks, h.v.km, h.v.sm⟩, h.f.then hf (fun i hi => h.o i (.inr (.inr (.inr hi)))), h.o, h.ne, h.lo⟩
theorem Box.fset {v0K v0F v0S v0M w0 w g g2 vK ad n c vS vM s} (h : Box v0K v0F v0S v0M w0 w g g2 vK (.slice (some ad) n c) vS vM s) (k : Nat) (b : Bool) :
    Box v0K v0F v0S v0M w0 (w.setCell (ad.add k) (.bool b)) g g2 vK (.slice (some ad) n c) vS vM { s with full := s.full.set k b } := by
  obtain ⟨A', c', hv, _, _⟩ := own_form h.v.f
  injection hv with hv1 hv2 hv3
  subst hv1 hv2 hv3
  have hf : World.ownsRow w 0 4 1 (.slice (some ad) s.full.length c) s.full.length (bools s.full) := h.v.f
  obtain ⟨gF, rfl⟩ := own_ad hf
  rw [(add_at gF k 0).1]
  refine h.fl0 ?_ (Fr.set _ _ (by rfl))
  have := own_set hf k (.bool b)
  unfold BR
  rw [List.length_set]
  simpa [bools, List.map_set] using this
theorem Box.mset {v0K v0F v0S v0M w0 w g g2 vK vF vS ad n c s} (h : Box v0K v0F v0S v0M w0 w g g2 vK vF vS (.slice (some ad) n c) s) (k : Nat) (z : Int) :
    Box v0K v0F v0S v0M w0 (w.setCell (ad.add k) (.int .i64 z)) g g2 vK vF vS (.slice (some ad) n c) { s with memo := s.memo.set k z } := by
  obtain ⟨A', c', hv, _, _⟩ := own_form h.v.m
  injection hv with hv1 hv2 hv3
  subst hv1 hv2 hv3
  have hf : World.ownsRow w 0 3 1 (.slice (some ad) s.memo.length c) s.memo.length (nums s.memo) := h.v.m
  obtain ⟨gF, rfl⟩ := own_ad hf
  rw [(add_at gF k 0).1]
  refine h.m0 ?_ (Fr.set _ _ (by rfl))
  have := own_set hf k (.int .i64 z)
  unfold IR
  rw [List.length_set]
  simpa [nums, List.map_set] using this
theorem Box.dn {v0K v0F v0S v0M w0 w g g2 vK vF vS vM s} (h : Box v0K v0F v0S v0M w0 w g g2 vK vF vS vM s) (b : Bool) : Box v0K v0F v0S v0M w0 (w.setCell ⟨g, 4, none⟩ (.bool b)) g g2 vK vF vS vM { s with done := b } :=
  have q := h.v.set h.b 4 (.bool b)
  ⟨h.b.set.2.2.2 b, (Below.heap_setCell _ _ _ _ h.ne.symm).trans h.r, ⟨q.k, q.f, q.t, q.m, q.ks, q.km, q.sm⟩, fr_old h.f h.lo.1 rfl, h.o, h.ne, h.lo⟩
theorem Box.tvia {v0K v0F v0S v0M w0 w w' g g2 vK vF vS vM s A1 n1 c1 A2 n2 c2 A3 n3 c3 A4 n4 c4 s'} (h : Box v0K v0F v0S v0M w0 w g g2 vK vF vS vM s) (hp : SPost vK vF vS vM s' w (.slice A1 n1 c1) (.slice A2 n2 c2) (.slice A3 n3 c3) (.slice A4 n4 c4) w') :
    TPost v0K v0F v0S v0M (some s') w0 (.returned (.tuple #[.agg #[.slice A1 n1 c1, .slice A2 n2 c2, .slice A3 n3 c3, .slice A4 n4 c4, .bool s'.done], .bool true])) (((((w'.setCell ⟨g2, 0, none⟩ (.slice A1 n1 c1)).setCell ⟨g2, 1, none⟩ (.slice A2 n2 c2)).setCell ⟨g2, 2, none⟩ (.slice A3 n3 c3)).setCell ⟨g2, 3, none⟩ (.slice A4 n4 c4)).setCell ⟨g2, 4, none⟩ (.bool s'.done)) := by
  have hv := (h.via hp).2 _ _ _ _ _ rfl rfl rfl rfl rfl
  refine ⟨_, _, _, _, _, _, _, _, _, _, _, _, _, rfl, hv.2.1, fun s1 hs1 => ?_⟩
  injection hs1 with hs1
  subst hs1
  exact ⟨rfl, hv⟩
theorem SV.forms {w vK vF vS vM s} (h : SV w vK vF vS vM s) : ∃ A1 c1 A2 c2 A3 c3 A4 c4, vK = .slice A1 s.kinds.length c1 ∧ vF = .slice A2 s.full.length c2 ∧ vS = .slice A3 s.stack.length c3 ∧ vM = .slice A4 s.memo.length c4 := by
  obtain ⟨A1, c1, h1, _, _⟩ := own_form h.k
  obtain ⟨A2, c2, h2, _, _⟩ := own_form h.f
  obtain ⟨A3, c3, h3, _, _⟩ := own_form h.t
  obtain ⟨A4, c4, h4, _, _⟩ := own_form h.m
  exact ⟨A1, c1, A2, c2, A3, c3, A4, c4, h1, h2, h3, h4⟩
theorem Box.same {v0K v0F v0S v0M w0 w g g2 vK vF vS vM s} (h : Box v0K v0F v0S v0M w0 w g g2 vK vF vS vM s) : Box v0K v0F v0S v0M w0 (w.setCell ⟨g, 2, none⟩ vS) g g2 vK vF vS vM s :=
  Box.t h h.v.t (Fr.rf _ _) (FreshOr.rf _ _)
theorem slice_toA (A : Option Addr) (n c : Nat) (hc : n ≤ c) : ∀ W : World, (Instr.slice 23 (.slice A n c) none (some (.int .i64 (n : Int))) none).run Try.prog W = .ok (.slice A n c) W := by
  intro W
  have := slice_toI A n c 0 (Nat.zero_le _) hc W
  simpa using this
theorem wrapI (x : Int) (h1 : -9223372036854775808 ≤ x) (h2 : x ≤ 9223372036854775807) : IntKind.i64.wrap x = x := by rw [IntKind.wrap_i64]; omega
theorem sizS_cut {s : Sh} (h : sizS s) (n : Nat) : sizS (cutS s n) := ⟨h.k, h.f, by have := h.t; simp [cutS]; omega, h.m⟩
theorem keyKind_c (k : Int) (w : World) : Calls Try.prog 135 #[.int .i64 k] w fun e w' => e = .returned (.bool (keyK k)) ∧ w = w' := by
  rcases bceq k 0 with h0 | h0
  · subst h0; go_enter Try.func135, Try.ntmps135; go_wp2; go_ret; exact ⟨rfl, rfl⟩
  · go_enter Try.func135, Try.ntmps135
    go_wp2
    go_ret
    exact ⟨by unfold keyK; rw [h0]; rfl, rfl⟩

set_option maxRecDepth 100000 in
set_option maxHeartbeats 1000000 in
theorem take_17 (vK vF vS vM : Value) (s : Sh) (arg : Int) (w : World) (hs : SV w vK vF vS vM s) (hok : okS s) :
    Calls Try.prog 120 #[.agg #[vK, vF, vS, vM, .bool s.done], .agg #[.int .i64 17, .int .i64 arg]] w (TPost vK vF vS vM (takeS s ⟨17, arg⟩) w) := by
  obtain ⟨AK, cK, AF, cF, AS, cS, AM, cM, rfl, rfl, rfl, rfl, q1, q2, q3, q4, r1, r2, r3, r4⟩ := hs.rd hok.siz.k hok.siz.f hok.siz.t hok.siz.m
  have hsl := hok.sl
  have hn := Box.new2 hs 17 arg
  have HN := As.mk hn
  have HS := As.mk hs
  have HOK := As.mk hok
  clear hs hn hok r1 r2 r3 r4
  go_enter Try.func120, Try.ntmps120
  go_upto_region 1 with fail
  generalize ((w.alloc (.cells #[.slice AK s.kinds.length cK, .slice AF s.full.length cF, .slice AS s.stack.length cS, .slice AM s.memo.length cM, .bool s.done] 91)).alloc (.cells #[.int .i64 17, .int .i64 arg] 52)).alloc (.cells #[.slice none 0 0, .slice none 0 0, .slice none 0 0, .slice none 0 0, .bool false] 91) = w1 at HN ⊢
  have hb := HN.out.1
  have HO := As.mk HN.out.2
  clear HN
  have HB := As.mk hb; have c0 := hb.b.c0; have c1 := hb.b.c1; have c2 := hb.b.c2; have c3 := hb.b.c3; have c4 := hb.b.c4; clear hb
  go_upto_region 2 with (go_at_call 134; refine (shapeAt_i _ _ _ _ _ _ _ _ _ _ _ s _ _ (rdA_I HB.out.v.k HOK.out.siz.k) (rdA_I HB.out.v.t HOK.out.siz.t) HOK.out.lt (by omega) (by omega)).mono ?_; rintro e w2 ⟨z0, rfl, hz, he⟩; have HZ0 := As.mk hz; have hb := HB.out.ext he; have HO2 := As.mk (he.blk HO.out); clear hz he HO)
  clear c0 c1 c2 c3 c4 HB
  have HO := HO2
  clear HO2
  have HB := As.mk hb; have c0 := hb.b.c0; have c1 := hb.b.c1; have c2 := hb.b.c2; have c3 := hb.b.c3; have c4 := hb.b.c4; clear hb
  go_upto_region 3 with (go_at_call 134; refine (shapeAt_i _ _ _ _ _ _ _ _ _ _ _ s _ _ (rdA_I HB.out.v.k HOK.out.siz.k) (rdA_I HB.out.v.t HOK.out.siz.t) HOK.out.lt (by omega) (by omega)).mono ?_; rintro e w3 ⟨z1, rfl, hz, he⟩; have HZ1 := As.mk hz; have hb := HB.out.ext he; have HO2 := As.mk (he.blk HO.out); clear hz he HO)
  clear c0 c1 c2 c3 c4 HB
  have HO := HO2
  clear HO2
  have HB := As.mk hb; have c0 := hb.b.c0; have c1 := hb.b.c1; have c2 := hb.b.c2; have c3 := hb.b.c3; have c4 := hb.b.c4; clear hb
  have HZ0 : As (z0 = atS s 0) := HZ0
  have HZ1 : As (z1 = atS s 1) := HZ1
  have o0 := OB.c0 HO.out
  have o1 := OB.c1 HO.out
  have d0 := HB.out.r.c0; have d1 := HB.out.r.c1; have d2 := HB.out.r.c2; have d3 := HB.out.r.c3; have d4 := HB.out.r.c4
  have f0 := HB.out.r.fz 0; have f1 := HB.out.r.fz 1; have f2 := HB.out.r.fz 2; have f3 := HB.out.r.fz 3; have f4 := HB.out.r.fz 4
  have fs := HB.out.b.fz 2
  rcases bcase (0 ≤ z0) with h0 | h0
  · have hl0 := atS_nonneg (s := s) (d := 0) (by rw [← HZ0.out]; exact h0)
    have hlen := hl0.1
    have HL0 := As.mk hl0
    clear hl0
    have hsl1 := slice_toI AS s.stack.length cS 1 (by omega) q3
    have hb2 := HB.out.cut 1
    have HB2 := As.mk hb2
    clear hb2
    go_wp2_with fail
    have ho := HB2.out.out
    refine bodyPost_ret (results_cellt rfl _ _ (w.heap.size + 1 + 1) _ rfl (loadS ho.1)) rfl ?_
    have hr : takeS s ⟨17, arg⟩ = some (cutS s 1) := by show (if atS s 0 < 0 then none else some (cutS s 1)) = _; exact if_neg (by rw [← HZ0.out]; omega)
    rw [hr]
    exact HB2.out.tpost _ (.inr rfl)
  · go_wp2_with fail
    have ho := HB.out.out
    refine bodyPost_ret (results_cellt rfl _ _ (w.heap.size + 1 + 1) _ rfl (loadS ho.1)) rfl ?_
    have hr : takeS s ⟨17, arg⟩ = none := by unfold takeS; exact if_pos (by rw [← HZ0.out]; simpa using h0)
    rw [hr]
    exact HB.out.tpost _ (.inl rfl)
set_option maxRecDepth 100000 in
set_option maxHeartbeats 1000000 in
theorem take_5 (vK vF vS vM : Value) (s : Sh) (arg : Int) (w : World) (hs : SV w vK vF vS vM s) (hok : okS s) :
    Calls Try.prog 120 #[.agg #[vK, vF, vS, vM, .bool s.done], .agg #[.int .i64 5, .int .i64 arg]] w (TPost vK vF vS vM (takeS s ⟨5, arg⟩) w) := by
  obtain ⟨AK, cK, AF, cF, AS, cS, AM, cM, rfl, rfl, rfl, rfl, q1, q2, q3, q4, r1, r2, r3, r4⟩ := hs.rd hok.siz.k hok.siz.f hok.siz.t hok.siz.m
  have hsl := hok.sl
  have hn := Box.new2 hs 5 arg
  have HN := As.mk hn
  have HS := As.mk hs
  have HOK := As.mk hok
  clear hs hn hok r1 r2 r3 r4
  go_enter Try.func120, Try.ntmps120
  go_upto_region 1 with fail
  generalize ((w.alloc (.cells #[.slice AK s.kinds.length cK, .slice AF s.full.length cF, .slice AS s.stack.length cS, .slice AM s.memo.length cM, .bool s.done] 91)).alloc (.cells #[.int .i64 5, .int .i64 arg] 52)).alloc (.cells #[.slice none 0 0, .slice none 0 0, .slice none 0 0, .slice none 0 0, .bool false] 91) = w1 at HN ⊢
  have hb := HN.out.1
  have HO := As.mk HN.out.2
  clear HN
  have HB := As.mk hb; have c0 := hb.b.c0; have c1 := hb.b.c1; have c2 := hb.b.c2; have c3 := hb.b.c3; have c4 := hb.b.c4; clear hb
  go_upto_region 2 with (go_at_call 134; refine (shapeAt_i _ _ _ _ _ _ _ _ _ _ _ s _ _ (rdA_I HB.out.v.k HOK.out.siz.k) (rdA_I HB.out.v.t HOK.out.siz.t) HOK.out.lt (by omega) (by omega)).mono ?_; rintro e w2 ⟨z0, rfl, hz, he⟩; have HZ0 := As.mk hz; have hb := HB.out.ext he; have HO2 := As.mk (he.blk HO.out); clear hz he HO)
  clear c0 c1 c2 c3 c4 HB
  have HO := HO2
  clear HO2
  have HB := As.mk hb; have c0 := hb.b.c0; have c1 := hb.b.c1; have c2 := hb.b.c2; have c3 := hb.b.c3; have c4 := hb.b.c4; clear hb
  go_upto_region 3 with (go_at_call 134; refine (shapeAt_i _ _ _ _ _ _ _ _ _ _ _ s _ _ (rdA_I HB.out.v.k HOK.out.siz.k) (rdA_I HB.out.v.t HOK.out.siz.t) HOK.out.lt (by omega) (by omega)).mono ?_; rintro e w3 ⟨z1, rfl, hz, he⟩; have HZ1 := As.mk hz; have hb := HB.out.ext he; have HO2 := As.mk (he.blk HO.out); clear hz he HO)
  clear c0 c1 c2 c3 c4 HB
  have HO := HO2
  clear HO2
  have HB := As.mk hb; have c0 := hb.b.c0; have c1 := hb.b.c1; have c2 := hb.b.c2; have c3 := hb.b.c3; have c4 := hb.b.c4; clear hb
  have HZ0 : As (z0 = atS s 0) := HZ0
  have HZ1 : As (z1 = atS s 1) := HZ1
  have o0 := OB.c0 HO.out
  have o1 := OB.c1 HO.out
  have d0 := HB.out.r.c0; have d1 := HB.out.r.c1; have d2 := HB.out.r.c2; have d3 := HB.out.r.c3; have d4 := HB.out.r.c4
  have f0 := HB.out.r.fz 0; have f1 := HB.out.r.fz 1; have f2 := HB.out.r.fz 2; have f3 := HB.out.r.fz 3; have f4 := HB.out.r.fz 4
  have fs := HB.out.b.fz 2
  rcases bcase (0 ≤ z0) with h0 | h0
  · have hl0 := atS_nonneg (s := s) (d := 0) (by rw [← HZ0.out]; exact h0)
    have hlen := hl0.1
    have HL0 := As.mk hl0
    clear hl0
    have hsl1 := slice_toI AS s.stack.length cS 1 (by omega) q3
    have hb2 := HB.out.cut 1
    have HB2 := As.mk hb2
    clear hb2
    go_wp2_with (go_at_call 118; refine (pushShape_c _ _ _ _ (cutS s 1) 2 _ HB2.out.v (sizS_cut HOK.out.siz 1).k (sizS_cut HOK.out.siz 1).f (sizS_cut HOK.out.siz 1).t).mono ?_; rintro e w4 ⟨vK', vF', vS', vM', rfl, hp⟩; obtain ⟨B1, e1, B2, e2, B3, e3, B4, e4, rfl, rfl, rfl, rfl⟩ := hp.1.forms; have HP := As.mk hp; have hr := (HB2.out.via hp).1; have HR4 := As.mk hr; have d0 := hr.c0; have d1 := hr.c1; have d2 := hr.c2; have d3 := hr.c3; have d4 := hr.c4; have f0 := hr.fz 0; have f1 := hr.fz 1; have f2 := hr.fz 2; have f3 := hr.fz 3; have f4 := hr.fz 4; clear hp hr)
    refine bodyPost_ret (results_cellt rfl _ _ (w.heap.size + 1 + 1) _ rfl (loadS (SB.all _ _ _ _ _ HR4.out))) rfl ?_
    have hr : takeS s ⟨5, arg⟩ = some (pushS (cutS s 1) 2) := by show (if atS s 0 < 0 then none else some (pushS (cutS s 1) 2)) = _; exact if_neg (by rw [← HZ0.out]; omega)
    rw [hr]
    exact HB2.out.tvia HP.out
  · go_wp2_with fail
    have ho := HB.out.out
    refine bodyPost_ret (results_cellt rfl _ _ (w.heap.size + 1 + 1) _ rfl (loadS ho.1)) rfl ?_
    have hr : takeS s ⟨5, arg⟩ = none := by unfold takeS; exact if_pos (by rw [← HZ0.out]; simpa using h0)
    rw [hr]
    exact HB.out.tpost _ (.inl rfl)
set_option maxRecDepth 100000 in
set_option maxHeartbeats 1000000 in
theorem take_6 (vK vF vS vM : Value) (s : Sh) (arg : Int) (w : World) (hs : SV w vK vF vS vM s) (hok : okS s) :
    Calls Try.prog 120 #[.agg #[vK, vF, vS, vM, .bool s.done], .agg #[.int .i64 6, .int .i64 arg]] w (TPost vK vF vS vM (takeS s ⟨6, arg⟩) w) := by
  obtain ⟨AK, cK, AF, cF, AS, cS, AM, cM, rfl, rfl, rfl, rfl, q1, q2, q3, q4, r1, r2, r3, r4⟩ := hs.rd hok.siz.k hok.siz.f hok.siz.t hok.siz.m
  have hsl := hok.sl
  have hn := Box.new2 hs 6 arg
  have HN := As.mk hn
  have HS := As.mk hs
  have HOK := As.mk hok
  clear hs hn hok r1 r2 r3 r4
  go_enter Try.func120, Try.ntmps120
  go_upto_region 1 with fail
  generalize ((w.alloc (.cells #[.slice AK s.kinds.length cK, .slice AF s.full.length cF, .slice AS s.stack.length cS, .slice AM s.memo.length cM, .bool s.done] 91)).alloc (.cells #[.int .i64 6, .int .i64 arg] 52)).alloc (.cells #[.slice none 0 0, .slice none 0 0, .slice none 0 0, .slice none 0 0, .bool false] 91) = w1 at HN ⊢
  have hb := HN.out.1
  have HO := As.mk HN.out.2
  clear HN
  have HB := As.mk hb; have c0 := hb.b.c0; have c1 := hb.b.c1; have c2 := hb.b.c2; have c3 := hb.b.c3; have c4 := hb.b.c4; clear hb
  go_upto_region 2 with (go_at_call 134; refine (shapeAt_i _ _ _ _ _ _ _ _ _ _ _ s _ _ (rdA_I HB.out.v.k HOK.out.siz.k) (rdA_I HB.out.v.t HOK.out.siz.t) HOK.out.lt (by omega) (by omega)).mono ?_; rintro e w2 ⟨z0, rfl, hz, he⟩; have HZ0 := As.mk hz; have hb := HB.out.ext he; have HO2 := As.mk (he.blk HO.out); clear hz he HO)
  clear c0 c1 c2 c3 c4 HB
  have HO := HO2
  clear HO2
  have HB := As.mk hb; have c0 := hb.b.c0; have c1 := hb.b.c1; have c2 := hb.b.c2; have c3 := hb.b.c3; have c4 := hb.b.c4; clear hb
  go_upto_region 3 with (go_at_call 134; refine (shapeAt_i _ _ _ _ _ _ _ _ _ _ _ s _ _ (rdA_I HB.out.v.k HOK.out.siz.k) (rdA_I HB.out.v.t HOK.out.siz.t) HOK.out.lt (by omega) (by omega)).mono ?_; rintro e w3 ⟨z1, rfl, hz, he⟩; have HZ1 := As.mk hz; have hb := HB.out.ext he; have HO2 := As.mk (he.blk HO.out); clear hz he HO)
  clear c0 c1 c2 c3 c4 HB
  have HO := HO2
  clear HO2
  have HB := As.mk hb; have c0 := hb.b.c0; have c1 := hb.b.c1; have c2 := hb.b.c2; have c3 := hb.b.c3; have c4 := hb.b.c4; clear hb
  have HZ0 : As (z0 = atS s 0) := HZ0
  have HZ1 : As (z1 = atS s 1) := HZ1
  have o0 := OB.c0 HO.out
  have o1 := OB.c1 HO.out
  have d0 := HB.out.r.c0; have d1 := HB.out.r.c1; have d2 := HB.out.r.c2; have d3 := HB.out.r.c3; have d4 := HB.out.r.c4
  have f0 := HB.out.r.fz 0; have f1 := HB.out.r.fz 1; have f2 := HB.out.r.fz 2; have f3 := HB.out.r.fz 3; have f4 := HB.out.r.fz 4
  have fs := HB.out.b.fz 2
  rcases bcase (0 ≤ z0) with h0 | h0
  · have hl0 := atS_nonneg (s := s) (d := 0) (by rw [← HZ0.out]; exact h0)
    have hlen := hl0.1
    have HL0 := As.mk hl0
    clear hl0
    rcases bcase (z1 < 0) with h1 | h1
    · go_wp2_with fail
      have ho := HB.out.out
      refine bodyPost_ret (results_cellt rfl _ _ (w.heap.size + 1 + 1) _ rfl (loadS ho.1)) rfl ?_
      have hr : takeS s ⟨6, arg⟩ = none := by show (if atS s 0 < 0 then none else if atS s 1 < 0 then none else some (pushS (cutS s 2) 2)) = _; rw [if_neg (by rw [← HZ0.out]; omega), if_pos (by rw [← HZ1.out]; exact h1)]
      rw [hr]
      exact HB.out.tpost _ (.inl rfl)
    · have h1n : 0 ≤ z1 := by simpa using h1
      have hlen1 := (atS_nonneg (s := s) (d := 1) (by rw [← HZ1.out]; exact h1n)).1
      have hsl1 := slice_toI AS s.stack.length cS 2 (by omega) q3
      have hb2 := HB.out.cut 2
      have HB2 := As.mk hb2
      clear hb2
      go_wp2_with (go_at_call 118; refine (pushShape_c _ _ _ _ (cutS s 2) 2 _ HB2.out.v (sizS_cut HOK.out.siz 2).k (sizS_cut HOK.out.siz 2).f (sizS_cut HOK.out.siz 2).t).mono ?_; rintro e w4 ⟨vK', vF', vS', vM', rfl, hp⟩; obtain ⟨B1, e1, B2, e2, B3, e3, B4, e4, rfl, rfl, rfl, rfl⟩ := hp.1.forms; have HP := As.mk hp; have hr := (HB2.out.via hp).1; have HR4 := As.mk hr; have d0 := hr.c0; have d1 := hr.c1; have d2 := hr.c2; have d3 := hr.c3; have d4 := hr.c4; have f0 := hr.fz 0; have f1 := hr.fz 1; have f2 := hr.fz 2; have f3 := hr.fz 3; have f4 := hr.fz 4; clear hp hr)
      refine bodyPost_ret (results_cellt rfl _ _ (w.heap.size + 1 + 1) _ rfl (loadS (SB.all _ _ _ _ _ HR4.out))) rfl ?_
      have hr : takeS s ⟨6, arg⟩ = some (pushS (cutS s 2) 2) := by show (if atS s 0 < 0 then none else if atS s 1 < 0 then none else some (pushS (cutS s 2) 2)) = _; rw [if_neg (by rw [← HZ0.out]; omega), if_neg (by rw [← HZ1.out]; omega)]
      rw [hr]
      exact HB2.out.tvia HP.out
  · go_wp2_with fail
    have ho := HB.out.out
    refine bodyPost_ret (results_cellt rfl _ _ (w.heap.size + 1 + 1) _ rfl (loadS ho.1)) rfl ?_
    have hr : takeS s ⟨6, arg⟩ = none := by unfold takeS; exact if_pos (by rw [← HZ0.out]; simpa using h0)
    rw [hr]
    exact HB.out.tpost _ (.inl rfl)
set_option maxRecDepth 100000 in
set_option maxHeartbeats 1000000 in
theorem take_8 (vK vF vS vM : Value) (s : Sh) (arg : Int) (w : World) (hs : SV w vK vF vS vM s) (hok : okS s) :
    Calls Try.prog 120 #[.agg #[vK, vF, vS, vM, .bool s.done], .agg #[.int .i64 8, .int .i64 arg]] w (TPost vK vF vS vM (takeS s ⟨8, arg⟩) w) := by
  obtain ⟨AK, cK, AF, cF, AS, cS, AM, cM, rfl, rfl, rfl, rfl, q1, q2, q3, q4, r1, r2, r3, r4⟩ := hs.rd hok.siz.k hok.siz.f hok.siz.t hok.siz.m
  have hsl := hok.sl
  have hn := Box.new2 hs 8 arg
  have HN := As.mk hn
  have HS := As.mk hs
  have HOK := As.mk hok
  clear hs hn hok r1 r2 r3 r4
  go_enter Try.func120, Try.ntmps120
  go_upto_region 1 with fail
  generalize ((w.alloc (.cells #[.slice AK s.kinds.length cK, .slice AF s.full.length cF, .slice AS s.stack.length cS, .slice AM s.memo.length cM, .bool s.done] 91)).alloc (.cells #[.int .i64 8, .int .i64 arg] 52)).alloc (.cells #[.slice none 0 0, .slice none 0 0, .slice none 0 0, .slice none 0 0, .bool false] 91) = w1 at HN ⊢
  have hb := HN.out.1
  have HO := As.mk HN.out.2
  clear HN
  have HB := As.mk hb; have c0 := hb.b.c0; have c1 := hb.b.c1; have c2 := hb.b.c2; have c3 := hb.b.c3; have c4 := hb.b.c4; clear hb
  go_upto_region 2 with (go_at_call 134; refine (shapeAt_i _ _ _ _ _ _ _ _ _ _ _ s _ _ (rdA_I HB.out.v.k HOK.out.siz.k) (rdA_I HB.out.v.t HOK.out.siz.t) HOK.out.lt (by omega) (by omega)).mono ?_; rintro e w2 ⟨z0, rfl, hz, he⟩; have HZ0 := As.mk hz; have hb := HB.out.ext he; have HO2 := As.mk (he.blk HO.out); clear hz he HO)
  clear c0 c1 c2 c3 c4 HB
  have HO := HO2
  clear HO2
  have HB := As.mk hb; have c0 := hb.b.c0; have c1 := hb.b.c1; have c2 := hb.b.c2; have c3 := hb.b.c3; have c4 := hb.b.c4; clear hb
  go_upto_region 3 with (go_at_call 134; refine (shapeAt_i _ _ _ _ _ _ _ _ _ _ _ s _ _ (rdA_I HB.out.v.k HOK.out.siz.k) (rdA_I HB.out.v.t HOK.out.siz.t) HOK.out.lt (by omega) (by omega)).mono ?_; rintro e w3 ⟨z1, rfl, hz, he⟩; have HZ1 := As.mk hz; have hb := HB.out.ext he; have HO2 := As.mk (he.blk HO.out); clear hz he HO)
  clear c0 c1 c2 c3 c4 HB
  have HO := HO2
  clear HO2
  have HB := As.mk hb; have c0 := hb.b.c0; have c1 := hb.b.c1; have c2 := hb.b.c2; have c3 := hb.b.c3; have c4 := hb.b.c4; clear hb
  have HZ0 : As (z0 = atS s 0) := HZ0
  have HZ1 : As (z1 = atS s 1) := HZ1
  have o0 := OB.c0 HO.out
  have o1 := OB.c1 HO.out
  have d0 := HB.out.r.c0; have d1 := HB.out.r.c1; have d2 := HB.out.r.c2; have d3 := HB.out.r.c3; have d4 := HB.out.r.c4
  have f0 := HB.out.r.fz 0; have f1 := HB.out.r.fz 1; have f2 := HB.out.r.fz 2; have f3 := HB.out.r.fz 3; have f4 := HB.out.r.fz 4
  have fs := HB.out.b.fz 2
  rcases bcase (0 ≤ z0) with h0 | h0
  · have hl0 := atS_nonneg (s := s) (d := 0) (by rw [← HZ0.out]; exact h0)
    have hlen := hl0.1
    have HL0 := As.mk hl0
    clear hl0
    rcases bceq z1 3 with h1 | h1
    · have h13 : atS s 1 = 3 := by rw [← HZ1.out]; exact h1
      have hlen1 := (atS_nonneg (s := s) (d := 1) (by rw [h13]; omega)).1
      have H13 := As.mk h13
      clear h13 HZ1
      subst h1
      have hsl1 := slice_toI AS s.stack.length cS 1 (by omega) q3
      have hb2 := HB.out.cut 1
      have HB2 := As.mk hb2
      clear hb2
      go_wp2_with fail
      have ho := HB2.out.out
      refine bodyPost_ret (results_cellt rfl _ _ (w.heap.size + 1 + 1) _ rfl (loadS ho.1)) rfl ?_
      have hr : takeS s ⟨8, arg⟩ = some (cutS s 1) := by show (if atS s 0 < 0 then none else if atS s 1 = 3 then some (cutS s 1) else none) = _; rw [if_neg (by rw [← HZ0.out]; omega), if_pos H13.out]
      rw [hr]
      exact HB2.out.tpost _ (.inr rfl)
    · go_wp2_with fail
      have ho := HB.out.out
      refine bodyPost_ret (results_cellt rfl _ _ (w.heap.size + 1 + 1) _ rfl (loadS ho.1)) rfl ?_
      have hr : takeS s ⟨8, arg⟩ = none := by show (if atS s 0 < 0 then none else if atS s 1 = 3 then some (cutS s 1) else none) = _; rw [if_neg (by rw [← HZ0.out]; omega), if_neg (by rw [← HZ1.out]; simpa using h1)]
      rw [hr]
      exact HB.out.tpost _ (.inl rfl)
  · go_wp2_with fail
    have ho := HB.out.out
    refine bodyPost_ret (results_cellt rfl _ _ (w.heap.size + 1 + 1) _ rfl (loadS ho.1)) rfl ?_
    have hr : takeS s ⟨8, arg⟩ = none := by unfold takeS; exact if_pos (by rw [← HZ0.out]; simpa using h0)
    rw [hr]
    exact HB.out.tpost _ (.inl rfl)
end Go.Proofs.Ytgenllcfpjgklaa.C
namespace Go.Proofs.Ytgenllcfpjgklaa.C
open Go.RowKit Go.Proofs.Ytgenllcfpjgklaa.W Go.Proofs.Ytgenllcfpjgklaa.P

set_option maxRecDepth 100000 in
set_option maxHeartbeats 1000000 in
theorem take_15 (vK vF vS vM : Value) (s : Sh) (arg : Int) (w : World) (hs : SV w vK vF vS vM s) (hok : okS s) (ha0 : 0 ≤ arg) (ha : arg ≤ 19) :
    Calls Try.prog 120 #[.agg #[vK, vF, vS, vM, .bool s.done], .agg #[.int .i64 15, .int .i64 arg]] w (TPost vK vF vS vM (takeS s ⟨15, arg⟩) w) := by
  obtain ⟨AK, cK, AF, cF, AS, cS, AM, cM, rfl, rfl, rfl, rfl, q1, q2, q3, q4, r1, r2, r3, r4⟩ := hs.rd hok.siz.k hok.siz.f hok.siz.t hok.siz.m
  have hsl := hok.sl
  have hn := Box.new2 hs 15 arg
  have HN := As.mk hn
  have HS := As.mk hs
  have HOK := As.mk hok
  clear hs hn hok r1 r2 r3 r4
  go_enter Try.func120, Try.ntmps120
  go_upto_region 1 with fail
  generalize ((w.alloc (.cells #[.slice AK s.kinds.length cK, .slice AF s.full.length cF, .slice AS s.stack.length cS, .slice AM s.memo.length cM, .bool s.done] 91)).alloc (.cells #[.int .i64 15, .int .i64 arg] 52)).alloc (.cells #[.slice none 0 0, .slice none 0 0, .slice none 0 0, .slice none 0 0, .bool false] 91) = w1 at HN ⊢
  have hb := HN.out.1
  have HO := As.mk HN.out.2
  clear HN
  have HB := As.mk hb; have c0 := hb.b.c0; have c1 := hb.b.c1; have c2 := hb.b.c2; have c3 := hb.b.c3; have c4 := hb.b.c4; clear hb
  go_upto_region 2 with (go_at_call 134; refine (shapeAt_i _ _ _ _ _ _ _ _ _ _ _ s _ _ (rdA_I HB.out.v.k HOK.out.siz.k) (rdA_I HB.out.v.t HOK.out.siz.t) HOK.out.lt (by omega) (by omega)).mono ?_; rintro e w2 ⟨z0, rfl, hz, he⟩; have HZ0 := As.mk hz; have hb := HB.out.ext he; have HO2 := As.mk (he.blk HO.out); clear hz he HO)
  clear c0 c1 c2 c3 c4 HB
  have HO := HO2
  clear HO2
  have HB := As.mk hb; have c0 := hb.b.c0; have c1 := hb.b.c1; have c2 := hb.b.c2; have c3 := hb.b.c3; have c4 := hb.b.c4; clear hb
  go_upto_region 3 with (go_at_call 134; refine (shapeAt_i _ _ _ _ _ _ _ _ _ _ _ s _ _ (rdA_I HB.out.v.k HOK.out.siz.k) (rdA_I HB.out.v.t HOK.out.siz.t) HOK.out.lt (by omega) (by omega)).mono ?_; rintro e w3 ⟨z1, rfl, hz, he⟩; have HZ1 := As.mk hz; have hb := HB.out.ext he; have HO2 := As.mk (he.blk HO.out); clear hz he HO)
  clear c0 c1 c2 c3 c4 HB
  have HO := HO2
  clear HO2
  have HB := As.mk hb; have c0 := hb.b.c0; have c1 := hb.b.c1; have c2 := hb.b.c2; have c3 := hb.b.c3; have c4 := hb.b.c4; clear hb
  have HZ0 : As (z0 = atS s 0) := HZ0
  have HZ1 : As (z1 = atS s 1) := HZ1
  have o0 := OB.c0 HO.out
  have o1 := OB.c1 HO.out
  have d0 := HB.out.r.c0; have d1 := HB.out.r.c1; have d2 := HB.out.r.c2; have d3 := HB.out.r.c3; have d4 := HB.out.r.c4
  have f0 := HB.out.r.fz 0; have f1 := HB.out.r.fz 1; have f2 := HB.out.r.fz 2; have f3 := HB.out.r.fz 3; have f4 := HB.out.r.fz 4
  have fs := HB.out.b.fz 2
  rcases bcase (0 ≤ z0) with h0 | h0
  · have hl0 := atS_nonneg (s := s) (d := 0) (by rw [← HZ0.out]; exact h0)
    have hlen := hl0.1
    have HL0 := As.mk hl0
    clear hl0
    obtain ⟨k, rfl⟩ := Int.eq_ofNat_of_zero_le ha0
    have hk : k < s.memo.length := by have := HOK.out.ml; omega
    obtain ⟨aM, rfl, m1⟩ := (rdA_I HB.out.v.m HOK.out.siz.m).2 k hk
    obtain ⟨aS, rfl, m2⟩ := (rdA_I HB.out.v.t HOK.out.siz.t).2 (s.stack.length - 1) (by omega)
    have hsx : s.stack[s.stack.length - 1] = st s.stack 0 := (st_at _ _ hlen).symm
    rw [hsx] at m2
    obtain ⟨x, hx⟩ : ∃ x, x = st s.stack 0 := ⟨_, rfl⟩
    rw [← hx] at m2
    have HX := As.mk hx
    clear hx hsx
    have hb2 := HB.out.mset k x
    have HB2 := As.mk hb2
    clear hb2
    have hx1 : ((s.stack.length : Int) - 1).toNat = s.stack.length - 1 := by omega
    have hx2 : 0 ≤ (s.stack.length : Int) - 1 := by omega
    have hx3 : (s.stack.length : Int) - 1 < s.stack.length := by omega
    have hx4 : (k : Int) < s.memo.length := by omega
    have hx5 : 1 ≤ (s.stack.length : Int) := by omega
    have hx6 : IntKind.i64.wrap ((s.stack.length : Int) - 1) = (s.stack.length : Int) - 1 := wrapI _ (by omega) (by omega)
    have hf5 : w3.frozen? (aM.add k) = false := by
      obtain ⟨gM, rfl⟩ := own_ad HB.out.v.m
      rcases HB.out.v.m.2 with ⟨hv, _⟩ | ⟨g, cap, cur, hv, _, hh, _⟩
      · exact nomatch hv
      · injection hv with hv; injection hv with hv; injection hv with hv; subst hv
        rw [(add_at gM k 0).1]
        simp [World.frozen?, hh]
    have hsl1 := slice_toA (some aS) s.stack.length cS q3
    go_upto_region 27 with fail
    refine region_perm (fun w' => w'.cell? ⟨w.heap.size, 3, none⟩ = some (.slice (some aM) s.memo.length cM) ∧ w'.cell? ⟨w.heap.size + 1, 1, none⟩ = some (.int .i64 k) ∧ w'.cell? ⟨w.heap.size, 2, none⟩ = some (.slice (some aS) s.stack.length cS) ∧ w'.cell? (aS.add (s.stack.length - 1)) = some (.int .i64 x)) [13] [(0, 0), (1, 1), (2, 0), (3, 1), (4, 0), (5, 1), (6, 0), (7, 1), (8, 0), (9, 0), (10, 0), (11, 1), (12, 0), (13, 3)] (by kernel_rfl) (by kernel_rfl) rfl (by kernel_rfl) (fun _ _ _ _ h => h) ?_
    have hS := And.intro c3 (And.intro o1 (And.intro c2 m2))
    repeat (first | refine wpP.c0 (h := ?_) | refine wpP.c1 (w := w3.drew) hS (h := ?_))
    refine wpP.last (h := fun Kv hKv => ?_)
    go_wp2_with fail
    refine hKv.out _ _ (wpP.done ?_)
    clear hKv Kv hS c0 c1 c2 c3 c4 d0 d1 d2 d3 d4 f0 f1 f2 f3 f4 fs o0 o1 m1 m2 hf5
    have hb4 := HB2.out.ext (Ext.rf _).dr
    clear HB2 HB
    generalize (w3.setCell (aM.add k) (.int .i64 x)).drew = w4 at hb4 ⊢
    have HB4 := As.mk hb4
    have c0 := hb4.b.c0; have c1 := hb4.b.c1; have c2 := hb4.b.c2; have c3 := hb4.b.c3; have c4 := hb4.b.c4
    have d0 := hb4.r.c0; have d1 := hb4.r.c1; have d2 := hb4.r.c2; have d3 := hb4.r.c3; have d4 := hb4.r.c4
    have f0 := hb4.r.fz 0; have f1 := hb4.r.fz 1; have f2 := hb4.r.fz 2; have f3 := hb4.r.fz 3; have f4 := hb4.r.fz 4
    have fs := hb4.b.fz 2
    have hb3 := Box.same hb4
    have HB3 := As.mk hb3
    clear hb3 hb4
    go_wp2_with fail
    have ho := HB3.out.out
    refine bodyPost_ret (results_cellt rfl _ _ (w.heap.size + 1 + 1) _ rfl (loadS ho.1)) rfl ?_
    have hr : takeS s ⟨15, (k : Int)⟩ = some { s with memo := s.memo.set k (st s.stack 0) } := by show (if atS s 0 < 0 then none else some { s with memo := s.memo.set (Int.toNat k) (st s.stack 0) }) = _; exact if_neg (by rw [← HZ0.out]; omega)
    rw [hr]
    exact HB3.out.tpost _ (.inr (by rw [HX.out]))
  · go_wp2_with fail
    have ho := HB.out.out
    refine bodyPost_ret (results_cellt rfl _ _ (w.heap.size + 1 + 1) _ rfl (loadS ho.1)) rfl ?_
    have hr : takeS s ⟨15, arg⟩ = none := by unfold takeS; exact if_pos (by rw [← HZ0.out]; simpa using h0)
    rw [hr]
    exact HB.out.tpost _ (.inl rfl)
set_option maxRecDepth 100000 in
set_option maxHeartbeats 1000000 in
theorem take_19 (vK vF vS vM : Value) (s : Sh) (arg : Int) (w : World) (hs : SV w vK vF vS vM s) (hok : okS s) :
    Calls Try.prog 120 #[.agg #[vK, vF, vS, vM, .bool s.done], .agg #[.int .i64 19, .int .i64 arg]] w (TPost vK vF vS vM (takeS s ⟨19, arg⟩) w) := by
  obtain ⟨AK, cK, AF, cF, AS, cS, AM, cM, rfl, rfl, rfl, rfl, q1, q2, q3, q4, r1, r2, r3, r4⟩ := hs.rd hok.siz.k hok.siz.f hok.siz.t hok.siz.m
  have hsl := hok.sl
  have hn := Box.new2 hs 19 arg
  have HN := As.mk hn
  have HS := As.mk hs
  have HOK := As.mk hok
  clear hs hn hok r1 r2 r3 r4
  go_enter Try.func120, Try.ntmps120
  go_upto_region 1 with fail
  generalize ((w.alloc (.cells #[.slice AK s.kinds.length cK, .slice AF s.full.length cF, .slice AS s.stack.length cS, .slice AM s.memo.length cM, .bool s.done] 91)).alloc (.cells #[.int .i64 19, .int .i64 arg] 52)).alloc (.cells #[.slice none 0 0, .slice none 0 0, .slice none 0 0, .slice none 0 0, .bool false] 91) = w1 at HN ⊢
  have hb := HN.out.1
  have HO := As.mk HN.out.2
  clear HN
  have HB := As.mk hb; have c0 := hb.b.c0; have c1 := hb.b.c1; have c2 := hb.b.c2; have c3 := hb.b.c3; have c4 := hb.b.c4; clear hb
  go_upto_region 2 with (go_at_call 134; refine (shapeAt_i _ _ _ _ _ _ _ _ _ _ _ s _ _ (rdA_I HB.out.v.k HOK.out.siz.k) (rdA_I HB.out.v.t HOK.out.siz.t) HOK.out.lt (by omega) (by omega)).mono ?_; rintro e w2 ⟨z0, rfl, hz, he⟩; have HZ0 := As.mk hz; have hb := HB.out.ext he; have HO2 := As.mk (he.blk HO.out); clear hz he HO)
  clear c0 c1 c2 c3 c4 HB
  have HO := HO2
  clear HO2
  have HB := As.mk hb; have c0 := hb.b.c0; have c1 := hb.b.c1; have c2 := hb.b.c2; have c3 := hb.b.c3; have c4 := hb.b.c4; clear hb
  go_upto_region 3 with (go_at_call 134; refine (shapeAt_i _ _ _ _ _ _ _ _ _ _ _ s _ _ (rdA_I HB.out.v.k HOK.out.siz.k) (rdA_I HB.out.v.t HOK.out.siz.t) HOK.out.lt (by omega) (by omega)).mono ?_; rintro e w3 ⟨z1, rfl, hz, he⟩; have HZ1 := As.mk hz; have hb := HB.out.ext he; have HO2 := As.mk (he.blk HO.out); clear hz he HO)
  clear c0 c1 c2 c3 c4 HB
  have HO := HO2
  clear HO2
  have HB := As.mk hb; have c0 := hb.b.c0; have c1 := hb.b.c1; have c2 := hb.b.c2; have c3 := hb.b.c3; have c4 := hb.b.c4; clear hb
  have HZ0 : As (z0 = atS s 0) := HZ0
  have HZ1 : As (z1 = atS s 1) := HZ1
  have o0 := OB.c0 HO.out
  have o1 := OB.c1 HO.out
  have d0 := HB.out.r.c0; have d1 := HB.out.r.c1; have d2 := HB.out.r.c2; have d3 := HB.out.r.c3; have d4 := HB.out.r.c4
  have f0 := HB.out.r.fz 0; have f1 := HB.out.r.fz 1; have f2 := HB.out.r.fz 2; have f3 := HB.out.r.fz 3; have f4 := HB.out.r.fz 4
  have fs := HB.out.b.fz 2
  rcases bcase (0 ≤ z0) with h0 | h0
  · have hl0 := atS_nonneg (s := s) (d := 0) (by rw [← HZ0.out]; exact h0)
    have hlen := hl0.1
    have HL0 := As.mk hl0
    clear hl0
    have hbd := HB.out.dn true
    have HD := As.mk hbd
    clear hbd
    have hfd := HB.out.b.fz 4
    have hsl1 := slice_toA AS s.stack.length cS q3
    rcases bceq (s.stack.length : Int) 1 with h1 | h1
    · have h1n : s.stack.length = 1 := by omega
      have hb5 := Box.same HD.out
      have HB5 := As.mk hb5
      have H1 := As.mk h1n
      have h1b : ((s.stack.length : Int) == 1) = true := by rw [beq_iff_eq]; exact h1
      clear hb5 h1n h1
      go_wp2_with fail
      have ho := HB5.out.out
      refine bodyPost_ret (results_cellt rfl _ _ (w.heap.size + 1 + 1) _ rfl (loadS ho.1)) rfl ?_
      have hr : takeS s ⟨19, arg⟩ = some { s with done := true } := by show (if atS s 0 < 0 then none else if s.stack.length = 1 then some { s with done := true } else none) = _; rw [if_neg (by rw [← HZ0.out]; omega), if_pos H1.out]
      rw [hr]
      exact HB5.out.tpost _ (.inr rfl)
    · go_wp2_with fail
      have ho := HD.out.out
      refine bodyPost_ret (results_cellt rfl _ _ (w.heap.size + 1 + 1) _ rfl (loadS ho.1)) rfl ?_
      have hr : takeS s ⟨19, arg⟩ = none := by show (if atS s 0 < 0 then none else if s.stack.length = 1 then some { s with done := true } else none) = _; rw [if_neg (by rw [← HZ0.out]; omega), if_neg (by simp at h1; omega)]
      rw [hr]
      exact HD.out.tpost none (.inl rfl)
  · have hbd := HB.out.dn true
    have HD := As.mk hbd
    clear hbd
    have hfd := HB.out.b.fz 4
    go_wp2_with fail
    have ho := HD.out.out
    refine bodyPost_ret (results_cellt rfl _ _ (w.heap.size + 1 + 1) _ rfl (loadS ho.1)) rfl ?_
    have hr : takeS s ⟨19, arg⟩ = none := by unfold takeS; exact if_pos (by rw [← HZ0.out]; simpa using h0)
    rw [hr]
    exact HD.out.tpost none (.inl rfl)
set_option maxRecDepth 100000 in
set_option maxHeartbeats 1000000 in
theorem take_11 (vK vF vS vM : Value) (s : Sh) (arg : Int) (w : World) (hs : SV w vK vF vS vM s) (hok : okS s) :
    Calls Try.prog 120 #[.agg #[vK, vF, vS, vM, .bool s.done], .agg #[.int .i64 11, .int .i64 arg]] w (TPost vK vF vS vM (takeS s ⟨11, arg⟩) w) := by
  obtain ⟨AK, cK, AF, cF, AS, cS, AM, cM, rfl, rfl, rfl, rfl, q1, q2, q3, q4, r1, r2, r3, r4⟩ := hs.rd hok.siz.k hok.siz.f hok.siz.t hok.siz.m
  have hsl := hok.sl
  have hn := Box.new2 hs 11 arg
  have HN := As.mk hn
  have HS := As.mk hs
  have HOK := As.mk hok
  clear hs hn hok r1 r2 r3 r4
  go_enter Try.func120, Try.ntmps120
  go_upto_region 1 with fail
  generalize ((w.alloc (.cells #[.slice AK s.kinds.length cK, .slice AF s.full.length cF, .slice AS s.stack.length cS, .slice AM s.memo.length cM, .bool s.done] 91)).alloc (.cells #[.int .i64 11, .int .i64 arg] 52)).alloc (.cells #[.slice none 0 0, .slice none 0 0, .slice none 0 0, .slice none 0 0, .bool false] 91) = w1 at HN ⊢
  have hb := HN.out.1
  have HO := As.mk HN.out.2
  clear HN
  have HB := As.mk hb; have c0 := hb.b.c0; have c1 := hb.b.c1; have c2 := hb.b.c2; have c3 := hb.b.c3; have c4 := hb.b.c4; clear hb
  go_upto_region 2 with (go_at_call 134; refine (shapeAt_i _ _ _ _ _ _ _ _ _ _ _ s _ _ (rdA_I HB.out.v.k HOK.out.siz.k) (rdA_I HB.out.v.t HOK.out.siz.t) HOK.out.lt (by omega) (by omega)).mono ?_; rintro e w2 ⟨z0, rfl, hz, he⟩; have HZ0 := As.mk hz; have hb := HB.out.ext he; have HO2 := As.mk (he.blk HO.out); clear hz he HO)
  clear c0 c1 c2 c3 c4 HB
  have HO := HO2
  clear HO2
  have HB := As.mk hb; have c0 := hb.b.c0; have c1 := hb.b.c1; have c2 := hb.b.c2; have c3 := hb.b.c3; have c4 := hb.b.c4; clear hb
  go_upto_region 3 with (go_at_call 134; refine (shapeAt_i _ _ _ _ _ _ _ _ _ _ _ s _ _ (rdA_I HB.out.v.k HOK.out.siz.k) (rdA_I HB.out.v.t HOK.out.siz.t) HOK.out.lt (by omega) (by omega)).mono ?_; rintro e w3 ⟨z1, rfl, hz, he⟩; have HZ1 := As.mk hz; have hb := HB.out.ext he; have HO2 := As.mk (he.blk HO.out); clear hz he HO)
  clear c0 c1 c2 c3 c4 HB
  have HO := HO2
  clear HO2
  have HB := As.mk hb; have c0 := hb.b.c0; have c1 := hb.b.c1; have c2 := hb.b.c2; have c3 := hb.b.c3; have c4 := hb.b.c4; clear hb
  have HZ0 : As (z0 = atS s 0) := HZ0
  have HZ1 : As (z1 = atS s 1) := HZ1
  have o0 := OB.c0 HO.out
  have o1 := OB.c1 HO.out
  have d0 := HB.out.r.c0; have d1 := HB.out.r.c1; have d2 := HB.out.r.c2; have d3 := HB.out.r.c3; have d4 := HB.out.r.c4
  have f0 := HB.out.r.fz 0; have f1 := HB.out.r.fz 1; have f2 := HB.out.r.fz 2; have f3 := HB.out.r.fz 3; have f4 := HB.out.r.fz 4
  have fs := HB.out.b.fz 2
  rcases bcase (0 ≤ z0) with h0 | h0
  · have hl0 := atS_nonneg (s := s) (d := 0) (by rw [← HZ0.out]; exact h0)
    have hlen := hl0.1
    have HL0 := As.mk hl0
    clear hl0
    cases hkk : keyK z1 with
    | false =>
      have HKK := As.mk hkk
      clear hkk
      go_upto_region 20 with (first | (go_at_call 135; refine (keyKind_c _ _).mono ?_; rw [HKK.out]; rintro e w4 ⟨rfl, rfl⟩) | (go_at_call 134; refine (shapeAt_i _ _ _ _ _ _ _ _ _ _ _ s _ _ (rdA_I HB.out.v.k HOK.out.siz.k) (rdA_I HB.out.v.t HOK.out.siz.t) HOK.out.lt (by omega) (by omega)).mono ?_; rintro e w4 ⟨z2, rfl, hz, he⟩; have HZ2 := As.mk hz; have hb := HB.out.ext he; have HB4 := As.mk hb; clear hz he hb))
      go_wp2_with fail
      have ho := HB.out.out
      refine bodyPost_ret (results_cellt rfl _ _ (w.heap.size + 1 + 1) _ rfl (loadS ho.1)) rfl ?_
      have hr : takeS s ⟨11, arg⟩ = none := by show (if atS s 0 < 0 then none else if keyK (atS s 1) = true ∧ atS s 2 = 4 then some (cutS s 2) else none) = _; rw [if_neg (by rw [← HZ0.out]; omega), if_neg (fun h => by rw [← HZ1.out, HKK.out] at h; exact Bool.false_ne_true h.1)]
      rw [hr]
      exact HB.out.tpost _ (.inl rfl)
    | true =>
      have HKK := As.mk hkk
      clear hkk
      go_upto_region 20 with (first | (go_at_call 135; refine (keyKind_c _ _).mono ?_; rw [HKK.out]; rintro e w4 ⟨rfl, rfl⟩) | (go_at_call 134; refine (shapeAt_i _ _ _ _ _ _ _ _ _ _ _ s _ _ (rdA_I HB.out.v.k HOK.out.siz.k) (rdA_I HB.out.v.t HOK.out.siz.t) HOK.out.lt (by omega) (by omega)).mono ?_; rintro e w4 ⟨z2, rfl, hz, he⟩; have HZ2 := As.mk hz; have hb := HB.out.ext he; have HB4 := As.mk hb; clear hz he hb))
      clear c0 c1 c2 c3 c4 d0 d1 d2 d3 d4 f0 f1 f2 f3 f4 fs o0 o1
      have HZ2 : As (z2 = atS s 2) := HZ2
      have hb4 := HB4.out
      have HB4 := As.mk hb4
      have c0 := hb4.b.c0; have c1 := hb4.b.c1; have c2 := hb4.b.c2; have c3 := hb4.b.c3; have c4 := hb4.b.c4
      have d0 := hb4.r.c0; have d1 := hb4.r.c1; have d2 := hb4.r.c2; have d3 := hb4.r.c3; have d4 := hb4.r.c4
      have f0 := hb4.r.fz 0; have f1 := hb4.r.fz 1; have f2 := hb4.r.fz 2; have f3 := hb4.r.fz 3; have f4 := hb4.r.fz 4
      have fs := hb4.b.fz 2
      have hb3 := hb4
      have HB3 := As.mk hb3
      clear hb3 hb4
      rcases bceq z2 4 with h1 | h1
      · have h13 : atS s 2 = 4 := by rw [← HZ2.out]; exact h1
        have hlen1 := (atS_nonneg (s := s) (d := 2) (by rw [h13]; omega)).1
        have H13 := As.mk h13
        clear h13 HZ2
        have hsl1 := slice_toI AS s.stack.length cS 2 (by omega) q3
        have hb2 := HB4.out.cut 2
        have HB2 := As.mk hb2
        clear hb2
        subst h1
        go_wp2_with fail
        have ho := HB2.out.out
        refine bodyPost_ret (results_cellt rfl _ _ (w.heap.size + 1 + 1) _ rfl (loadS ho.1)) rfl ?_
        have hr : takeS s ⟨11, arg⟩ = some (cutS s 2) := by show (if atS s 0 < 0 then none else if keyK (atS s 1) = true ∧ atS s 2 = 4 then some (cutS s 2) else none) = _; rw [if_neg (by rw [← HZ0.out]; omega), if_pos ⟨by rw [← HZ1.out]; exact HKK.out, H13.out⟩]
        rw [hr]
        exact HB2.out.tpost _ (.inr rfl)
      · go_wp2_with fail
        have ho := HB4.out.out
        refine bodyPost_ret (results_cellt rfl _ _ (w.heap.size + 1 + 1) _ rfl (loadS ho.1)) rfl ?_
        have hr : takeS s ⟨11, arg⟩ = none := by show (if atS s 0 < 0 then none else if keyK (atS s 1) = true ∧ atS s 2 = 4 then some (cutS s 2) else none) = _; rw [if_neg (by rw [← HZ0.out]; omega), if_neg (fun h => by rw [← HZ2.out] at h; have := h.2; simp at h1; exact h1 this)]
        rw [hr]
        exact HB4.out.tpost _ (.inl rfl)
  · go_wp2_with fail
    have ho := HB.out.out
    refine bodyPost_ret (results_cellt rfl _ _ (w.heap.size + 1 + 1) _ rfl (loadS ho.1)) rfl ?_
    have hr : takeS s ⟨11, arg⟩ = none := by unfold takeS; exact if_pos (by rw [← HZ0.out]; simpa using h0)
    rw [hr]
    exact HB.out.tpost _ (.inl rfl)
set_option maxRecDepth 100000 in
set_option maxHeartbeats 1000000 in
theorem take_14 (vK vF vS vM : Value) (s : Sh) (arg : Int) (w : World) (hs : SV w vK vF vS vM s) (hok : okS s) :
    Calls Try.prog 120 #[.agg #[vK, vF, vS, vM, .bool s.done], .agg #[.int .i64 14, .int .i64 arg]] w (TPost vK vF vS vM (takeS s ⟨14, arg⟩) w) := by
  obtain ⟨AK, cK, AF, cF, AS, cS, AM, cM, rfl, rfl, rfl, rfl, q1, q2, q3, q4, r1, r2, r3, r4⟩ := hs.rd hok.siz.k hok.siz.f hok.siz.t hok.siz.m
  have hsl := hok.sl
  have hn := Box.new2 hs 14 arg
  have HN := As.mk hn
  have HS := As.mk hs
  have HOK := As.mk hok
  clear hs hn hok r1 r2 r3 r4
  go_enter Try.func120, Try.ntmps120
  go_upto_region 1 with fail
  generalize ((w.alloc (.cells #[.slice AK s.kinds.length cK, .slice AF s.full.length cF, .slice AS s.stack.length cS, .slice AM s.memo.length cM, .bool s.done] 91)).alloc (.cells #[.int .i64 14, .int .i64 arg] 52)).alloc (.cells #[.slice none 0 0, .slice none 0 0, .slice none 0 0, .slice none 0 0, .bool false] 91) = w1 at HN ⊢
  have hb := HN.out.1
  have HO := As.mk HN.out.2
  clear HN
  have HB := As.mk hb; have c0 := hb.b.c0; have c1 := hb.b.c1; have c2 := hb.b.c2; have c3 := hb.b.c3; have c4 := hb.b.c4; clear hb
  go_upto_region 2 with (go_at_call 134; refine (shapeAt_i _ _ _ _ _ _ _ _ _ _ _ s _ _ (rdA_I HB.out.v.k HOK.out.siz.k) (rdA_I HB.out.v.t HOK.out.siz.t) HOK.out.lt (by omega) (by omega)).mono ?_; rintro e w2 ⟨z0, rfl, hz, he⟩; have HZ0 := As.mk hz; have hb := HB.out.ext he; have HO2 := As.mk (he.blk HO.out); clear hz he HO)
  clear c0 c1 c2 c3 c4 HB
  have HO := HO2
  clear HO2
  have HB := As.mk hb; have c0 := hb.b.c0; have c1 := hb.b.c1; have c2 := hb.b.c2; have c3 := hb.b.c3; have c4 := hb.b.c4; clear hb
  go_upto_region 3 with (go_at_call 134; refine (shapeAt_i _ _ _ _ _ _ _ _ _ _ _ s _ _ (rdA_I HB.out.v.k HOK.out.siz.k) (rdA_I HB.out.v.t HOK.out.siz.t) HOK.out.lt (by omega) (by omega)).mono ?_; rintro e w3 ⟨z1, rfl, hz, he⟩; have HZ1 := As.mk hz; have hb := HB.out.ext he; have HO2 := As.mk (he.blk HO.out); clear hz he HO)
  clear c0 c1 c2 c3 c4 HB
  have HO := HO2
  clear HO2
  have HB := As.mk hb; have c0 := hb.b.c0; have c1 := hb.b.c1; have c2 := hb.b.c2; have c3 := hb.b.c3; have c4 := hb.b.c4; clear hb
  have HZ0 : As (z0 = atS s 0) := HZ0
  have HZ1 : As (z1 = atS s 1) := HZ1
  have o0 := OB.c0 HO.out
  have o1 := OB.c1 HO.out
  have d0 := HB.out.r.c0; have d1 := HB.out.r.c1; have d2 := HB.out.r.c2; have d3 := HB.out.r.c3; have d4 := HB.out.r.c4
  have f0 := HB.out.r.fz 0; have f1 := HB.out.r.fz 1; have f2 := HB.out.r.fz 2; have f3 := HB.out.r.fz 3; have f4 := HB.out.r.fz 4
  have fs := HB.out.b.fz 2
  rcases bcase (0 ≤ z0) with h0 | h0
  · have hl0 := atS_nonneg (s := s) (d := 0) (by rw [← HZ0.out]; exact h0)
    have hlen := hl0.1
    have HL0 := As.mk hl0
    clear hl0
    rcases bceq z1 5 with h1 | h1
    · have h13 : atS s 1 = 5 := by rw [← HZ1.out]; exact h1
      have hs1 := atS_nonneg (s := s) (d := 1) (by rw [h13]; omega)
      have hlen1 := hs1.1
      have H13 := As.mk h13
      obtain ⟨k, hk⟩ := Int.eq_ofNat_of_zero_le hs1.2
      have hkl : k < s.kinds.length := by have := HOK.out.lt _ (st_mem _ _ hlen1); omega
      have hkf : k < s.full.length := by have := HOK.out.fl; omega
      obtain ⟨aF, rfl, m1⟩ := (rdA_B HB.out.v.f HOK.out.siz.f).2 k hkf
      obtain ⟨aS, rfl, m2⟩ := (rdA_I HB.out.v.t HOK.out.siz.t).2 (s.stack.length - 1 - 1) (by omega)
      rw [← st_at s.stack 1 hlen1, hk] at m2
      obtain ⟨b, hb⟩ : ∃ b, b = s.full[k] := ⟨_, rfl⟩
      rw [← hb] at m1
      have HK := As.mk hk
      have HBB : As (s.full.getD k false = b) := ⟨by rw [hb, List.getD_eq_getElem?_getD, List.getElem?_eq_getElem hkf]; rfl⟩
      clear h13 HZ1 hs1 hk hb
      subst h1
      have hx1 : ((s.stack.length : Int) - 2).toNat = s.stack.length - 1 - 1 := by omega
      have hx2 : 0 ≤ (s.stack.length : Int) - 2 := by omega
      have hx3 : (s.stack.length : Int) - 2 < s.stack.length := by omega
      have hx4 : (k : Int) < s.full.length := by omega
      have hx5 : 2 ≤ (s.stack.length : Int) := by omega
      have hx6 : IntKind.i64.wrap ((s.stack.length : Int) - 2) = (s.stack.length : Int) - 2 := wrapI _ (by omega) (by omega)
      cases b with
      | true =>
        go_upto_region 22 with fail
        go_quiet (fail)
        generalize hwq : World.drewN w3 _ = w4
        have hbq := HB.out.ext (show Ext w3 w4 by rw [← hwq]; exact (Ext.rf w3).dN _)
        clear hwq c0 c1 c2 c3 c4 d0 d1 d2 d3 d4 f0 f1 f2 f3 f4 fs o0 o1 HB
        have HB4 := As.mk hbq
        have c0 := hbq.b.c0; have c1 := hbq.b.c1; have c2 := hbq.b.c2; have c3 := hbq.b.c3; have c4 := hbq.b.c4
        have d0 := hbq.r.c0; have d1 := hbq.r.c1; have d2 := hbq.r.c2; have d3 := hbq.r.c3; have d4 := hbq.r.c4
        have f0 := hbq.r.fz 0; have f1 := hbq.r.fz 1; have f2 := hbq.r.fz 2; have f3 := hbq.r.fz 3; have f4 := hbq.r.fz 4
        have fs := hbq.b.fz 2
        have hb3 := hbq
        have HB3 := As.mk hb3
        clear hb3 hbq
        go_wp2_with fail
        have ho := HB4.out.out
        refine bodyPost_ret (results_cellt rfl _ _ (w.heap.size + 1 + 1) _ rfl (loadS ho.1)) rfl ?_
        have hr : takeS s ⟨14, arg⟩ = none := by show (if atS s 0 < 0 then none else if atS s 1 = 5 ∧ s.full.getD (st s.stack 1).toNat false = false then some { cutS s 1 with full := s.full.set (st s.stack 1).toNat true } else none) = _; rw [if_neg (by rw [← HZ0.out]; omega), if_neg (fun h => by rw [HK.out, Int.toNat_natCast, HBB.out] at h; exact Bool.false_ne_true h.2.symm)]
        rw [hr]
        exact HB4.out.tpost _ (.inl rfl)
      | false =>
        have hsl1 := slice_toI (some aS) s.stack.length cS 1 (by omega) q3
        have hf5 : w3.frozen? (aF.add k) = false := by
          have hf : World.ownsRow w3 0 4 1 (.slice (some aF) s.full.length cF) s.full.length (bools s.full) := HB.out.v.f
          obtain ⟨gM, rfl⟩ := own_ad hf
          rcases hf.2 with ⟨hv, _⟩ | ⟨g, cap, cur, hv, _, hh, _⟩
          · exact nomatch hv
          · injection hv with hv; injection hv with hv; injection hv with hv; subst hv
            rw [(add_at gM k 0).1]
            simp [World.frozen?, hh]
        have m3 := m1
        go_upto_region 22 with fail
        go_quiet (fail)
        go_upto_region 24 with fail
        generalize hwq : World.drewN w3 _ = w4
        have he4 : Ext w3 w4 := by rw [← hwq]; exact (Ext.rf w3).dN _
        have hb2 := (HB.out.ext he4).fset k true
        have HB2 := As.mk hb2
        have g1 := he4.cellOf c1; have g2 := he4.cellOf c2; have g3 := he4.cellOf m2; have g4 := he4.cellOf m1
        have hf6 : w4.frozen? (aF.add k) = false := by rw [← hwq]; exact hf5
        clear hb2 hwq c0 c1 c2 c3 c4 d0 d1 d2 d3 d4 f0 f1 f2 f3 f4 fs o0 o1 m1 m2 m3 hf5
        refine region_perm (fun w' => w'.cell? ⟨w.heap.size, 1, none⟩ = some (.slice (some aF) s.full.length cF) ∧ w'.cell? ⟨w.heap.size, 2, none⟩ = some (.slice (some aS) s.stack.length cS) ∧ w'.cell? (aS.add (s.stack.length - 1 - 1)) = some (.int .i64 k)) [11] [(0, 0), (1, 1), (2, 0), (3, 1), (4, 0), (5, 1), (6, 0), (7, 0), (8, 0), (9, 1), (10, 0), (11, 3)] (by kernel_rfl) (by kernel_rfl) rfl (by kernel_rfl) (fun _ _ _ _ h => h) ?_
        have hS := And.intro g1 (And.intro g2 g3)
        repeat (first | refine wpP.c0 (h := ?_) | refine wpP.c1 (w := w4.drew) hS (h := ?_))
        refine wpP.last (h := fun Kv hKv => ?_)
        go_wp2_with fail
        refine hKv.out _ _ (wpP.done ?_)
        clear hKv Kv hS g1 g2 g3 g4 hf6
        have hb4 := HB2.out.ext (Ext.rf _).dr
        clear HB2 HB he4
        generalize (w4.setCell (aF.add k) (.bool true)).drew = w5 at hb4 ⊢
        have HB4 := As.mk hb4
        have c0 := hb4.b.c0; have c1 := hb4.b.c1; have c2 := hb4.b.c2; have c3 := hb4.b.c3; have c4 := hb4.b.c4
        have d0 := hb4.r.c0; have d1 := hb4.r.c1; have d2 := hb4.r.c2; have d3 := hb4.r.c3; have d4 := hb4.r.c4
        have f0 := hb4.r.fz 0; have f1 := hb4.r.fz 1; have f2 := hb4.r.fz 2; have f3 := hb4.r.fz 3; have f4 := hb4.r.fz 4
        have fs := hb4.b.fz 2
        have hb3 := Box.cut (s := { s with full := s.full.set k true }) hb4 1
        have HB3 := As.mk hb3
        clear hb3 hb4
        go_wp2_with fail
        have ho := HB3.out.out
        refine bodyPost_ret (results_cellt rfl _ _ (w.heap.size + 1 + 1) _ rfl (loadS ho.1)) rfl ?_
        have hr : takeS s ⟨14, arg⟩ = some { cutS s 1 with full := s.full.set (st s.stack 1).toNat true } := by show (if atS s 0 < 0 then none else if atS s 1 = 5 ∧ s.full.getD (st s.stack 1).toNat false = false then some { cutS s 1 with full := s.full.set (st s.stack 1).toNat true } else none) = _; rw [if_neg (by rw [← HZ0.out]; omega), if_pos ⟨H13.out, by rw [HK.out, Int.toNat_natCast]; exact HBB.out⟩]
        rw [hr]
        exact HB3.out.tpost _ (.inr (by rw [HK.out]; rfl))
    · have h1' := h1
      go_upto_region 22 with fail
      go_quiet (fail)
      generalize hwq : World.drewN w3 _ = w4
      have hbq := HB.out.ext (show Ext w3 w4 by rw [← hwq]; exact (Ext.rf w3).dN _)
      clear hwq c0 c1 c2 c3 c4 d0 d1 d2 d3 d4 f0 f1 f2 f3 f4 fs o0 o1 HB
      have HB4 := As.mk hbq
      have c0 := hbq.b.c0; have c1 := hbq.b.c1; have c2 := hbq.b.c2; have c3 := hbq.b.c3; have c4 := hbq.b.c4
      have d0 := hbq.r.c0; have d1 := hbq.r.c1; have d2 := hbq.r.c2; have d3 := hbq.r.c3; have d4 := hbq.r.c4
      have f0 := hbq.r.fz 0; have f1 := hbq.r.fz 1; have f2 := hbq.r.fz 2; have f3 := hbq.r.fz 3; have f4 := hbq.r.fz 4
      have fs := hbq.b.fz 2
      have hb3 := hbq
      have HB3 := As.mk hb3
      clear hb3 hbq
      go_wp2_with fail
      have ho := HB4.out.out
      refine bodyPost_ret (results_cellt rfl _ _ (w.heap.size + 1 + 1) _ rfl (loadS ho.1)) rfl ?_
      have hr : takeS s ⟨14, arg⟩ = none := by show (if atS s 0 < 0 then none else if atS s 1 = 5 ∧ s.full.getD (st s.stack 1).toNat false = false then some { cutS s 1 with full := s.full.set (st s.stack 1).toNat true } else none) = _; rw [if_neg (by rw [← HZ0.out]; omega), if_neg (fun h => by have := h.1; rw [← HZ1.out] at this; simp at h1; exact h1 this)]
      rw [hr]
      exact HB4.out.tpost _ (.inl rfl)
  · have h0' := h0
    go_upto_region 22 with fail
    go_quiet (fail)
    generalize hwq : World.drewN w3 _ = w4
    have hbq := HB.out.ext (show Ext w3 w4 by rw [← hwq]; exact (Ext.rf w3).dN _)
    clear hwq c0 c1 c2 c3 c4 d0 d1 d2 d3 d4 f0 f1 f2 f3 f4 fs o0 o1 HB
    have HB4 := As.mk hbq
    have c0 := hbq.b.c0; have c1 := hbq.b.c1; have c2 := hbq.b.c2; have c3 := hbq.b.c3; have c4 := hbq.b.c4
    have d0 := hbq.r.c0; have d1 := hbq.r.c1; have d2 := hbq.r.c2; have d3 := hbq.r.c3; have d4 := hbq.r.c4
    have f0 := hbq.r.fz 0; have f1 := hbq.r.fz 1; have f2 := hbq.r.fz 2; have f3 := hbq.r.fz 3; have f4 := hbq.r.fz 4
    have fs := hbq.b.fz 2
    have hb3 := hbq
    have HB3 := As.mk hb3
    clear hb3 hbq
    go_wp2_with fail
    have ho := HB4.out.out
    refine bodyPost_ret (results_cellt rfl _ _ (w.heap.size + 1 + 1) _ rfl (loadS ho.1)) rfl ?_
    have hr : takeS s ⟨14, arg⟩ = none := by unfold takeS; exact if_pos (by rw [← HZ0.out]; simpa using h0)
    rw [hr]
    exact HB4.out.tpost _ (.inl rfl)
end Go.Proofs.Ytgenllcfpjgklaa.C
