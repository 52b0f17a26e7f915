/- Shapes in memory: the orders that take from the top of the stack. -/
import Derived.Test.YtcodbpjaamggeaaCt
set_option linter.unusedVariables false
set_option linter.unusedSimpArgs false
namespace Go.Proofs.Ytcodbpjaamggeaa.C
open Go.RowKit Go.Proofs.Ytcodbpjaamggeaa.W Go.Proofs.Ytcodbpjaamggeaa.P

theorem shapeAt_i (AK AS AF AM : Option Addr) (cK cS nF cF nM cM : Nat) (dn : Bool) (s : Sh) (i : Int) (w : World) (hK : RdI w AK s.kinds) (hS : RdI w AS s.stack) (hi : ∀ x ∈ s.stack, x < s.kinds.length) (h0 : 0 ≤ i) (hd : i ≤ 1000000) :
    Calls Try.prog 87 #[.agg #[.slice AK s.kinds.length cK, .slice AF nF cF, .slice AS s.stack.length cS, .slice AM nM cM, .bool dn], .int .i64 i] w fun e w' => ∃ z, e = .returned (.int .i64 z) ∧ z = atS s i.toNat ∧ Ext w w' := by
  obtain ⟨d, rfl⟩ := Int.eq_ofNat_of_zero_le h0
  exact (shapeAt_c AK AS AF AM cK cS nF cF nM cM dn s d w hK hS hi (by omega)).mono (fun e w' h => ⟨_, h.1, by simp, h.2⟩)
abbrev OB (w : World) (g : Nat) (c a : Int) : Prop := w.heap[g]? = some (.cells #[.int .i64 c, .int .i64 a] 82 (0, 0))
theorem OB.c0 {w g c a} (h : OB w g c a) : w.cell? ⟨g, 0, none⟩ = some (.int .i64 c) := by simp [World.cell?, h]
theorem OB.c1 {w g c a} (h : OB w g c a) : w.cell? ⟨g, 1, none⟩ = some (.int .i64 a) := by simp [World.cell?, h]
/-- Shapes and an order, boxed. -/
theorem Box.new2 {vK vF vS vM s w} (h : SV w vK vF vS vM s) (c a : Int) : Box vK vF vS vM w (((w.alloc (.cells #[vK, vF, vS, vM, .bool s.done] 51)).alloc (.cells #[.int .i64 c, .int .i64 a] 82)).alloc (.cells #[.slice none 0 0, .slice none 0 0, .slice none 0 0, .slice none 0 0, .bool false] 51)) w.heap.size (w.heap.size + 1 + 1) vK vF vS vM s ∧
    OB (((w.alloc (.cells #[vK, vF, vS, vM, .bool s.done] 51)).alloc (.cells #[.int .i64 c, .int .i64 a] 82)).alloc (.cells #[.slice none 0 0, .slice none 0 0, .slice none 0 0, .slice none 0 0, .bool false] 51)) (w.heap.size + 1) c a := by
  refine ⟨⟨(((Ext.rf _).al _).al _).blk (al_new _ _), ?_, h.ext ((((Ext.rf _).al _).al _).al _), Fr.ofExt ((((Ext.rf _).al _).al _).al _), fun k hk => .inl hk, by omega, by omega⟩, ?_⟩
  · have h := al_new ((w.alloc (.cells #[vK, vF, vS, vM, .bool s.done] 51)).alloc (.cells #[.int .i64 c, .int .i64 a] 82)) (.cells #[.slice none 0 0, .slice none 0 0, .slice none 0 0, .slice none 0 0, .bool false] 51)
    rw [al_size, al_size] at h
    exact h
  · have h := al_new (w.alloc (.cells #[vK, vF, vS, vM, .bool s.done] 51)) (.cells #[.int .i64 c, .int .i64 a] 82)
    rw [al_size] at h
    exact ((Ext.rf _).al _).blk h
/-- The stack is cut. -/
theorem Box.cut {v0K v0F v0S v0M w0 w g g2 vK vF AS cS vM s} (h : Box v0K v0F v0S v0M w0 w g g2 vK vF (.slice AS s.stack.length cS) vM s) (n : Nat) :
    Box v0K v0F v0S v0M w0 (w.setCell ⟨g, 2, none⟩ (.slice AS (s.stack.length - n) cS)) g g2 vK vF (.slice AS (s.stack.length - n) cS) vM (cutS s n) := by
  refine Box.t h (l := s.stack.take (s.stack.length - n)) ?_ (Fr.rf _ _) (.inl (by cases AS <;> rfl))
  have := own_take h.v.t (s.stack.length - n) (Nat.sub_le _ _)
  unfold IR
  rw [Nat.mul_one] at this
  rw [List.length_take, Nat.min_eq_left (Nat.sub_le _ _)]
  simpa [nums] using this
/-- What becomes of shapes that are handed over, where an order may not be possible. -/
def TPost (vK vF vS vM : Value) (r : Option Sh) (w : World) (e : Ending) (w' : World) : Prop :=
  ∃ A1 n1 c1 A2 n2 c2 A3 n3 c3 A4 n4 c4 x, e = .returned (.tuple #[.agg #[.slice A1 n1 c1, .slice A2 n2 c2, .slice A3 n3 c3, .slice A4 n4 c4, .bool x], .bool r.isSome]) ∧ Fr (SF vK vF vS vM) w w' ∧
    ∀ s', r = some s' → x = s'.done ∧ SPost vK vF vS vM s' w (.slice A1 n1 c1) (.slice A2 n2 c2) (.slice A3 n3 c3) (.slice A4 n4 c4) w'
theorem Box.tpost {v0K v0F v0S v0M w0 w g g2 A1 n1 c1 A2 n2 c2 A3 n3 c3 A4 n4 c4 s} (h : Box v0K v0F v0S v0M w0 w g g2 (.slice A1 n1 c1) (.slice A2 n2 c2) (.slice A3 n3 c3) (.slice A4 n4 c4) s) (r : Option Sh) (hr : r = none ∨ r = some s) :
    TPost v0K v0F v0S v0M r w0 (.returned (.tuple #[.agg #[.slice A1 n1 c1, .slice A2 n2 c2, .slice A3 n3 c3, .slice A4 n4 c4, .bool s.done], .bool r.isSome])) (((((w.setCell ⟨g2, 0, none⟩ (.slice A1 n1 c1)).setCell ⟨g2, 1, none⟩ (.slice A2 n2 c2)).setCell ⟨g2, 2, none⟩ (.slice A3 n3 c3)).setCell ⟨g2, 3, none⟩ (.slice A4 n4 c4)).setCell ⟨g2, 4, none⟩ (.bool s.done)) := by
  refine ⟨_, _, _, _, _, _, _, _, _, _, _, _, _, rfl, h.out.2.2.1, fun s' hs' => ?_⟩
  rcases hr with rfl | rfl
  · exact nomatch hs'
  · injection hs' with hs'
    subst hs'
    exact ⟨rfl, h.out.2⟩
/-- A function of shapes is called on a box's shapes, and its result is the result. -/
theorem Box.via {v0K v0F v0S v0M w0 w w' g g2 vK vF vS vM s vK' vF' vS' vM' s'} (h : Box v0K v0F v0S v0M w0 w g g2 vK vF vS vM s) (hp : SPost vK vF vS vM s' w vK' vF' vS' vM' w') :
    SB w' g2 (.slice none 0 0) (.slice none 0 0) (.slice none 0 0) (.slice none 0 0) false ∧
    (∀ a b c d x, vK' = a → vF' = b → vS' = c → vM' = d → s'.done = x → SPost v0K v0F v0S v0M s' w0 vK' vF' vS' vM' (((((w'.setCell ⟨g2, 0, none⟩ a).setCell ⟨g2, 1, none⟩ b).setCell ⟨g2, 2, none⟩ c).setCell ⟨g2, 3, none⟩ d).setCell ⟨g2, 4, none⟩ (.bool x))) := by
  have hr := hp.2.1.blk h.r (fun e => h.v.nb h.r e)
  refine ⟨hr, ?_⟩
  rintro a b c d x rfl rfl rfl rfl rfl
  have hf := Fr.set5 (S := fun k => k = g2) (w := w') (g := g2) rfl vK' vF' vS' vM' (.bool s'.done)
  refine ⟨hp.1.fr hf (fun k hk e => hp.1.nb hr (by rw [← e]; exact hk)), (h.f.then hp.2.1 (fun i hi => h.o i hi)).then hf (fun i hi => .inr (by have := h.lo.2; omega)), fun k hk => ?_⟩
  rcases hp.2.2 k hk with e | e
  · exact h.o k e
  · have := h.f.size; exact .inr (by omega)
/-- Facts of a box for the walk. -/
theorem slice_toI (A : Option Addr) (n c : Nat) (m : Nat) (hm : m ≤ n) (hc : n ≤ c) : ∀ W : World, (Instr.slice 32 (.slice A n c) none (some (.int .i64 ((n : Int) - m))) none).run Try.prog W = .ok (.slice A (n - m) c) W := by
  intro W
  obtain ⟨inf, hi, hsz⟩ : ∃ i, Try.prog.info? 3 = some i ∧ i.size = 1 := by
    obtain ⟨i, h, h2⟩ := Option.map_eq_some_iff.1 infoI
    exact ⟨i, h, by simp only [Prod.mk.injEq] at h2; exact h2.2.1⟩
  have := slice_to (P := Try.prog) 32 3 (by kernel_rfl) hi hsz A n c ((n : Int) - m) (by omega) (by omega) hc W
  rwa [show ((n : Int) - m).toNat = n - m by omega] at this

theorem rdA_I {w : World} {A : Option Addr} {c : Nat} {l : List Int} (h : IR w (.slice A l.length c) l) (hl : l.length ≤ 1000000) : RdI w A l := by
  obtain ⟨A', c', hv, _, hr⟩ := IR.rd h (by omega)
  injection hv with hv
  subst hv
  exact hr
theorem rdA_B {w : World} {A : Option Addr} {c : Nat} {l : List Bool} (h : BR w (.slice A l.length c) l) (hl : l.length ≤ 1000000) : RdB w A l := by
  obtain ⟨A', c', hv, _, hr⟩ := BR.rd h (by omega)
  injection hv with hv
  subst hv
  exact hr
theorem bceq (a b : Int) : a = b ∨ (a == b) = false := by by_cases h : a = b <;> simp [h]
/-- An element of a row is another one. -/
theorem Box.fl0 {v0K v0F v0S v0M w0 w w2 g g2 vK vF vS vM s l} (h : Box v0K v0F v0S v0M w0 w g g2 vK vF vS vM s) (hI : BR w2 vF l) (hf : Fr (fun k => vF.ownBlock = some k) w w2) :
    Box v0K v0F v0S v0M w0 w2 g g2 vK vF vS vM { s with full := l } :=
  ⟨hf.blk h.b (fun e => h.v.nb h.b (.inr (.inl e))), hf.blk h.r (fun e => h.v.nb h.r (.inr (.inl e))), ⟨h.v.k.fr hf (fun k hk => own_ne_type h.v.k h.v.f (by decide) hk), hI, h.v.t.fr hf (fun k hk => own_ne_type h.v.t h.v.f (by decide) hk), h.v.m.fr hf (fun k hk => own_ne_type h.v.m h.v.f (by decide) hk), h.v.ks, h.v.km, h.v.sm⟩, h.f.then hf (fun i hi => h.o i (.inr (.inl hi))), h.o, h.ne, h.lo⟩
theorem Box.m0 {v0K v0F v0S v0M w0 w w2 g g2 vK vF vS vM s l} (h : Box v0K v0F v0S v0M w0 w g g2 vK vF vS vM s) (hI : IR w2 vM l) (hf : Fr (fun k => vM.ownBlock = some k) w w2) :
    Box v0K v0F v0S v0M w0 w2 g g2 vK vF vS vM { s with memo := l } :=
  ⟨hf.blk h.b (fun e => h.v.nb h.b (.inr (.inr (.inr e)))), hf.blk h.r (fun e => h.v.nb h.r (.inr (.inr (.inr e)))), ⟨h.v.k.fr hf (fun k hk e => h.v.km k hk e), h.v.f.fr hf (fun k hk => own_ne_type h.v.f h.v.m (by decide) hk), h.v.t.fr hf (fun k hk e => h.v.sm k hk e), hI, h.v.ks, h.v.km, h.v.sm⟩, h.f.then hf (fun i hi => h.o i (.inr (.inr (.inr hi)))), h.o, h.ne, h.lo⟩
theorem own_ad {w : World} {base : Nat} {e : TypeId} {size n c : Nat} {ad : Addr} {xs : List Value} (h : w.ownsRow base e size (.slice (some ad) n c) n xs) : ∃ g, ad = ⟨g, 0, none⟩ := by
  rcases h.2 with ⟨hv, _⟩ | ⟨g, cap, cur, hv, _⟩
  · exact nomatch hv
  · injection hv with hv; injection hv with hv; exact ⟨g, hv⟩
theorem Box.fset {v0K v0F v0S v0M w0 w g g2 vK ad n c vS vM s} (h : Box v0K v0F v0S v0M w0 w g g2 vK (.slice (some ad) n c) vS vM s) (k : Nat) (b : Bool) :
    Box v0K v0F v0S v0M w0 (w.setCell (ad.add k) (.bool b)) g g2 vK (.slice (some ad) n c) vS vM { s with full := s.full.set k b } := by
  obtain ⟨A', c', hv, _, _⟩ := own_form h.v.f
  injection hv with hv1 hv2 hv3
  subst hv1 hv2 hv3
  have hf : World.ownsRow w 0 4 1 (.slice (some ad) s.full.length c) s.full.length (bools s.full) := h.v.f
  obtain ⟨gF, rfl⟩ := own_ad hf
  rw [(add_at gF k 0).1]
  refine h.fl0 ?_ (Fr.set _ _ (by rfl))
  have := own_set hf k (.bool b)
  unfold BR
  rw [List.length_set]
  simpa [bools, List.map_set] using this
theorem Box.mset {v0K v0F v0S v0M w0 w g g2 vK vF vS ad n c s} (h : Box v0K v0F v0S v0M w0 w g g2 vK vF vS (.slice (some ad) n c) s) (k : Nat) (z : Int) :
    Box v0K v0F v0S v0M w0 (w.setCell (ad.add k) (.int .i64 z)) g g2 vK vF vS (.slice (some ad) n c) { s with memo := s.memo.set k z } := by
  obtain ⟨A', c', hv, _, _⟩ := own_form h.v.m
  injection hv with hv1 hv2 hv3
  subst hv1 hv2 hv3
  have hf : World.ownsRow w 0 3 1 (.slice (some ad) s.memo.length c) s.memo.length (nums s.memo) := h.v.m
  obtain ⟨gF, rfl⟩ := own_ad hf
  rw [(add_at gF k 0).1]
  refine h.m0 ?_ (Fr.set _ _ (by rfl))
  have := own_set hf k (.int .i64 z)
  unfold IR
  rw [List.length_set]
  simpa [nums, List.map_set] using this
theorem Box.dn {v0K v0F v0S v0M w0 w g g2 vK vF vS vM s} (h : Box v0K v0F v0S v0M w0 w g g2 vK vF vS vM s) (b : Bool) : Box v0K v0F v0S v0M w0 (w.setCell ⟨g, 4, none⟩ (.bool b)) g g2 vK vF vS vM { s with done := b } :=
  have q := h.v.set h.b 4 (.bool b)
  ⟨h.b.set.2.2.2 b, (Below.heap_setCell _ _ _ _ h.ne.symm).trans h.r, ⟨q.k, q.f, q.t, q.m, q.ks, q.km, q.sm⟩, fr_old h.f h.lo.1 rfl, h.o, h.ne, h.lo⟩
theorem Box.tvia {v0K v0F v0S v0M w0 w w' g g2 vK vF vS vM s A1 n1 c1 A2 n2 c2 A3 n3 c3 A4 n4 c4 s'} (h : Box v0K v0F v0S v0M w0 w g g2 vK vF vS vM s) (hp : SPost vK vF vS vM s' w (.slice A1 n1 c1) (.slice A2 n2 c2) (.slice A3 n3 c3) (.slice A4 n4 c4) w') :
    TPost v0K v0F v0S v0M (some s') w0 (.returned (.tuple #[.agg #[.slice A1 n1 c1, .slice A2 n2 c2, .slice A3 n3 c3, .slice A4 n4 c4, .bool s'.done], .bool true])) (((((w'.setCell ⟨g2, 0, none⟩ (.slice A1 n1 c1)).setCell ⟨g2, 1, none⟩ (.slice A2 n2 c2)).setCell ⟨g2, 2, none⟩ (.slice A3 n3 c3)).setCell ⟨g2, 3, none⟩ (.slice A4 n4 c4)).setCell ⟨g2, 4, none⟩ (.bool s'.done)) := by
  have hv := (h.via hp).2 _ _ _ _ _ rfl rfl rfl rfl rfl
  refine ⟨_, _, _, _, _, _, _, _, _, _, _, _, _, rfl, hv.2.1, fun s1 hs1 => ?_⟩
  injection hs1 with hs1
  subst hs1
  exact ⟨rfl, hv⟩
theorem SV.forms {w vK vF vS vM s} (h : SV w vK vF vS vM s) : ∃ A1 c1 A2 c2 A3 c3 A4 c4, vK = .slice A1 s.kinds.length c1 ∧ vF = .slice A2 s.full.length c2 ∧ vS = .slice A3 s.stack.length c3 ∧ vM = .slice A4 s.memo.length c4 := by
  obtain ⟨A1, c1, h1, _, _⟩ := own_form h.k
  obtain ⟨A2, c2, h2, _, _⟩ := own_form h.f
  obtain ⟨A3, c3, h3, _, _⟩ := own_form h.t
  obtain ⟨A4, c4, h4, _, _⟩ := own_form h.m
  exact ⟨A1, c1, A2, c2, A3, c3, A4, c4, h1, h2, h3, h4⟩
theorem Box.same {v0K v0F v0S v0M w0 w g g2 vK vF vS vM s} (h : Box v0K v0F v0S v0M w0 w g g2 vK vF vS vM s) : Box v0K v0F v0S v0M w0 (w.setCell ⟨g, 2, none⟩ vS) g g2 vK vF vS vM s :=
  Box.t h h.v.t (Fr.rf _ _) (FreshOr.rf _ _)
theorem slice_toA (A : Option Addr) (n c : Nat) (hc : n ≤ c) : ∀ W : World, (Instr.slice 32 (.slice A n c) none (some (.int .i64 (n : Int))) none).run Try.prog W = .ok (.slice A n c) W := by
  intro W
  have := slice_toI A n c 0 (Nat.zero_le _) hc W
  simpa using this
theorem wrapI (x : Int) (h1 : -9223372036854775808 ≤ x) (h2 : x ≤ 9223372036854775807) : IntKind.i64.wrap x = x := by rw [IntKind.wrap_i64]; omega
theorem sizS_cut {s : Sh} (h : sizS s) (n : Nat) : sizS (cutS s n) := ⟨h.k, h.f, by have := h.t; simp [cutS]; omega, h.m⟩
theorem keyKind_c (k : Int) (w : World) : Calls Try.prog 152 #[.int .i64 k] w fun e w' => e = .returned (.bool (keyK k)) ∧ w = w' := by
  rcases bceq k 0 with h0 | h0
  · subst h0; go_enter Try.func152, Try.ntmps152; go_wp2; go_ret; exact ⟨rfl, rfl⟩
  · go_enter Try.func152, Try.ntmps152
    go_wp2
    go_ret
    exact ⟨by unfold keyK; rw [h0]; rfl, rfl⟩

set_option maxRecDepth 100000 in
set_option maxHeartbeats 1000000 in
theorem take_17 (vK vF vS vM : Value) (s : Sh) (arg : Int) (w : World) (hs : SV w vK vF vS vM s) (hok : okS s) :
    Calls Try.prog 131 #[.agg #[vK, vF, vS, vM, .bool s.done], .agg #[.int .i64 17, .int .i64 arg]] w (TPost vK vF vS vM (takeS s ⟨17, arg⟩) w) := by
  obtain ⟨AK, cK, AF, cF, AS, cS, AM, cM, rfl, rfl, rfl, rfl, q1, q2, q3, q4, r1, r2, r3, r4⟩ := hs.rd hok.siz.k hok.siz.f hok.siz.t hok.siz.m
  have hsl := hok.sl
  have hn := Box.new2 hs 17 arg
  have HN := As.mk hn
  have HS := As.mk hs
  have HOK := As.mk hok
  clear hs hn hok r1 r2 r3 r4
  go_enter Try.func131, Try.ntmps131
  go_upto_region 1 with fail
  generalize ((w.alloc (.cells #[.slice AK s.kinds.length cK, .slice AF s.full.length cF, .slice AS s.stack.length cS, .slice AM s.memo.length cM, .bool s.done] 51)).alloc (.cells #[.int .i64 17, .int .i64 arg] 82)).alloc (.cells #[.slice none 0 0, .slice none 0 0, .slice none 0 0, .slice none 0 0, .bool false] 51) = w1 at HN ⊢
  have hb := HN.out.1
  have HO := As.mk HN.out.2
  clear HN
  have HB := As.mk hb; have c0 := hb.b.c0; have c1 := hb.b.c1; have c2 := hb.b.c2; have c3 := hb.b.c3; have c4 := hb.b.c4; clear hb
  go_upto_region 2 with (go_at_call 87; refine (shapeAt_i _ _ _ _ _ _ _ _ _ _ _ s _ _ (rdA_I HB.out.v.k HOK.out.siz.k) (rdA_I HB.out.v.t HOK.out.siz.t) HOK.out.lt (by omega) (by omega)).mono ?_; rintro e w2 ⟨z0, rfl, hz, he⟩; have HZ0 := As.mk hz; have hb := HB.out.ext he; have HO2 := As.mk (he.blk HO.out); clear hz he HO)
  clear c0 c1 c2 c3 c4 HB
  have HO := HO2
  clear HO2
  have HB := As.mk hb; have c0 := hb.b.c0; have c1 := hb.b.c1; have c2 := hb.b.c2; have c3 := hb.b.c3; have c4 := hb.b.c4; clear hb
  go_upto_region 3 with (go_at_call 87; refine (shapeAt_i _ _ _ _ _ _ _ _ _ _ _ s _ _ (rdA_I HB.out.v.k HOK.out.siz.k) (rdA_I HB.out.v.t HOK.out.siz.t) HOK.out.lt (by omega) (by omega)).mono ?_; rintro e w3 ⟨z1, rfl, hz, he⟩; have HZ1 := As.mk hz; have hb := HB.out.ext he; have HO2 := As.mk (he.blk HO.out); clear hz he HO)
  clear c0 c1 c2 c3 c4 HB
  have HO := HO2
  clear HO2
  have HB := As.mk hb; have c0 := hb.b.c0; have c1 := hb.b.c1; have c2 := hb.b.c2; have c3 := hb.b.c3; have c4 := hb.b.c4; clear hb
  have HZ0 : As (z0 = atS s 0) := HZ0
  have HZ1 : As (z1 = atS s 1) := HZ1
  have o0 := OB.c0 HO.out
  have o1 := OB.c1 HO.out
  have d0 := HB.out.r.c0; have d1 := HB.out.r.c1; have d2 := HB.out.r.c2; have d3 := HB.out.r.c3; have d4 := HB.out.r.c4
  have f0 := HB.out.r.fz 0; have f1 := HB.out.r.fz 1; have f2 := HB.out.r.fz 2; have f3 := HB.out.r.fz 3; have f4 := HB.out.r.fz 4
  have fs := HB.out.b.fz 2
  rcases bcase (0 ≤ z0) with h0 | h0
  · have hl0 := atS_nonneg (s := s) (d := 0) (by rw [← HZ0.out]; exact h0)
    have hlen := hl0.1
    have HL0 := As.mk hl0
    clear hl0
    have hsl1 := slice_toI AS s.stack.length cS 1 (by omega) q3
    have hb2 := HB.out.cut 1
    have HB2 := As.mk hb2
    clear hb2
    go_wp2_with fail
    have ho := HB2.out.out
    refine bodyPost_ret (results_cellt rfl _ _ (w.heap.size + 1 + 1) _ rfl (loadS ho.1)) rfl ?_
    have hr : takeS s ⟨17, arg⟩ = some (cutS s 1) := by show (if atS s 0 < 0 then none else some (cutS s 1)) = _; exact if_neg (by rw [← HZ0.out]; omega)
    rw [hr]
    exact HB2.out.tpost _ (.inr rfl)
  · go_wp2_with fail
    have ho := HB.out.out
    refine bodyPost_ret (results_cellt rfl _ _ (w.heap.size + 1 + 1) _ rfl (loadS ho.1)) rfl ?_
    have hr : takeS s ⟨17, arg⟩ = none := by unfold takeS; exact if_pos (by rw [← HZ0.out]; simpa using h0)
    rw [hr]
    exact HB.out.tpost _ (.inl rfl)
set_option maxRecDepth 100000 in
set_option maxHeartbeats 1000000 in
theorem take_5 (vK vF vS vM : Value) (s : Sh) (arg : Int) (w : World) (hs : SV w vK vF vS vM s) (hok : okS s) :
    Calls Try.prog 131 #[.agg #[vK, vF, vS, vM, .bool s.done], .agg #[.int .i64 5, .int .i64 arg]] w (TPost vK vF vS vM (takeS s ⟨5, arg⟩) w) := by
  obtain ⟨AK, cK, AF, cF, AS, cS, AM, cM, rfl, rfl, rfl, rfl, q1, q2, q3, q4, r1, r2, r3, r4⟩ := hs.rd hok.siz.k hok.siz.f hok.siz.t hok.siz.m
  have hsl := hok.sl
  have hn := Box.new2 hs 5 arg
  have HN := As.mk hn
  have HS := As.mk hs
  have HOK := As.mk hok
  clear hs hn hok r1 r2 r3 r4
  go_enter Try.func131, Try.ntmps131
  go_upto_region 1 with fail
  generalize ((w.alloc (.cells #[.slice AK s.kinds.length cK, .slice AF s.full.length cF, .slice AS s.stack.length cS, .slice AM s.memo.length cM, .bool s.done] 51)).alloc (.cells #[.int .i64 5, .int .i64 arg] 82)).alloc (.cells #[.slice none 0 0, .slice none 0 0, .slice none 0 0, .slice none 0 0, .bool false] 51) = w1 at HN ⊢
  have hb := HN.out.1
  have HO := As.mk HN.out.2
  clear HN
  have HB := As.mk hb; have c0 := hb.b.c0; have c1 := hb.b.c1; have c2 := hb.b.c2; have c3 := hb.b.c3; have c4 := hb.b.c4; clear hb
  go_upto_region 2 with (go_at_call 87; refine (shapeAt_i _ _ _ _ _ _ _ _ _ _ _ s _ _ (rdA_I HB.out.v.k HOK.out.siz.k) (rdA_I HB.out.v.t HOK.out.siz.t) HOK.out.lt (by omega) (by omega)).mono ?_; rintro e w2 ⟨z0, rfl, hz, he⟩; have HZ0 := As.mk hz; have hb := HB.out.ext he; have HO2 := As.mk (he.blk HO.out); clear hz he HO)
  clear c0 c1 c2 c3 c4 HB
  have HO := HO2
  clear HO2
  have HB := As.mk hb; have c0 := hb.b.c0; have c1 := hb.b.c1; have c2 := hb.b.c2; have c3 := hb.b.c3; have c4 := hb.b.c4; clear hb
  go_upto_region 3 with (go_at_call 87; refine (shapeAt_i _ _ _ _ _ _ _ _ _ _ _ s _ _ (rdA_I HB.out.v.k HOK.out.siz.k) (rdA_I HB.out.v.t HOK.out.siz.t) HOK.out.lt (by omega) (by omega)).mono ?_; rintro e w3 ⟨z1, rfl, hz, he⟩; have HZ1 := As.mk hz; have hb := HB.out.ext he; have HO2 := As.mk (he.blk HO.out); clear hz he HO)
  clear c0 c1 c2 c3 c4 HB
  have HO := HO2
  clear HO2
  have HB := As.mk hb; have c0 := hb.b.c0; have c1 := hb.b.c1; have c2 := hb.b.c2; have c3 := hb.b.c3; have c4 := hb.b.c4; clear hb
  have HZ0 : As (z0 = atS s 0) := HZ0
  have HZ1 : As (z1 = atS s 1) := HZ1
  have o0 := OB.c0 HO.out
  have o1 := OB.c1 HO.out
  have d0 := HB.out.r.c0; have d1 := HB.out.r.c1; have d2 := HB.out.r.c2; have d3 := HB.out.r.c3; have d4 := HB.out.r.c4
  have f0 := HB.out.r.fz 0; have f1 := HB.out.r.fz 1; have f2 := HB.out.r.fz 2; have f3 := HB.out.r.fz 3; have f4 := HB.out.r.fz 4
  have fs := HB.out.b.fz 2
  rcases bcase (0 ≤ z0) with h0 | h0
  · have hl0 := atS_nonneg (s := s) (d := 0) (by rw [← HZ0.out]; exact h0)
    have hlen := hl0.1
    have HL0 := As.mk hl0
    clear hl0
    have hsl1 := slice_toI AS s.stack.length cS 1 (by omega) q3
    have hb2 := HB.out.cut 1
    have HB2 := As.mk hb2
    clear hb2
    go_wp2_with (go_at_call 129; refine (pushShape_c _ _ _ _ (cutS s 1) 2 _ HB2.out.v (sizS_cut HOK.out.siz 1).k (sizS_cut HOK.out.siz 1).f (sizS_cut HOK.out.siz 1).t).mono ?_; rintro e w4 ⟨vK', vF', vS', vM', rfl, hp⟩; obtain ⟨B1, e1, B2, e2, B3, e3, B4, e4, rfl, rfl, rfl, rfl⟩ := hp.1.forms; have HP := As.mk hp; have hr := (HB2.out.via hp).1; have HR4 := As.mk hr; have d0 := hr.c0; have d1 := hr.c1; have d2 := hr.c2; have d3 := hr.c3; have d4 := hr.c4; have f0 := hr.fz 0; have f1 := hr.fz 1; have f2 := hr.fz 2; have f3 := hr.fz 3; have f4 := hr.fz 4; clear hp hr)
    refine bodyPost_ret (results_cellt rfl _ _ (w.heap.size + 1 + 1) _ rfl (loadS (SB.all _ _ _ _ _ HR4.out))) rfl ?_
    have hr : takeS s ⟨5, arg⟩ = some (pushS (cutS s 1) 2) := by show (if atS s 0 < 0 then none else some (pushS (cutS s 1) 2)) = _; exact if_neg (by rw [← HZ0.out]; omega)
    rw [hr]
    exact HB2.out.tvia HP.out
  · go_wp2_with fail
    have ho := HB.out.out
    refine bodyPost_ret (results_cellt rfl _ _ (w.heap.size + 1 + 1) _ rfl (loadS ho.1)) rfl ?_
    have hr : takeS s ⟨5, arg⟩ = none := by unfold takeS; exact if_pos (by rw [← HZ0.out]; simpa using h0)
    rw [hr]
    exact HB.out.tpost _ (.inl rfl)
set_option maxRecDepth 100000 in
set_option maxHeartbeats 1000000 in
theorem take_6 (vK vF vS vM : Value) (s : Sh) (arg : Int) (w : World) (hs : SV w vK vF vS vM s) (hok : okS s) :
    Calls Try.prog 131 #[.agg #[vK, vF, vS, vM, .bool s.done], .agg #[.int .i64 6, .int .i64 arg]] w (TPost vK vF vS vM (takeS s ⟨6, arg⟩) w) := by
  obtain ⟨AK, cK, AF, cF, AS, cS, AM, cM, rfl, rfl, rfl, rfl, q1, q2, q3, q4, r1, r2, r3, r4⟩ := hs.rd hok.siz.k hok.siz.f hok.siz.t hok.siz.m
  have hsl := hok.sl
  have hn := Box.new2 hs 6 arg
  have HN := As.mk hn
  have HS := As.mk hs
  have HOK := As.mk hok
  clear hs hn hok r1 r2 r3 r4
  go_enter Try.func131, Try.ntmps131
  go_upto_region 1 with fail
  generalize ((w.alloc (.cells #[.slice AK s.kinds.length cK, .slice AF s.full.length cF, .slice AS s.stack.length cS, .slice AM s.memo.length cM, .bool s.done] 51)).alloc (.cells #[.int .i64 6, .int .i64 arg] 82)).alloc (.cells #[.slice none 0 0, .slice none 0 0, .slice none 0 0, .slice none 0 0, .bool false] 51) = w1 at HN ⊢
  have hb := HN.out.1
  have HO := As.mk HN.out.2
  clear HN
  have HB := As.mk hb; have c0 := hb.b.c0; have c1 := hb.b.c1; have c2 := hb.b.c2; have c3 := hb.b.c3; have c4 := hb.b.c4; clear hb
  go_upto_region 2 with (go_at_call 87; refine (shapeAt_i _ _ _ _ _ _ _ _ _ _ _ s _ _ (rdA_I HB.out.v.k HOK.out.siz.k) (rdA_I HB.out.v.t HOK.out.siz.t) HOK.out.lt (by omega) (by omega)).mono ?_; rintro e w2 ⟨z0, rfl, hz, he⟩; have HZ0 := As.mk hz; have hb := HB.out.ext he; have HO2 := As.mk (he.blk HO.out); clear hz he HO)
  clear c0 c1 c2 c3 c4 HB
  have HO := HO2
  clear HO2
  have HB := As.mk hb; have c0 := hb.b.c0; have c1 := hb.b.c1; have c2 := hb.b.c2; have c3 := hb.b.c3; have c4 := hb.b.c4; clear hb
  go_upto_region 3 with (go_at_call 87; refine (shapeAt_i _ _ _ _ _ _ _ _ _ _ _ s _ _ (rdA_I HB.out.v.k HOK.out.siz.k) (rdA_I HB.out.v.t HOK.out.siz.t) HOK.out.lt (by omega) (by omega)).mono ?_; rintro e w3 ⟨z1, rfl, hz, he⟩; have HZ1 := As.mk hz; have hb := HB.out.ext he; have HO2 := As.mk (he.blk HO.out); clear hz he HO)
  clear c0 c1 c2 c3 c4 HB
  have HO := HO2
  clear HO2
  have HB := As.mk hb; have c0 := hb.b.c0; have c1 := hb.b.c1; have c2 := hb.b.c2; have c3 := hb.b.c3; have c4 := hb.b.c4; clear hb
  have HZ0 : As (z0 = atS s 0) := HZ0
  have HZ1 : As (z1 = atS s 1) := HZ1
  have o0 := OB.c0 HO.out
  have o1 := OB.c1 HO.out
  have d0 := HB.out.r.c0; have d1 := HB.out.r.c1; have d2 := HB.out.r.c2; have d3 := HB.out.r.c3; have d4 := HB.out.r.c4
  have f0 := HB.out.r.fz 0; have f1 := HB.out.r.fz 1; have f2 := HB.out.r.fz 2; have f3 := HB.out.r.fz 3; have f4 := HB.out.r.fz 4
  have fs := HB.out.b.fz 2
  rcases bcase (0 ≤ z0) with h0 | h0
  · have hl0 := atS_nonneg (s := s) (d := 0) (by rw [← HZ0.out]; exact h0)
    have hlen := hl0.1
    have HL0 := As.mk hl0
    clear hl0
    rcases bcase (z1 < 0) with h1 | h1
    · go_wp2_with fail
      have ho := HB.out.out
      refine bodyPost_ret (results_cellt rfl _ _ (w.heap.size + 1 + 1) _ rfl (loadS ho.1)) rfl ?_
      have hr : takeS s ⟨6, arg⟩ = none := by show (if atS s 0 < 0 then none else if atS s 1 < 0 then none else some (pushS (cutS s 2) 2)) = _; rw [if_neg (by rw [← HZ0.out]; omega), if_pos (by rw [← HZ1.out]; exact h1)]
      rw [hr]
      exact HB.out.tpost _ (.inl rfl)
    · have h1n : 0 ≤ z1 := by simpa using h1
      have hlen1 := (atS_nonneg (s := s) (d := 1) (by rw [← HZ1.out]; exact h1n)).1
      have hsl1 := slice_toI AS s.stack.length cS 2 (by omega) q3
      have hb2 := HB.out.cut 2
      have HB2 := As.mk hb2
      clear hb2
      go_wp2_with (go_at_call 129; refine (pushShape_c _ _ _ _ (cutS s 2) 2 _ HB2.out.v (sizS_cut HOK.out.siz 2).k (sizS_cut HOK.out.siz 2).f (sizS_cut HOK.out.siz 2).t).mono ?_; rintro e w4 ⟨vK', vF', vS', vM', rfl, hp⟩; obtain ⟨B1, e1, B2, e2, B3, e3, B4, e4, rfl, rfl, rfl, rfl⟩ := hp.1.forms; have HP := As.mk hp; have hr := (HB2.out.via hp).1; have HR4 := As.mk hr; have d0 := hr.c0; have d1 := hr.c1; have d2 := hr.c2; have d3 := hr.c3; have d4 := hr.c4; have f0 := hr.fz 0; have f1 := hr.fz 1; have f2 := hr.fz 2; have f3 := hr.fz 3; have f4 := hr.fz 4; clear hp hr)
      refine bodyPost_ret (results_cellt rfl _ _ (w.heap.size + 1 + 1) _ rfl (loadS (SB.all _ _ _ _ _ HR4.out))) rfl ?_
      have hr : takeS s ⟨6, arg⟩ = some (pushS (cutS s 2) 2) := by show (if atS s 0 < 0 then none else if atS s 1 < 0 then none else some (pushS (cutS s 2) 2)) = _; rw [if_neg (by rw [← HZ0.out]; omega), if_neg (by rw [← HZ1.out]; omega)]
      rw [hr]
      exact HB2.out.tvia HP.out
  · go_wp2_with fail
    have ho := HB.out.out
    refine bodyPost_ret (results_cellt rfl _ _ (w.heap.size + 1 + 1) _ rfl (loadS ho.1)) rfl ?_
    have hr : takeS s ⟨6, arg⟩ = none := by unfold takeS; exact if_pos (by rw [← HZ0.out]; simpa using h0)
    rw [hr]
    exact HB.out.tpost _ (.inl rfl)
set_option maxRecDepth 100000 in
set_option maxHeartbeats 1000000 in
theorem take_8 (vK vF vS vM : Value) (s : Sh) (arg : Int) (w : World) (hs : SV w vK vF vS vM s) (hok : okS s) :
    Calls Try.prog 131 #[.agg #[vK, vF, vS, vM, .bool s.done], .agg #[.int .i64 8, .int .i64 arg]] w (TPost vK vF vS vM (takeS s ⟨8, arg⟩) w) := by
  obtain ⟨AK, cK, AF, cF, AS, cS, AM, cM, rfl, rfl, rfl, rfl, q1, q2, q3, q4, r1, r2, r3, r4⟩ := hs.rd hok.siz.k hok.siz.f hok.siz.t hok.siz.m
  have hsl := hok.sl
  have hn := Box.new2 hs 8 arg
  have HN := As.mk hn
  have HS := As.mk hs
  have HOK := As.mk hok
  clear hs hn hok r1 r2 r3 r4
  go_enter Try.func131, Try.ntmps131
  go_upto_region 1 with fail
  generalize ((w.alloc (.cells #[.slice AK s.kinds.length cK, .slice AF s.full.length cF, .slice AS s.stack.length cS, .slice AM s.memo.length cM, .bool s.done] 51)).alloc (.cells #[.int .i64 8, .int .i64 arg] 82)).alloc (.cells #[.slice none 0 0, .slice none 0 0, .slice none 0 0, .slice none 0 0, .bool false] 51) = w1 at HN ⊢
  have hb := HN.out.1
  have HO := As.mk HN.out.2
  clear HN
  have HB := As.mk hb; have c0 := hb.b.c0; have c1 := hb.b.c1; have c2 := hb.b.c2; have c3 := hb.b.c3; have c4 := hb.b.c4; clear hb
  go_upto_region 2 with (go_at_call 87; refine (shapeAt_i _ _ _ _ _ _ _ _ _ _ _ s _ _ (rdA_I HB.out.v.k HOK.out.siz.k) (rdA_I HB.out.v.t HOK.out.siz.t) HOK.out.lt (by omega) (by omega)).mono ?_; rintro e w2 ⟨z0, rfl, hz, he⟩; have HZ0 := As.mk hz; have hb := HB.out.ext he; have HO2 := As.mk (he.blk HO.out); clear hz he HO)
  clear c0 c1 c2 c3 c4 HB
  have HO := HO2
  clear HO2
  have HB := As.mk hb; have c0 := hb.b.c0; have c1 := hb.b.c1; have c2 := hb.b.c2; have c3 := hb.b.c3; have c4 := hb.b.c4; clear hb
  go_upto_region 3 with (go_at_call 87; refine (shapeAt_i _ _ _ _ _ _ _ _ _ _ _ s _ _ (rdA_I HB.out.v.k HOK.out.siz.k) (rdA_I HB.out.v.t HOK.out.siz.t) HOK.out.lt (by omega) (by omega)).mono ?_; rintro e w3 ⟨z1, rfl, hz, he⟩; have HZ1 := As.mk hz; have hb := HB.out.ext he; have HO2 := As.mk (he.blk HO.out); clear hz he HO)
  clear c0 c1 c2 c3 c4 HB
  have HO := HO2
  clear HO2
  have HB := As.mk hb; have c0 := hb.b.c0; have c1 := hb.b.c1; have c2 := hb.b.c2; have c3 := hb.b.c3; have c4 := hb.b.c4; clear hb
  have HZ0 : As (z0 = atS s 0) := HZ0
  have HZ1 : As (z1 = atS s 1) := HZ1
  have o0 := OB.c0 HO.out
  have o1 := OB.c1 HO.out
  have d0 := HB.out.r.c0; have d1 := HB.out.r.c1; have d2 := HB.out.r.c2; have d3 := HB.out.r.c3; have d4 := HB.out.r.c4
  have f0 := HB.out.r.fz 0; have f1 := HB.out.r.fz 1; have f2 := HB.out.r.fz 2; have f3 := HB.out.r.fz 3; have f4 := HB.out.r.fz 4
  have fs := HB.out.b.fz 2
  rcases bcase (0 ≤ z0) with h0 | h0
  · have hl0 := atS_nonneg (s := s) (d := 0) (by rw [← HZ0.out]; exact h0)
    have hlen := hl0.1
    have HL0 := As.mk hl0
    clear hl0
    rcases bceq z1 3 with h1 | h1
    · have h13 : atS s 1 = 3 := by rw [← HZ1.out]; exact h1
      have hlen1 := (atS_nonneg (s := s) (d := 1) (by rw [h13]; omega)).1
      have H13 := As.mk h13
      clear h13 HZ1
      subst h1
      have hsl1 := slice_toI AS s.stack.length cS 1 (by omega) q3
      have hb2 := HB.out.cut 1
      have HB2 := As.mk hb2
      clear hb2
      go_wp2_with fail
      have ho := HB2.out.out
      refine bodyPost_ret (results_cellt rfl _ _ (w.heap.size + 1 + 1) _ rfl (loadS ho.1)) rfl ?_
      have hr : takeS s ⟨8, arg⟩ = some (cutS s 1) := by show (if atS s 0 < 0 then none else if atS s 1 = 3 then some (cutS s 1) else none) = _; rw [if_neg (by rw [← HZ0.out]; omega), if_pos H13.out]
      rw [hr]
      exact HB2.out.tpost _ (.inr rfl)
    · go_wp2_with fail
      have ho := HB.out.out
      refine bodyPost_ret (results_cellt rfl _ _ (w.heap.size + 1 + 1) _ rfl (loadS ho.1)) rfl ?_
      have hr : takeS s ⟨8, arg⟩ = none := by show (if atS s 0 < 0 then none else if atS s 1 = 3 then some (cutS s 1) else none) = _; rw [if_neg (by rw [← HZ0.out]; omega), if_neg (by rw [← HZ1.out]; simpa using h1)]
      rw [hr]
      exact HB.out.tpost _ (.inl rfl)
  · go_wp2_with fail
    have ho := HB.out.out
    refine bodyPost_ret (results_cellt rfl _ _ (w.heap.size + 1 + 1) _ rfl (loadS ho.1)) rfl ?_
    have hr : takeS s ⟨8, arg⟩ = none := by unfold takeS; exact if_pos (by rw [← HZ0.out]; simpa using h0)
    rw [hr]
    exact HB.out.tpost _ (.inl rfl)
end Go.Proofs.Ytcodbpjaamggeaa.C
