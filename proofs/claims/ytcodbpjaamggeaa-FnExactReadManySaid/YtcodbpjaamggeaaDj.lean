/- The law FnExactReadMany. -/
import Derived.Test.YtcodbpjaamggeaaOf
import Derived.Test.YtcodbpjaamggeaaHe
set_option linter.unusedVariables false
set_option linter.unusedSimpArgs false
namespace Go.Proofs.Ytcodbpjaamggeaa.C
open Go.RowKit Go.Proofs.Ytcodbpjaamggeaa.W Go.Proofs.Ytcodbpjaamggeaa.P

/-- Sizes of what ReadMany returns. -/
structure SmR (ns : List Nd) (rs : List Int) : Prop where
  n : ns.length ≤ 300
  k : ∀ p ∈ ns, p.kids.length ≤ 100000
  r : rs.length ≤ 300
theorem smR_of (ops : List Opr) : SmR (rdmN ops) (rdmS ops) := by
  unfold rdmN rdmS
  cases h : vOps ops with
  | true =>
    rw [if_pos rfl, if_pos rfl]
    obtain ⟨k, hk, hat, -⟩ := many_ok ops (vOps_all h).1
    have h3 := (vOps_all h).2
    exact ⟨hat.sv.nl, fun p hp => by have := (hat.sv.ki p hp).1; omega, by have := hat.rl; omega⟩
  | false => exact ⟨by simp, by simp, by simp⟩
theorem sReadMany_k (A : Option Addr) (c : Nat) (ops : List Opr) (w : World) (hr : RdO w A ops) {ns : List Nd} {rs : List Int} {n : Int} (h1 : rdmN ops = ns) (h2 : rdmS ops = rs) (h3 : rdmE ops = n) : Calls Try.prog 67 #[.slice A ops.length c] w (RdMV ns rs n w) := by
  subst h1 h2 h3; exact sReadMany_c A c ops w hr
theorem ReadMany_k (A : Option Addr) (c : Nat) (ops : List Opr) (w : World) (hr : RdO w A ops) {ns : List Nd} {rs : List Int} {n : Int} (h1 : rdmN ops = ns) (h2 : rdmS ops = rs) (h3 : rdmE ops = n) : Calls Try.prog 68 #[.slice A ops.length c] w (RdMV ns rs n w) := by
  subst h1 h2 h3; exact ReadMany_c A c ops w hr
theorem fg_of {vN : Value} {l l' : List (Nd × Value)} (h : l'.map Prod.snd = l.map Prod.snd) (k : Nat) (hk : FG vN l' k) : FG vN l k := by
  rcases hk with e | ⟨p, hp, e⟩
  · exact .inl e
  · obtain ⟨p', h1, h2⟩ := snd_mem h p hp
    exact .inr ⟨p', h1, by rw [h2]; exact e⟩
theorem kk_of {l l' : List (Nd × Value)} (h : l'.map Prod.snd = l.map Prod.snd) (hk : l.Pairwise (fun p q => Apart p.2 q.2)) : l'.Pairwise (fun p q => Apart p.2 q.2) := by
  have h1 : (l.map Prod.snd).Pairwise Apart := List.pairwise_map.2 hk
  rw [← h] at h1
  exact List.pairwise_map.1 h1
theorem NW.al2 {B w l vN ns} (h : NW B w l vN ns) (o : Obj) (R : Value) (hR : ∀ k, R.ownBlock = some k → ¬ FG vN l k) : NW (fun k => (B k ∧ k ≠ w.heap.size) ∧ ¬ R.ownBlock = some k) (w.alloc o) l vN ns := by
  have h1 := h.al1 o
  exact ⟨h1.nr, h1.ns, fun k hk => ⟨h1.lo k hk, fun e => hR k e hk⟩, h1.kk⟩
set_option maxRecDepth 100000 in
set_option maxHeartbeats 4000000 in
theorem markGraph_w {B l A c ns} (r q : Int) (w : World) (h : NW B w l (.slice A ns.length c) ns) (h1 : ns.length ≤ 300) (hkl : ∀ p ∈ ns, p.kids.length ≤ 100000) (h0 : 0 ≤ q) (hq : q ≤ 1000000) :
    Calls Try.prog 56 #[.agg #[.slice A ns.length c, .int .i64 r], .int .i64 q] w fun e w' => e = .returned (.int .i64 (endNd q ns)) ∧ (∃ l', NW B w' l' (.slice A ns.length c) (marksNd q ns)) ∧ Fr B w w' := by
  have hln : ns.length = l.length := by rw [← h.ns, List.length_map]
  have hx : Ext w (w.alloc (.cells #[.slice A ns.length c, .int .i64 r] 58)) := (Ext.rf w).al _
  have hb : GB (w.alloc (.cells #[.slice A ns.length c, .int .i64 r] 58)) w.heap.size (.slice A ns.length c) (.int .i64 r) := al_new _ _
  have HV := As.mk (h.ext hx)
  have HX := As.mk hx
  have HB := As.mk hb
  have HLN := As.mk hln
  have hk2 : ∀ p ∈ l, p.1.kids.length ≤ 100000 := fun p hp => hkl p.1 (by rw [← h.ns]; exact List.mem_map.2 ⟨p, hp, rfl⟩)
  have HK2 := As.mk hk2
  have HNS := As.mk h.ns
  clear h hx hb hln hkl hk2
  go_enter Try.func56, Try.ntmps56
  go_upto_region 1 with fail
  generalize w.alloc (.cells #[.slice A ns.length c, .int .i64 r] 58) = w0 at HX HV HB ⊢
  generalize w.heap.size = g at HB ⊢
  have c0 := gb_c0 HB.out
  go_wp2_with (go_at_call 111; refine (markNodeS_m A ns.length c l q _ HV.out.nr HV.out.kk HLN.out h1 HK2.out h0 hq).mono ?_; rw [HNS.out]; rintro e w1 ⟨rfl, hmq⟩; have HMQ := As.mk hmq; clear hmq)
  go_ret
  obtain ⟨l', n1, s1, t1, fr1⟩ := HMQ.out
  have ht : l'.map Prod.fst = marksNd q ns := by
    rw [t1, HNS.out, List.take_length, List.drop_length, List.append_nil]
  exact ⟨rfl, ⟨l', n1, ht, fun k hk => HV.out.lo k (fg_of s1 k hk), kk_of s1 HV.out.kk⟩, (Fr.ofExt HX.out).trans (fr1.mono (fun k hk => HV.out.lo k hk))⟩
/-- Both results in their variables, and the copy that was handed in. -/
structure Gs3 (w W : World) (b g0 g1 : Nat) (lA lB : List (Nd × Value)) (aN bN aR bR x : Value) (ns : List Nd) (rs : List Int) (l : List Opr) : Prop where
  e : Ext w W
  b0 : GB W g0 aN (.int .i64 0)
  b1 : GB W g1 bN (.int .i64 0)
  v0 : NW (fun _ => True) W lA aN ns
  v1 : NW (fun k => (b ≤ k ∧ k ≠ g1) ∧ ¬ bR.ownBlock = some k) W lB bN ns
  r0 : IR W aR rs
  r1 : IR W bR rs
  ox : OR W x l
  a0 : ∀ k, FG aN lA k ∨ aR.ownBlock = some k → k < b ∧ ¬ x.ownBlock = some k
  c1 : ∀ k, bR.ownBlock = some k → b ≤ k ∧ k ≠ g1
  x1 : ∀ k, x.ownBlock = some k → k < b
  gb : g0 < b
  fx : Fresh x w
  wb : w.heap.size ≤ b
theorem Gs3.ext {w W W' b g0 g1 lA lB aN bN aR bR x ns rs l} (h : Gs3 w W b g0 g1 lA lB aN bN aR bR x ns rs l) (e : Ext W W') : Gs3 w W' b g0 g1 lA lB aN bN aR bR x ns rs l :=
  ⟨h.e.trans e, e.blk h.b0, e.blk h.b1, h.v0.ext e, h.v1.ext e, h.r0.ext e, h.r1.ext e, h.ox.ext e, h.a0, h.c1, h.x1, h.gb, h.fx, h.wb⟩
theorem Gs3.mx {w W W' b g0 g1 lA lB aN bN aR bR x ns rs l l'} (h : Gs3 w W b g0 g1 lA lB aN bN aR bR x ns rs l) (ho : OR W' x l') (hf : Fr (fun k => x.ownBlock = some k) W W') : Gs3 w W' b g0 g1 lA lB aN bN aR bR x ns rs l' :=
  ⟨fr_ext h.e hf h.fx, hf.blk h.b0 (fun e => own_ne_blk h.ox h.b0 (by decide) e), hf.blk h.b1 (fun e => own_ne_blk h.ox h.b1 (by decide) e), h.v0.fr hf (fun k hk => (h.a0 k (.inl hk)).2), h.v1.fr hf (fun k hk e => by have h2 := (h.v1.lo k hk).1.1; have h3 := h.x1 k e; omega), h.r0.fr hf (fun k hk => (h.a0 k (.inr hk)).2), h.r1.fr hf (fun k hk e => by have h2 := (h.c1 k hk).1; have h3 := h.x1 k e; omega), ho, h.a0, h.c1, h.x1, h.gb, h.fx, h.wb⟩
/-- The result's nodes hold their marks, and perhaps its roots theirs. -/
structure Gs2 (w W : World) (b g0 g1 : Nat) (lA lB : List (Nd × Value)) (aN bN aR bR : Value) (ns : List Nd) (rs ms : List Int) : Prop where
  e : Ext w W
  b0 : GB W g0 aN (.int .i64 0)
  b1 : GB W g1 bN (.int .i64 0)
  v0 : NW (fun _ => True) W lA aN ns
  v1 : NW (fun k => (b ≤ k ∧ k ≠ g1) ∧ ¬ bR.ownBlock = some k) W lB bN (marksNd 1 ns)
  r0 : IR W aR rs
  r1 : IR W bR ms
  a0 : ∀ k, FG aN lA k ∨ aR.ownBlock = some k → k < b
  c1 : ∀ k, bR.ownBlock = some k → b ≤ k ∧ k ≠ g1
  gb : g0 < b
  wb : w.heap.size ≤ b
theorem Gs2.ext {w W W' b g0 g1 lA lB aN bN aR bR ns rs ms} (h : Gs2 w W b g0 g1 lA lB aN bN aR bR ns rs ms) (e : Ext W W') : Gs2 w W' b g0 g1 lA lB aN bN aR bR ns rs ms :=
  ⟨h.e.trans e, e.blk h.b0, e.blk h.b1, h.v0.ext e, h.v1.ext e, h.r0.ext e, h.r1.ext e, h.a0, h.c1, h.gb, h.wb⟩
theorem Gs3.m1 {w W W' b g0 g1 lA lB lB' aN bN aR bR x ns rs l} (h : Gs3 w W b g0 g1 lA lB aN bN aR bR x ns rs l) (hm : NW (fun k => (b ≤ k ∧ k ≠ g1) ∧ ¬ bR.ownBlock = some k) W' lB' bN (marksNd 1 ns)) (hf : Fr (fun k => (b ≤ k ∧ k ≠ g1) ∧ ¬ bR.ownBlock = some k) W W') : Gs2 w W' b g0 g1 lA lB' aN bN aR bR ns rs rs :=
  ⟨(Fr.then (S := fun _ => False) (Fr.ofExt h.e) hf (fun k hk => .inr (Nat.le_trans h.wb hk.1.1))).ext (fun _ h => h.elim), hf.blk h.b0 (fun e => by have := h.gb; omega), hf.blk h.b1 (fun e => e.1.2 rfl), h.v0.fr hf (fun k hk e => by have := (h.a0 k (.inl hk)).1; omega), hm, h.r0.fr hf (fun k hk e => by have := (h.a0 k (.inr hk)).1; omega), h.r1.fr hf (fun k hk e => e.2 hk), fun k hk => (h.a0 k hk).1, h.c1, h.gb, h.wb⟩
theorem Gs2.m2 {w W W' b g0 g1 lA lB aN bN aR bR ns rs ms ms'} (h : Gs2 w W b g0 g1 lA lB aN bN aR bR ns rs ms) (ho : IR W' bR ms') (hf : Fr (fun k => bR.ownBlock = some k) W W') : Gs2 w W' b g0 g1 lA lB aN bN aR bR ns rs ms' :=
  ⟨(Fr.then (S := fun _ => False) (Fr.ofExt h.e) hf (fun k hk => .inr (Nat.le_trans h.wb (h.c1 k hk).1))).ext (fun _ h => h.elim), hf.blk h.b0 (fun e => by have := h.gb; have := (h.c1 _ e).1; omega), hf.blk h.b1 (fun e => (h.c1 _ e).2 rfl), h.v0.fr hf (fun k hk e => by have := h.a0 k (.inl hk); have := (h.c1 k e).1; omega), h.v1.fr hf (fun k hk e => (h.v1.lo k hk).2 e), h.r0.fr hf (fun k hk e => by have := h.a0 k (.inr hk); have := (h.c1 k e).1; omega), ho, h.a0, h.c1, h.gb, h.wb⟩
set_option maxRecDepth 100000 in
set_option maxHeartbeats 8000000 in
theorem FnExactReadMany_c (A : Option Addr) (c : Nat) (l : List Opr) (w : World) (hg : GivenO w A l) :
    Calls Try.prog 17 #[.slice A l.length c] w fun e w' => e = .returned (.bool true) ∧ Ext w w' := by
  have hln := hg.1
  have HG := As.mk hg
  clear hg
  by_cases hl : (l.length : Int) ≤ 1048576
  · obtain ⟨lf, hlf⟩ : ∃ lf, lf = (1048576 : Int) - l.length := ⟨_, rfl⟩
    have e1 : (if (l.length : Int) ≤ 1048576 then (1048576 : Int) - l.length else -1) = lf := by rw [hlf]; exact if_pos hl
    have h2 : 0 ≤ lf := by omega
    have E1 := As.mk e1
    have HR := As.mk (HG.out.rd (by omega))
    have HL := As.mk (show l.length ≤ 1048576 by omega)
    clear e1 hlf hl hln
    go_enter Try.func17, Try.ntmps17
    go_upto_region 3 with (go_at_call 19; refine (szOpS_c _ _ _ _ _ (by omega) (by omega) (by have := HL.out; omega)).mono ?_; rw [E1.out]; rintro e w1 ⟨rfl, rfl⟩)
    obtain ⟨ns, hns⟩ : ∃ ns, rdmN l = ns := ⟨_, rfl⟩
    obtain ⟨rs, hrs⟩ : ∃ rs, rdmS l = rs := ⟨_, rfl⟩
    obtain ⟨n, hnn⟩ : ∃ n, rdmE l = n := ⟨_, rfl⟩
    have HSM : As (SmR ns rs) := ⟨by have := smR_of l; rw [hns, hrs] at this; exact this⟩
    have HS := As.mk (And.intro hns (And.intro hrs hnn))
    have s1 := HSM.out.n
    have s2 := HSM.out.r
    clear hns hrs hnn
    go_upto_region 6 with (first | (go_at_call 21; refine (toOpS_c _ _ _ _ HR.out HL.out).mono ?_; rintro e w1 ⟨ad1, rfl, ho, he, _⟩; have HO1 := As.mk (rdA_O ho (by have := HL.out; omega)); have HE1 := As.mk he; clear ho he) | (go_at_call 67; refine (sReadMany_k _ _ _ _ HO1.out HS.out.1 HS.out.2.1 HS.out.2.2).mono ?_; rintro e w2 ⟨lA, A1, c1, R1, k1, rfl, hv, hri, -, -, he⟩; have HE2 := As.mk (HE1.out.trans he); have HV0 := As.mk (And.intro (hv.base (B' := fun _ => True) (fun _ _ _ => trivial)) hri); clear he hv hri))
    clear HO1 HE1
    have hb : GB (w2.alloc (.cells #[.slice A1 ns.length c1, .int .i64 0] 58)) w2.heap.size (.slice A1 ns.length c1) (.int .i64 0) := al_new w2 _
    have HX3 := As.mk (HE2.out.al (.cells #[.slice A1 ns.length c1, .int .i64 0] 58))
    have HV3 := As.mk (And.intro (HV0.out.1.ext ((Ext.rf _).al (.cells #[.slice A1 ns.length c1, .int .i64 0] 58))) (HV0.out.2.ext ((Ext.rf _).al (.cells #[.slice A1 ns.length c1, .int .i64 0] 58))))
    generalize w2.alloc (.cells #[.slice A1 ns.length c1, .int .i64 0] 58) = w3 at hb HX3 HV3 ⊢
    generalize w2.heap.size = g0 at hb ⊢
    have HB0 := As.mk hb
    clear hb HV0 HE2
    go_upto_region 7 with (go_at_call 21; refine (toOpS_c _ _ _ _ (HR.out.ext HX3.out) HL.out).mono ?_; rintro e w4 ⟨ad2, rfl, ho, he, hb⟩; have HO2 := As.mk ho; have HFX := As.mk (fresh_le (or_fresh ho hb) HX3.out); have HA0 : As (∀ k, FG (.slice A1 ns.length c1) lA k ∨ (Value.slice R1 rs.length k1).ownBlock = some k → k < w4.heap.size ∧ ¬ (Value.slice (some ad2) l.length l.length).ownBlock = some k) := ⟨fun k hk => ⟨Nat.lt_of_lt_of_le (hk.elim (HV3.out.1.lt k) (own_lt HV3.out.2)) he.size, fun e => by have h1 := hk.elim (HV3.out.1.lt k) (own_lt HV3.out.2); have h2 := or_fresh ho hb k e; omega⟩⟩; have HV4 := As.mk (And.intro (HV3.out.1.ext he) (HV3.out.2.ext he)); have HB4 := As.mk (he.blk HB0.out); have HE4 := As.mk (HX3.out.trans he); clear ho he hb)
    clear HV3 HX3 HB0
    go_upto_region 8 with (go_at_call 68; refine (ReadMany_k _ _ _ _ (rdA_O HO2.out (by have := HL.out; omega)) HS.out.1 HS.out.2.1 HS.out.2.2).mono ?_; rintro e w5 ⟨lB, B1, d1, R2, k2, rfl, hv, hri, hfr, hap, he⟩; have HV5 := As.mk (And.intro hv (And.intro hri (And.intro hfr hap))); have HE5 := As.mk he; clear hv hri hfr hap he)
    have hz : Gs3 w (w5.alloc (.cells #[.slice B1 ns.length d1, .int .i64 0] 58)) w4.heap.size g0 w5.heap.size lA lB (.slice A1 ns.length c1) (.slice B1 ns.length d1) (.slice R1 rs.length k1) (.slice R2 rs.length k2) (.slice (some ad2) l.length l.length) ns rs l :=
      ⟨(HE4.out.trans HE5.out).al _, ((Ext.rf _).al _).blk (HE5.out.blk HB4.out), al_new _ _, (HV4.out.1.ext HE5.out).ext ((Ext.rf _).al _), HV5.out.1.al2 _ (.slice R2 rs.length k2) HV5.out.2.2.2, (HV4.out.2.ext HE5.out).ext ((Ext.rf _).al _), HV5.out.2.1.ext ((Ext.rf _).al _), (HO2.out.ext HE5.out).ext ((Ext.rf _).al _), HA0.out,
        fun k hk => ⟨HV5.out.2.2.1 k hk, fun e => by have := own_lt HV5.out.2.1 hk; omega⟩, fun k hk => or_lt HO2.out k hk, (Array.getElem?_eq_some_iff.1 HB4.out).1, HFX.out, HE4.out.size⟩
    have HZ := As.mk hz
    clear hz HO2 HFX HA0 HV4 HB4 HE4 HV5 HE5
    generalize w5.alloc (.cells #[.slice B1 ns.length d1, .int .i64 0] 58) = w6 at HZ ⊢
    generalize w5.heap.size = g1 at HZ ⊢
    generalize w4.heap.size = bb at HZ
    have a0 := gb_c0 HZ.out.b0
    have a1 := gb_c1 HZ.out.b0
    have b0 := gb_c0 HZ.out.b1
    have b1 := gb_c1 HZ.out.b1
    go_upto_region 10 with (first | (go_at_call 55; refine (eqGraph_t _ _ _ _ ns 0 _ (HZ.out.v1.rd (by omega)) (HZ.out.v0.rd (by omega))).mono ?_; rintro e w7 ⟨rfl, he⟩; have HZ6 := As.mk (HZ.out.ext he); clear he) | (go_at_call 32; refine (eqIntS_t _ _ _ _ _ _ (rdA_I HZ6.out.r1 (by omega)) (rdA_I HZ6.out.r0 (by omega))).mono ?_; rintro e w7b ⟨rfl, he⟩; have HZ7 := As.mk (HZ6.out.ext he); clear he))
    clear a0 a1 b0 b1 HZ HZ6
    go_upto_region 12 with (first | (go_at_call 21; refine (toOpS_c _ _ _ _ (HR.out.ext HZ7.out.e) HL.out).mono ?_; rintro e w8 ⟨ad3, rfl, ho, he, _⟩; have HO3 := As.mk (rdA_O ho (by have := HL.out; omega)); have HZ8 := As.mk (HZ7.out.ext he); clear ho he) | (go_at_call 23; refine (eqOpS_t _ _ _ _ _ _ (rdA_O HZ8.out.ox (by have := HL.out; omega)) HO3.out).mono ?_; rintro e w9 ⟨rfl, he⟩; have HZ9 := As.mk (HZ8.out.ext he); clear he))
    clear HO3 HZ7 HZ8
    go_upto_region 14 with (go_at_call 28; refine (markOpS_o _ _ _ l _ _ HZ9.out.ox rfl (by have := HL.out; omega) (by omega) (by omega)).mono ?_; rintro e w10 ⟨rfl, ho, hf⟩; have HY := As.mk (HZ9.out.mx ho hf); clear ho hf)
    clear HZ9
    have HLL := HL.out
    have hz1 : (0 : Int) ≤ 1 + 2 * (l.length : Int) := by omega
    clear HLL
    have a0 := gb_c0 HY.out.b0
    have a1 := gb_c1 HY.out.b0
    have b0 := gb_c0 HY.out.b1
    have b1 := gb_c1 HY.out.b1
    go_upto_region 16 with (first | (go_at_call 55; refine (eqGraph_t _ _ _ _ ns 0 _ (HY.out.v1.rd (by omega)) (HY.out.v0.rd (by omega))).mono ?_; rintro e w11 ⟨rfl, he⟩; have HY10 := As.mk (HY.out.ext he); clear he) | (go_at_call 32; refine (eqIntS_t _ _ _ _ _ _ (rdA_I HY10.out.r1 (by omega)) (rdA_I HY10.out.r0 (by omega))).mono ?_; rintro e w11b ⟨rfl, he⟩; have HY11 := As.mk (HY10.out.ext he); clear he))
    clear a0 a1 b0 b1 HY HY10
    have b0 := gb_c0 HY11.out.b1
    have b1 := gb_c1 HY11.out.b1
    go_upto_region 18 with (go_at_call 56; refine (markGraph_w 0 1 _ HY11.out.v1 s1 HSM.out.k (by omega) (by omega)).mono ?_; rintro e w12 ⟨rfl, ⟨lB', hm⟩, hf⟩; have HU0 := As.mk (HY11.out.m1 hm hf); clear hm hf)
    clear b0 b1 HY11
    obtain ⟨q, hq⟩ : ∃ q, q = endNd 1 ns := ⟨_, rfl⟩
    have hq0 : 0 ≤ q := by
      rw [hq]
      have := endNd_ge ns 1
      omega
    have hq9 : q ≤ 40000000 := by
      have := endNd_le 100000 ns 1 HSM.out.k
      rw [hq]; omega
    rw [← hq]
    have HQ := As.mk hq
    clear hq
    go_upto_region 19 with (go_at_call 33; refine (markIntS_c _ _ _ rs q _ HU0.out.r1 rfl (by omega) (by omega) (by omega)).mono ?_; rintro e w12b ⟨rfl, ho, hf⟩; have HU := As.mk (HU0.out.m2 ho hf); clear ho hf)
    clear HU0
    have HRI : ∀ W lB, Gs2 w W bb g0 g1 lA lB (.slice A1 ns.length c1) (.slice B1 ns.length d1) (.slice R1 rs.length k1) (.slice R2 rs.length k2) ns rs (marksI q rs.length) → RdI W R2 (marksI q rs.length) := fun W lB h => by
      have h1 := h.r1
      have h2 : (marksI q rs.length).length = rs.length := marksI_len _ _
      exact rdA_J h1 (by rw [h2]; omega)
    have HND : ∀ W lB, Gs2 w W bb g0 g1 lA lB (.slice A1 ns.length c1) (.slice B1 ns.length d1) (.slice R1 rs.length k1) (.slice R2 rs.length k2) ns rs (marksI q rs.length) → RdN W B1 (marksNd 1 ns) := fun W lB h => by
      have h1 := h.v1
      exact h1.rd (by rw [marksNd_len]; omega)
    have HRI := As.mk HRI
    have HND := As.mk HND
    have b0 := gb_c0 HU.out.b1
    have b1 := gb_c1 HU.out.b1
    have z3 : 0 ≤ q + (rs.length : Int) := by omega
    go_upto_region 28 with (first | (go_at_call 57; refine (heldGraph_c 0 1 _ (HND.out _ _ HU.out) s1 HSM.out.k (by omega) (by omega)).mono ?_; rw [← HQ.out]; rintro e w13 ⟨rfl, he⟩; have HU12 := As.mk (HU.out.ext he); clear he) | (go_at_call 34; refine (heldIntS_c _ _ _ q _ (HRI.out _ _ HU12.out) (by omega) (by omega) (by omega)).mono ?_; rintro e w13b ⟨rfl, rfl⟩; have HU13 := HU12))
    clear b0 b1 HU HU12
    go_upto_region 29 with (first | (go_at_call 21; refine (toOpS_c _ _ _ _ (HR.out.ext HU13.out.e) HL.out).mono ?_; rintro e w14 ⟨ad4, rfl, ho, he, _⟩; have HO4 := As.mk (rdA_O ho (by have := HL.out; omega)); have HU14 := As.mk (HU13.out.ext he); clear ho he) | (go_at_call 68; refine (ReadMany_k _ _ _ _ HO4.out HS.out.1 HS.out.2.1 HS.out.2.2).mono ?_; rintro e w15 ⟨lC, C1, e1, R3, k3, rfl, hv, hri, -, -, he⟩; have HV15 := As.mk (And.intro hv hri); have HU15 := As.mk (HU14.out.ext he); clear hv hri he))
    clear HU13 HU14 HO4
    have hc : GB (w15.alloc (.cells #[.slice C1 ns.length e1, .int .i64 0] 58)) w15.heap.size (.slice C1 ns.length e1) (.int .i64 0) := al_new w15 _
    have HU16 := As.mk (HU15.out.ext ((Ext.rf _).al (.cells #[.slice C1 ns.length e1, .int .i64 0] 58)))
    have HV16 := As.mk (And.intro (HV15.out.1.ext ((Ext.rf _).al (.cells #[.slice C1 ns.length e1, .int .i64 0] 58))) (HV15.out.2.ext ((Ext.rf _).al (.cells #[.slice C1 ns.length e1, .int .i64 0] 58))))
    generalize w15.alloc (.cells #[.slice C1 ns.length e1, .int .i64 0] 58) = w16 at hc HU16 HV16 ⊢
    generalize w15.heap.size = g2 at hc ⊢
    have HC := As.mk hc
    clear hc HU15 HV15
    have a0 := gb_c0 HU16.out.b0
    have a1 := gb_c1 HU16.out.b0
    have b0 := gb_c0 HC.out
    have b1 := gb_c1 HC.out
    go_upto_region 31 with (first | (go_at_call 55; refine (eqGraph_t _ _ _ _ ns 0 _ (HV16.out.1.rd (by omega)) (HU16.out.v0.rd (by omega))).mono ?_; rintro e w17 ⟨rfl, he⟩; have HU17 := As.mk (HU16.out.ext he); have HV17 := As.mk (HV16.out.2.ext he); clear he) | (go_at_call 32; refine (eqIntS_t _ _ _ _ _ _ (rdA_I HV17.out (by omega)) (rdA_I HU17.out.r0 (by omega))).mono ?_; rintro e w17b ⟨rfl, he⟩; have HU18 := As.mk (HU17.out.ext he); clear he))
    clear a0 a1 b0 b1 HU16 HV16 HC HU17 HV17
    have b0 := gb_c0 HU18.out.b1
    have b1 := gb_c1 HU18.out.b1
    go_wp2_with (first | (go_at_call 57; refine (heldGraph_c 0 1 _ (HND.out _ _ HU18.out) s1 HSM.out.k (by omega) (by omega)).mono ?_; rw [← HQ.out]; rintro e w18 ⟨rfl, he⟩; have HU19 := As.mk (HU18.out.ext he); clear he) | (go_at_call 34; refine (heldIntS_c _ _ _ q _ (HRI.out _ _ HU19.out) (by omega) (by omega) (by omega)).mono ?_; rintro e w18b ⟨rfl, rfl⟩))
    go_ret
    exact ⟨rfl, HU19.out.e⟩
  · have e1 : (if (l.length : Int) ≤ 1048576 then (1048576 : Int) - l.length else -1) = -1 := if_neg hl
    have E1 := As.mk e1
    have HL := As.mk hln
    clear e1 hl hln
    go_enter Try.func17, Try.ntmps17
    go_wp2_with (go_at_call 19; refine (szOpS_c _ _ _ _ _ (by omega) (by omega) (by have := HL.out; omega)).mono ?_; rw [E1.out]; rintro e w1 ⟨rfl, rfl⟩)
    go_ret
    exact ⟨rfl, Ext.rf _⟩
end Go.Proofs.Ytcodbpjaamggeaa.C
