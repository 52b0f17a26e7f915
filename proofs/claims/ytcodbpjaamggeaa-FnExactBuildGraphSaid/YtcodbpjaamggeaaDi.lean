/- The law FnExactBuildGraph. -/
import Derived.Test.YtcodbpjaamggeaaOb
import Derived.Test.YtcodbpjaamggeaaHe
set_option linter.unusedVariables false
set_option linter.unusedSimpArgs false
namespace Go.Proofs.Ytcodbpjaamggeaa.C
open Go.RowKit Go.Proofs.Ytcodbpjaamggeaa.W Go.Proofs.Ytcodbpjaamggeaa.P

/-- What BuildGraph returns. -/
def bldN (ops : List Opr) : List Nd := if whole ops = true then (runP newM ops).1.nodes else []
def bldR (ops : List Opr) : Int := if whole ops = true then st (runP newM ops).1.stack 0 else 0
/-- Nodes of small size. -/
structure SmN (ns : List Nd) : Prop where
  n : ns.length ≤ 300
  k : ∀ p ∈ ns, p.kids.length ≤ 100000
theorem smN_bld (ops : List Opr) : SmN (bldN ops) := by
  unfold bldN
  cases h : whole ops with
  | true =>
    rw [if_pos rfl]
    simp only [whole, Bool.and_eq_true] at h
    have ho := runP_ok ops 0 newM okM_new (vOps_all h.1).1
    have hl := (vOps_all h.1).2
    exact ⟨ho.nl, fun p hp => by have := (ho.ki p hp).1; omega⟩
  | false => exact ⟨by simp, by simp⟩
theorem sBuildGraph_k (A : Option Addr) (c : Nat) (ops : List Opr) (w : World) (hr : RdO w A ops) {ns : List Nd} {r : Int} {b : Bool} (h1 : bldN ops = ns) (h2 : bldR ops = r) (h3 : whole ops = b) : Calls Try.prog 53 #[.slice A ops.length c] w (GrB ns r b w) := by
  subst h1 h2 h3
  unfold bldN bldR
  cases hw : whole ops with
  | true => exact sBuildGraph_y A c ops w hr hw
  | false => exact (sBuildGraph_n A c ops w hr hw).mono (fun e w' ⟨he, hx⟩ => ⟨[], none, 0, he, NW.nil _ _, hx⟩)
theorem MV.nw {b w l vN vS vM m} (h : MV b w l vN vS vM m) : NW (b ≤ ·) w l vN m.nodes :=
  ⟨h.nr, h.ns, fun k hk => by
    rcases hk with e | ⟨p, hp, e⟩
    · exact h.loN k e
    · exact h.loK p hp k e, h.kk⟩
theorem BuildGraph_k (A : Option Addr) (c : Nat) (ops : List Opr) (w : World) (hr : RdO w A ops) {ns : List Nd} {r : Int} {b : Bool} (h1 : bldN ops = ns) (h2 : bldR ops = r) (h3 : whole ops = b) : Calls Try.prog 54 #[.slice A ops.length c] w (GrB ns r b w) := by
  subst h1 h2 h3
  unfold bldN bldR
  cases hw : whole ops with
  | true =>
    refine (BuildGraph_y A c ops w hr hw).mono (fun e w' ⟨l, vN, vS, vM, he, hv, hok, hx⟩ => ?_)
    have hn := hv.nw
    obtain ⟨A', c', hvn, _, _⟩ := own_form hn.nr.1
    have hl : l.length = (runP newM ops).1.nodes.length := by rw [← hn.ns, List.length_map]
    rw [hl] at hvn
    rw [hvn] at he hn
    exact ⟨l, A', c', he, hn, hx⟩
  | false => exact (BuildGraph_n A c ops w hr hw).mono (fun e w' ⟨he, hx⟩ => ⟨[], none, 0, he, NW.nil _ _, hx⟩)
/-- Both results in their variables, and the copy that was handed in. -/
structure Gr3 (w W : World) (b g0 g1 : Nat) (lA lB : List (Nd × Value)) (aN bN x : Value) (ns : List Nd) (r : Int) (l : List Opr) : Prop where
  e : Ext w W
  b0 : GB W g0 aN (.int .i64 r)
  b1 : GB W g1 bN (.int .i64 r)
  v0 : NW (fun _ => True) W lA aN ns
  v1 : NW (fun k => b ≤ k ∧ k ≠ g1) W lB bN ns
  ox : OR W x l
  a0 : ∀ k, FG aN lA k → k < b ∧ ¬ x.ownBlock = some k
  x1 : ∀ k, x.ownBlock = some k → k < b
  gb : g0 < b
  fx : Fresh x w
  wb : w.heap.size ≤ b
theorem Gr3.ext {w W W' b g0 g1 lA lB aN bN x ns r l} (h : Gr3 w W b g0 g1 lA lB aN bN x ns r l) (e : Ext W W') : Gr3 w W' b g0 g1 lA lB aN bN x ns r l :=
  ⟨h.e.trans e, e.blk h.b0, e.blk h.b1, h.v0.ext e, h.v1.ext e, h.ox.ext e, h.a0, h.x1, h.gb, h.fx, h.wb⟩
theorem Gr3.mx {w W W' b g0 g1 lA lB aN bN x ns r l l'} (h : Gr3 w W b g0 g1 lA lB aN bN x ns r l) (ho : OR W' x l') (hf : Fr (fun k => x.ownBlock = some k) W W') : Gr3 w W' b g0 g1 lA lB aN bN x ns r l' :=
  ⟨fr_ext h.e hf h.fx, hf.blk h.b0 (fun e => own_ne_blk h.ox h.b0 (by decide) e), hf.blk h.b1 (fun e => own_ne_blk h.ox h.b1 (by decide) e), h.v0.fr hf (fun k hk => (h.a0 k hk).2), h.v1.fr hf (fun k hk e => by have h2 := (h.v1.lo k hk).1; have h3 := h.x1 k e; omega), ho, h.a0, h.x1, h.gb, h.fx, h.wb⟩
/-- The result holds its marks. -/
structure Gr2 (w W : World) (g0 g1 : Nat) (lA : List (Nd × Value)) (aN bN : Value) (B1 : Option Addr) (ns : List Nd) (r : Int) : Prop where
  e : Ext w W
  b0 : GB W g0 aN (.int .i64 r)
  b1 : GB W g1 bN (.int .i64 r)
  v0 : NW (fun _ => True) W lA aN ns
  m1 : RdN W B1 (marksNd 1 ns)
theorem Gr2.ext {w W W' g0 g1 lA aN bN B1 ns r} (h : Gr2 w W g0 g1 lA aN bN B1 ns r) (e : Ext W W') : Gr2 w W' g0 g1 lA aN bN B1 ns r :=
  ⟨h.e.trans e, e.blk h.b0, e.blk h.b1, h.v0.ext e, h.m1.ext e⟩
theorem Gr3.m1 {w W W' b g0 g1 lA lB aN bN x ns r l B1} (h : Gr3 w W b g0 g1 lA lB aN bN x ns r l) (hm : RdN W' B1 (marksNd 1 ns)) (hf : Fr (fun k => b ≤ k ∧ k ≠ g1) W W') : Gr2 w W' g0 g1 lA aN bN B1 ns r :=
  ⟨(Fr.then (S := fun _ => False) (Fr.ofExt h.e) hf (fun k hk => .inr (Nat.le_trans h.wb hk.1))).ext (fun _ h => h.elim), hf.blk h.b0 (fun e => by have := h.gb; omega), hf.blk h.b1 (fun e => e.2 rfl), h.v0.fr hf (fun k hk e => by have := (h.a0 k hk).1; omega), hm⟩
set_option maxRecDepth 100000 in
set_option maxHeartbeats 4000000 in
theorem FnExactBuildGraph_c (A : Option Addr) (c : Nat) (l : List Opr) (w : World) (hg : GivenO w A l) :
    Calls Try.prog 13 #[.slice A l.length c] w fun e w' => e = .returned (.bool true) ∧ Ext w w' := by
  have hln := hg.1
  have HG := As.mk hg
  clear hg
  by_cases hl : (l.length : Int) ≤ 1048576
  · obtain ⟨lf, hlf⟩ : ∃ lf, lf = (1048576 : Int) - l.length := ⟨_, rfl⟩
    have e1 : (if (l.length : Int) ≤ 1048576 then (1048576 : Int) - l.length else -1) = lf := by rw [hlf]; exact if_pos hl
    have h2 : 0 ≤ lf := by omega
    have E1 := As.mk e1
    have HR := As.mk (HG.out.rd (by omega))
    have HL := As.mk (show l.length ≤ 1048576 by omega)
    clear e1 hlf hl hln
    go_enter Try.func13, Try.ntmps13
    go_upto_region 3 with (go_at_call 19; refine (szOpS_c _ _ _ _ _ (by omega) (by omega) (by have := HL.out; omega)).mono ?_; rw [E1.out]; rintro e w1 ⟨rfl, rfl⟩)
    obtain ⟨ns, hns⟩ : ∃ ns, bldN l = ns := ⟨_, rfl⟩
    obtain ⟨r, hrr⟩ : ∃ r, bldR l = r := ⟨_, rfl⟩
    obtain ⟨b, hbb⟩ : ∃ b, whole l = b := ⟨_, rfl⟩
    have HSM : As (SmN ns) := ⟨by have := smN_bld l; rw [hns] at this; exact this⟩
    have HS := As.mk (And.intro hns (And.intro hrr hbb))
    have s1 := HSM.out.n
    clear hns hrr hbb
    go_upto_region 6 with (first | (go_at_call 21; refine (toOpS_c _ _ _ _ HR.out HL.out).mono ?_; rintro e w1 ⟨ad1, rfl, ho, he, _⟩; have HO1 := As.mk (rdA_O ho (by have := HL.out; omega)); have HE1 := As.mk he; clear ho he) | (go_at_call 53; refine (sBuildGraph_k _ _ _ _ HO1.out HS.out.1 HS.out.2.1 HS.out.2.2).mono ?_; rintro e w2 ⟨lA, A1, c1, rfl, hv, he⟩; have HE2 := As.mk (HE1.out.trans he); have HV0 := As.mk (hv.base (B' := fun _ => True) (fun _ _ _ => trivial)); clear he hv))
    clear HO1 HE1
    have hb : GB (w2.alloc (.cells #[.slice A1 ns.length c1, .int .i64 r] 58)) w2.heap.size (.slice A1 ns.length c1) (.int .i64 r) := al_new w2 _
    have HX3 := As.mk (HE2.out.al (.cells #[.slice A1 ns.length c1, .int .i64 r] 58))
    have HV3 := As.mk (HV0.out.ext ((Ext.rf _).al (.cells #[.slice A1 ns.length c1, .int .i64 r] 58)))
    generalize w2.alloc (.cells #[.slice A1 ns.length c1, .int .i64 r] 58) = w3 at hb HX3 HV3 ⊢
    generalize w2.heap.size = g0 at hb ⊢
    have HB0 := As.mk hb
    clear hb HV0 HE2
    go_upto_region 7 with (go_at_call 21; refine (toOpS_c _ _ _ _ (HR.out.ext HX3.out) HL.out).mono ?_; rintro e w4 ⟨ad2, rfl, ho, he, hb⟩; have HO2 := As.mk ho; have HFX := As.mk (fresh_le (or_fresh ho hb) HX3.out); have HA0 : As (∀ k, FG (.slice A1 ns.length c1) lA k → k < w4.heap.size ∧ ¬ (Value.slice (some ad2) l.length l.length).ownBlock = some k) := ⟨fun k hk => ⟨Nat.lt_of_lt_of_le (HV3.out.lt k hk) he.size, fun e => by have h1 := HV3.out.lt k hk; have h2 := or_fresh ho hb k e; omega⟩⟩; have HV4 := As.mk (HV3.out.ext he); have HB4 := As.mk (he.blk HB0.out); have HE4 := As.mk (HX3.out.trans he); clear ho he hb)
    clear HV3 HX3 HB0
    go_upto_region 8 with (go_at_call 54; refine (BuildGraph_k _ _ _ _ (rdA_O HO2.out (by have := HL.out; omega)) HS.out.1 HS.out.2.1 HS.out.2.2).mono ?_; rintro e w5 ⟨lB, B1, d1, rfl, hv, he⟩; have HV5 := As.mk hv; have HE5 := As.mk he; clear hv he)
    have hz : Gr3 w (w5.alloc (.cells #[.slice B1 ns.length d1, .int .i64 r] 58)) w4.heap.size g0 w5.heap.size lA lB (.slice A1 ns.length c1) (.slice B1 ns.length d1) (.slice (some ad2) l.length l.length) ns r l :=
      ⟨(HE4.out.trans HE5.out).al _, ((Ext.rf _).al _).blk (HE5.out.blk HB4.out), al_new _ _, (HV4.out.ext HE5.out).ext ((Ext.rf _).al _), HV5.out.al1 _, (HO2.out.ext HE5.out).ext ((Ext.rf _).al _), HA0.out,
        fun k hk => or_lt HO2.out k hk, (Array.getElem?_eq_some_iff.1 HB4.out).1, HFX.out, HE4.out.size⟩
    have HZ := As.mk hz
    clear hz HO2 HFX HA0 HV4 HB4 HE4 HV5 HE5
    generalize w5.alloc (.cells #[.slice B1 ns.length d1, .int .i64 r] 58) = w6 at HZ ⊢
    generalize w5.heap.size = g1 at HZ ⊢
    generalize w4.heap.size = bb at HZ
    have a0 := gb_c0 HZ.out.b0
    have a1 := gb_c1 HZ.out.b0
    have b0 := gb_c0 HZ.out.b1
    have b1 := gb_c1 HZ.out.b1
    go_upto_region 10 with (go_at_call 55; refine (eqGraph_t _ _ _ _ ns r _ (HZ.out.v1.rd (by omega)) (HZ.out.v0.rd (by omega))).mono ?_; rintro e w7 ⟨rfl, he⟩; have HZ7 := As.mk (HZ.out.ext he); clear he)
    clear a0 a1 b0 b1 HZ
    go_upto_region 12 with (first | (go_at_call 21; refine (toOpS_c _ _ _ _ (HR.out.ext HZ7.out.e) HL.out).mono ?_; rintro e w8 ⟨ad3, rfl, ho, he, _⟩; have HO3 := As.mk (rdA_O ho (by have := HL.out; omega)); have HZ8 := As.mk (HZ7.out.ext he); clear ho he) | (go_at_call 23; refine (eqOpS_t _ _ _ _ _ _ (rdA_O HZ8.out.ox (by have := HL.out; omega)) HO3.out).mono ?_; rintro e w9 ⟨rfl, he⟩; have HZ9 := As.mk (HZ8.out.ext he); clear he))
    clear HO3 HZ7 HZ8
    go_upto_region 14 with (go_at_call 28; refine (markOpS_o _ _ _ l _ _ HZ9.out.ox rfl (by have := HL.out; omega) (by omega) (by omega)).mono ?_; rintro e w10 ⟨rfl, ho, hf⟩; have HY := As.mk (HZ9.out.mx ho hf); clear ho hf)
    clear HZ9
    have HLL := HL.out
    have hz1 : (0 : Int) ≤ 1 + 2 * (l.length : Int) := by omega
    clear HLL
    have a0 := gb_c0 HY.out.b0
    have a1 := gb_c1 HY.out.b0
    have b0 := gb_c0 HY.out.b1
    have b1 := gb_c1 HY.out.b1
    go_upto_region 16 with (go_at_call 55; refine (eqGraph_t _ _ _ _ ns r _ (HY.out.v1.rd (by omega)) (HY.out.v0.rd (by omega))).mono ?_; rintro e w11 ⟨rfl, he⟩; have HY11 := As.mk (HY.out.ext he); clear he)
    clear a0 a1 b0 b1 HY
    have b0 := gb_c0 HY11.out.b1
    have b1 := gb_c1 HY11.out.b1
    go_upto_region 18 with (go_at_call 56; refine (markGraph_m r 1 _ HY11.out.v1 s1 HSM.out.k (by omega) (by omega)).mono ?_; rintro e w12 ⟨rfl, hm, hf⟩; have HU := As.mk (HY11.out.m1 hm hf); clear hm hf)
    clear b0 b1
    obtain ⟨q, hq⟩ : ∃ q, q = endNd 1 ns := ⟨_, rfl⟩
    have hq0 : 0 ≤ q := by
      rw [hq]
      have := endNd_ge ns 1
      omega
    rw [← hq]
    have HQ := As.mk hq
    clear hq
    have b0 := gb_c0 HU.out.b1
    have b1 := gb_c1 HU.out.b1
    go_upto_region 24 with (go_at_call 57; refine (heldGraph_c r 1 _ HU.out.m1 s1 HSM.out.k (by omega) (by omega)).mono ?_; rw [← HQ.out]; rintro e w13 ⟨rfl, he⟩; have HU13 := As.mk (HU.out.ext he); clear he)
    clear b0 b1 HU
    go_upto_region 25 with (first | (go_at_call 21; refine (toOpS_c _ _ _ _ (HR.out.ext HU13.out.e) HL.out).mono ?_; rintro e w14 ⟨ad4, rfl, ho, he, _⟩; have HO4 := As.mk (rdA_O ho (by have := HL.out; omega)); have HU14 := As.mk (HU13.out.ext he); clear ho he) | (go_at_call 54; refine (BuildGraph_k _ _ _ _ HO4.out HS.out.1 HS.out.2.1 HS.out.2.2).mono ?_; rintro e w15 ⟨lC, C1, e1, rfl, hv, he⟩; have HV15 := As.mk hv; have HU15 := As.mk (HU14.out.ext he); clear hv he))
    clear HU13 HU14 HO4
    have hc : GB (w15.alloc (.cells #[.slice C1 ns.length e1, .int .i64 r] 58)) w15.heap.size (.slice C1 ns.length e1) (.int .i64 r) := al_new w15 _
    have HU16 := As.mk (HU15.out.ext ((Ext.rf _).al (.cells #[.slice C1 ns.length e1, .int .i64 r] 58)))
    have HV16 := As.mk (HV15.out.ext ((Ext.rf _).al (.cells #[.slice C1 ns.length e1, .int .i64 r] 58)))
    generalize w15.alloc (.cells #[.slice C1 ns.length e1, .int .i64 r] 58) = w16 at hc HU16 HV16 ⊢
    generalize w15.heap.size = g2 at hc ⊢
    have HC := As.mk hc
    clear hc HU15 HV15
    have a0 := gb_c0 HU16.out.b0
    have a1 := gb_c1 HU16.out.b0
    have b0 := gb_c0 HC.out
    have b1 := gb_c1 HC.out
    go_upto_region 27 with (go_at_call 55; refine (eqGraph_t _ _ _ _ ns r _ (HV16.out.rd (by omega)) (HU16.out.v0.rd (by omega))).mono ?_; rintro e w17 ⟨rfl, he⟩; have HU17 := As.mk (HU16.out.ext he); clear he)
    clear a0 a1 b0 b1 HU16 HV16 HC
    have b0 := gb_c0 HU17.out.b1
    have b1 := gb_c1 HU17.out.b1
    go_wp2_with (go_at_call 57; refine (heldGraph_c r 1 _ HU17.out.m1 s1 HSM.out.k (by omega) (by omega)).mono ?_; rw [← HQ.out]; rintro e w18 ⟨rfl, he⟩; have HU18 := As.mk (HU17.out.ext he); clear he)
    go_ret
    exact ⟨rfl, HU18.out.e⟩
  · have e1 : (if (l.length : Int) ≤ 1048576 then (1048576 : Int) - l.length else -1) = -1 := if_neg hl
    have E1 := As.mk e1
    have HL := As.mk hln
    clear e1 hl hln
    go_enter Try.func13, Try.ntmps13
    go_wp2_with (go_at_call 19; refine (szOpS_c _ _ _ _ _ (by omega) (by omega) (by have := HL.out; omega)).mono ?_; rw [E1.out]; rintro e w1 ⟨rfl, rfl⟩)
    go_ret
    exact ⟨rfl, Ext.rf _⟩
end Go.Proofs.Ytcodbpjaamggeaa.C
