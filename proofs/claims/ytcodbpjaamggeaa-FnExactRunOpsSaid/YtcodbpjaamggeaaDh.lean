/- The law FnExactRunOps. -/
import Derived.Test.YtcodbpjaamggeaaNc
import Derived.Test.YtcodbpjaamggeaaHe
import Derived.Test.YtcodbpjaamggeaaDa
set_option linter.unusedVariables false
set_option linter.unusedSimpArgs false
namespace Go.Proofs.Ytcodbpjaamggeaa.P
theorem runP_ok : ∀ (l : List Opr) (B : Nat) (s : Mc), okM B s → l.all okO = true → okM (B + 301 * l.length) (runP s l).1
  | [], B, s, h, _ => h
  | o :: r, B, s, h, ho => by
    simp only [List.all_cons, Bool.and_eq_true] at ho
    simp only [runP]
    cases hs : stepP s o with
    | none => exact h.mono (Nat.le_add_right _ _)
    | some s' => exact (runP_ok r _ s' (okM_step h ho.1 hs) ho.2).mono (by simp only [List.length_cons]; omega)
end Go.Proofs.Ytcodbpjaamggeaa.P
namespace Go.Proofs.Ytcodbpjaamggeaa.C
open Go.RowKit Go.Proofs.Ytcodbpjaamggeaa.W Go.Proofs.Ytcodbpjaamggeaa.P

/-- A machine of small size. -/
structure SmM (m : Mc) : Prop where
  n : m.nodes.length ≤ 300
  s : m.stack.length ≤ 300
  e : m.memo.length ≤ 300
  k : ∀ p ∈ m.nodes, p.kids.length ≤ 100000
theorem smM_of (ops : List Opr) : SmM (runR ops).1 := by
  cases h : vOps ops with
  | true =>
    rw [runR_y h]
    have ho := runP_ok ops 0 newM okM_new (vOps_all h).1
    have hl := (vOps_all h).2
    exact ⟨ho.nl, ho.sl, by have := ho.ml; show (runP newM ops).1.memo.length ≤ 300; omega, fun p hp => by have := (ho.ki p hp).1; omega⟩
  | false => rw [runR_n h]; exact ⟨by simp, by simp, by simp, by simp⟩
def RunW (m : Mc) (n : Int) (w : World) (e : Ending) (w' : World) : Prop := ∃ l AN cN AS cS AM cM, e = .returned (.tuple #[.agg #[.slice AN m.nodes.length cN, .slice AS m.stack.length cS, .slice AM m.memo.length cM, .bool m.done], .int .i64 n]) ∧ MW (w.heap.size ≤ ·) w' l (.slice AN m.nodes.length cN) (.slice AS m.stack.length cS) (.slice AM m.memo.length cM) m ∧ Ext w w'
theorem sRunOps_k (A : Option Addr) (c : Nat) (ops : List Opr) (w : World) (hr : RdO w A ops) {m : Mc} {n : Int} (h : runR ops = (m, n)) : Calls Try.prog 58 #[.slice A ops.length c] w (RunW m n w) := by
  have : Calls Try.prog 58 #[.slice A ops.length c] w (RunV (runR ops) w) := by
    cases hv : vOps ops with
    | true => exact sRunOps_y A c ops w hr hv
    | false => exact sRunOps_n A c ops w hr hv
  rw [h] at this
  exact this
theorem RunOps_k (A : Option Addr) (c : Nat) (ops : List Opr) (w : World) (hr : RdO w A ops) {m : Mc} {n : Int} (h : runR ops = (m, n)) : Calls Try.prog 59 #[.slice A ops.length c] w (RunW m n w) := by
  have : Calls Try.prog 59 #[.slice A ops.length c] w (RunV (runR ops) w) := by
    cases hv : vOps ops with
    | true => exact RunOps_y A c ops w hr hv
    | false => exact RunOps_n A c ops w hr hv
  rw [h] at this
  exact this
theorem MW.rdM {B w l AN AS AM cN cS cM} {m : Mc} (h : MW B w l (.slice AN m.nodes.length cN) (.slice AS m.stack.length cS) (.slice AM m.memo.length cM) m) (hm : SmM m) : RM w AN AS AM m := by
  obtain ⟨A', c', A2, c2, A3, c3, e1, e2, e3, hr, _⟩ := h.rm (by have := hm.n; omega) (by have := hm.s; omega) (by have := hm.e; omega)
  injection e1 with e1
  injection e2 with e2
  injection e3 with e3
  rw [e1, e2, e3]
  exact hr
def FT (aN aS aM : Value) (lA : List (Nd × Value)) (k : Nat) : Prop := aN.ownBlock = some k ∨ aS.ownBlock = some k ∨ aM.ownBlock = some k ∨ ∃ p ∈ lA, p.2.ownBlock = some k
/-- Both results in their variables, and the copy that was handed in. -/
structure Ru3 (w W : World) (b g0 g1 : Nat) (lA lB : List (Nd × Value)) (aN aS aM bN bS bM x : Value) (m : Mc) (l : List Opr) : Prop where
  e : Ext w W
  b0 : MB W g0 aN aS aM m.done
  b1 : MB W g1 bN bS bM m.done
  v0 : MW (fun _ => True) W lA aN aS aM m
  v1 : MW (fun k => b ≤ k ∧ k ≠ g1) W lB bN bS bM m
  ox : OR W x l
  a0 : ∀ k, FT aN aS aM lA k → k < b ∧ ¬ x.ownBlock = some k
  x1 : ∀ k, x.ownBlock = some k → k < b
  gb : g0 < b
  fx : Fresh x w
  wb : w.heap.size ≤ b
theorem Ru3.ext {w W W' b g0 g1 lA lB aN aS aM bN bS bM x m l} (h : Ru3 w W b g0 g1 lA lB aN aS aM bN bS bM x m l) (e : Ext W W') : Ru3 w W' b g0 g1 lA lB aN aS aM bN bS bM x m l :=
  ⟨h.e.trans e, e.blk h.b0, e.blk h.b1, h.v0.ext e, h.v1.ext e, h.ox.ext e, h.a0, h.x1, h.gb, h.fx, h.wb⟩
theorem Ru3.mx {w W W' b g0 g1 lA lB aN aS aM bN bS bM x m l l'} (h : Ru3 w W b g0 g1 lA lB aN aS aM bN bS bM x m l) (ho : OR W' x l') (hf : Fr (fun k => x.ownBlock = some k) W W') : Ru3 w W' b g0 g1 lA lB aN aS aM bN bS bM x m l' :=
  ⟨fr_ext h.e hf h.fx, hf.blk h.b0 (fun e => own_ne_blk h.ox h.b0 (by decide) e), hf.blk h.b1 (fun e => own_ne_blk h.ox h.b1 (by decide) e), h.v0.keep hf.size (fun k hk => hf.block k (h.v0.lt k hk) (h.a0 k hk).2), h.v1.keep hf.size (fun k hk => hf.block k (h.v1.lt k hk) (fun e => by have h2 := (h.v1.lo k hk).1; have h3 := h.x1 k e; omega)), ho, h.a0, h.x1, h.gb, h.fx, h.wb⟩
/-- The result holds its marks. -/
structure Ru2 (w W : World) (g0 g1 : Nat) (lA : List (Nd × Value)) (aN aS aM bN bS bM : Value) (B1 B2 B3 : Option Addr) (m : Mc) : Prop where
  e : Ext w W
  b0 : MB W g0 aN aS aM m.done
  b1 : MB W g1 bN bS bM m.done
  v0 : MW (fun _ => True) W lA aN aS aM m
  m1 : MKM W B1 B2 B3 m 1
theorem Ru2.ext {w W W' g0 g1 lA aN aS aM bN bS bM B1 B2 B3 m} (h : Ru2 w W g0 g1 lA aN aS aM bN bS bM B1 B2 B3 m) (e : Ext W W') : Ru2 w W' g0 g1 lA aN aS aM bN bS bM B1 B2 B3 m :=
  ⟨h.e.trans e, e.blk h.b0, e.blk h.b1, h.v0.ext e, ⟨h.m1.n.ext e, h.m1.s.ext e, h.m1.e.ext e⟩⟩
theorem Ru3.m1 {w W W' b g0 g1 lA lB aN aS aM bN bS bM x m l B1 B2 B3} (h : Ru3 w W b g0 g1 lA lB aN aS aM bN bS bM x m l) (hm : MKM W' B1 B2 B3 m 1) (hf : Fr (fun k => b ≤ k ∧ k ≠ g1) W W') : Ru2 w W' g0 g1 lA aN aS aM bN bS bM B1 B2 B3 m :=
  ⟨(Fr.then (S := fun _ => False) (Fr.ofExt h.e) hf (fun k hk => .inr (Nat.le_trans h.wb hk.1))).ext (fun _ h => h.elim), hf.blk h.b0 (fun e => by have := h.gb; omega), hf.blk h.b1 (fun e => e.2 rfl), h.v0.keep hf.size (fun k hk => hf.block k (h.v0.lt k hk) (fun e => by have := (h.a0 k hk).1; omega)), hm⟩
set_option maxRecDepth 100000 in
set_option maxHeartbeats 4000000 in
theorem FnExactRunOps_c (A : Option Addr) (c : Nat) (l : List Opr) (w : World) (hg : GivenO w A l) :
    Calls Try.prog 14 #[.slice A l.length c] w fun e w' => e = .returned (.bool true) ∧ Ext w w' := by
  have hln := hg.1
  have HG := As.mk hg
  clear hg
  by_cases hl : (l.length : Int) ≤ 1048576
  · obtain ⟨lf, hlf⟩ : ∃ lf, lf = (1048576 : Int) - l.length := ⟨_, rfl⟩
    have e1 : (if (l.length : Int) ≤ 1048576 then (1048576 : Int) - l.length else -1) = lf := by rw [hlf]; exact if_pos hl
    have h2 : 0 ≤ lf := by omega
    have E1 := As.mk e1
    have HR := As.mk (HG.out.rd (by omega))
    have HL := As.mk (show l.length ≤ 1048576 by omega)
    clear e1 hlf hl hln
    go_enter Try.func14, Try.ntmps14
    go_upto_region 3 with (go_at_call 19; refine (szOpS_c _ _ _ _ _ (by omega) (by omega) (by have := HL.out; omega)).mono ?_; rw [E1.out]; rintro e w1 ⟨rfl, rfl⟩)
    obtain ⟨m, n, hs⟩ : ∃ m n, runR l = (m, n) := ⟨_, _, rfl⟩
    have HSM : As (SmM m) := ⟨by have := smM_of l; rw [hs] at this; exact this⟩
    have HS := As.mk hs
    have s1 := HSM.out.n
    have s2 := HSM.out.s
    have s3 := HSM.out.e
    clear hs
    go_upto_region 6 with (first | (go_at_call 21; refine (toOpS_c _ _ _ _ HR.out HL.out).mono ?_; rintro e w1 ⟨ad1, rfl, ho, he, _⟩; have HO1 := As.mk (rdA_O ho (by have := HL.out; omega)); have HE1 := As.mk he; clear ho he) | (go_at_call 58; refine (sRunOps_k _ _ _ _ HO1.out HS.out).mono ?_; rintro e w2 ⟨lA, A1, c1, A2, c2, A3, c3, rfl, hv, he⟩; have HE2 := As.mk (HE1.out.trans he); have HV0 := As.mk (hv.base (B' := fun _ => True) (fun _ _ _ => trivial) (fun _ _ => trivial)); clear he hv))
    clear HO1 HE1
    have hb : MB _ _ (.slice A1 m.nodes.length c1) (.slice A2 m.stack.length c2) (.slice A3 m.memo.length c3) m.done := al_new w2 (.cells #[.slice A1 m.nodes.length c1, .slice A2 m.stack.length c2, .slice A3 m.memo.length c3, .bool m.done] 64)
    have HX3 := As.mk (HE2.out.al (.cells #[.slice A1 m.nodes.length c1, .slice A2 m.stack.length c2, .slice A3 m.memo.length c3, .bool m.done] 64))
    have HV3 := As.mk (HV0.out.ext ((Ext.rf _).al (.cells #[.slice A1 m.nodes.length c1, .slice A2 m.stack.length c2, .slice A3 m.memo.length c3, .bool m.done] 64)))
    generalize w2.alloc (.cells #[.slice A1 m.nodes.length c1, .slice A2 m.stack.length c2, .slice A3 m.memo.length c3, .bool m.done] 64) = w3 at hb HX3 HV3 ⊢
    generalize w2.heap.size = g0 at hb ⊢
    have HB0 := As.mk hb
    clear hb HV0 HE2
    go_upto_region 7 with (go_at_call 21; refine (toOpS_c _ _ _ _ (HR.out.ext HX3.out) HL.out).mono ?_; rintro e w4 ⟨ad2, rfl, ho, he, hb⟩; have HO2 := As.mk ho; have HFX := As.mk (fresh_le (or_fresh ho hb) HX3.out); have HA0 : As (∀ k, FT (.slice A1 m.nodes.length c1) (.slice A2 m.stack.length c2) (.slice A3 m.memo.length c3) lA k → k < w4.heap.size ∧ ¬ (Value.slice (some ad2) l.length l.length).ownBlock = some k) := ⟨fun k hk => ⟨Nat.lt_of_lt_of_le (HV3.out.lt k hk) he.size, fun e => by have h1 := HV3.out.lt k hk; have h2 := or_fresh ho hb k e; omega⟩⟩; have HV4 := As.mk (HV3.out.ext he); have HB4 := As.mk (he.blk HB0.out); have HE4 := As.mk (HX3.out.trans he); clear ho he hb)
    clear HV3 HX3 HB0
    go_upto_region 8 with (go_at_call 59; refine (RunOps_k _ _ _ _ (rdA_O HO2.out (by have := HL.out; omega)) HS.out).mono ?_; rintro e w5 ⟨lB, B1, d1, B2, d2, B3, d3, rfl, hv, he⟩; have HV5 := As.mk hv; have HE5 := As.mk he; clear hv he)
    have hz : Ru3 w (w5.alloc (.cells #[.slice B1 m.nodes.length d1, .slice B2 m.stack.length d2, .slice B3 m.memo.length d3, .bool m.done] 64)) w4.heap.size g0 w5.heap.size lA lB (.slice A1 m.nodes.length c1) (.slice A2 m.stack.length c2) (.slice A3 m.memo.length c3) (.slice B1 m.nodes.length d1) (.slice B2 m.stack.length d2) (.slice B3 m.memo.length d3) (.slice (some ad2) l.length l.length) m l :=
      ⟨(HE4.out.trans HE5.out).al _, ((Ext.rf _).al _).blk (HE5.out.blk HB4.out), al_new _ _, (HV4.out.ext HE5.out).ext ((Ext.rf _).al _), HV5.out.al1 _, (HO2.out.ext HE5.out).ext ((Ext.rf _).al _), HA0.out,
        fun k hk => or_lt HO2.out k hk, (Array.getElem?_eq_some_iff.1 HB4.out).1, HFX.out, HE4.out.size⟩
    have HZ := As.mk hz
    clear hz HO2 HFX HA0 HV4 HB4 HE4 HV5 HE5
    generalize w5.alloc (.cells #[.slice B1 m.nodes.length d1, .slice B2 m.stack.length d2, .slice B3 m.memo.length d3, .bool m.done] 64) = w6 at HZ ⊢
    generalize w5.heap.size = g1 at HZ ⊢
    generalize w4.heap.size = bb at HZ
    have a0 := MB.c0 HZ.out.b0
    have a1 := MB.c1 HZ.out.b0
    have a2 := MB.c2 HZ.out.b0
    have a3 := MB.c3 HZ.out.b0
    have b0 := MB.c0 HZ.out.b1
    have b1 := MB.c1 HZ.out.b1
    have b2 := MB.c2 HZ.out.b1
    have b3 := MB.c3 HZ.out.b1
    go_upto_region 10 with (go_at_call 60; refine (eqMachine_t _ _ _ _ _ _ _ _ _ _ _ _ m _ (HZ.out.v1.rdM HSM.out) (HZ.out.v0.rdM HSM.out)).mono ?_; rintro e w7 ⟨rfl, he⟩; have HZ7 := As.mk (HZ.out.ext he); clear he)
    clear a0 a1 a2 a3 b0 b1 b2 b3 HZ
    go_upto_region 12 with (first | (go_at_call 21; refine (toOpS_c _ _ _ _ (HR.out.ext HZ7.out.e) HL.out).mono ?_; rintro e w8 ⟨ad3, rfl, ho, he, _⟩; have HO3 := As.mk (rdA_O ho (by have := HL.out; omega)); have HZ8 := As.mk (HZ7.out.ext he); clear ho he) | (go_at_call 23; refine (eqOpS_t _ _ _ _ _ _ (rdA_O HZ8.out.ox (by have := HL.out; omega)) HO3.out).mono ?_; rintro e w9 ⟨rfl, he⟩; have HZ9 := As.mk (HZ8.out.ext he); clear he))
    clear HO3 HZ7 HZ8
    go_upto_region 14 with (go_at_call 28; refine (markOpS_o _ _ _ l _ _ HZ9.out.ox rfl (by have := HL.out; omega) (by omega) (by omega)).mono ?_; rintro e w10 ⟨rfl, ho, hf⟩; have HY := As.mk (HZ9.out.mx ho hf); clear ho hf)
    clear HZ9
    have HLL := HL.out
    have hz1 : (0 : Int) ≤ 1 + 2 * (l.length : Int) := by omega
    clear HLL
    have a0 := MB.c0 HY.out.b0
    have a1 := MB.c1 HY.out.b0
    have a2 := MB.c2 HY.out.b0
    have a3 := MB.c3 HY.out.b0
    have b0 := MB.c0 HY.out.b1
    have b1 := MB.c1 HY.out.b1
    have b2 := MB.c2 HY.out.b1
    have b3 := MB.c3 HY.out.b1
    go_upto_region 16 with (go_at_call 60; refine (eqMachine_t _ _ _ _ _ _ _ _ _ _ _ _ m _ (HY.out.v1.rdM HSM.out) (HY.out.v0.rdM HSM.out)).mono ?_; rintro e w11 ⟨rfl, he⟩; have HY11 := As.mk (HY.out.ext he); clear he)
    clear a0 a1 a2 a3 b0 b1 b2 b3 HY
    have b0 := MB.c0 HY11.out.b1
    have b1 := MB.c1 HY11.out.b1
    have b2 := MB.c2 HY11.out.b1
    have b3 := MB.c3 HY11.out.b1
    go_upto_region 18 with (go_at_call 61; refine (markMachine_m 1 _ HY11.out.v1 s1 s2 s3 HSM.out.k (by omega) (by omega)).mono ?_; rintro e w12 ⟨rfl, hm, hf⟩; have HU := As.mk (HY11.out.m1 hm hf); clear hm hf)
    clear b0 b1 b2 b3
    obtain ⟨q, hq⟩ : ∃ q, q = endM 1 m := ⟨_, rfl⟩
    have hq0 : 0 ≤ q := by
      rw [hq]; unfold endM
      have := endNd_ge m.nodes 1
      omega
    rw [← hq]
    have HQ := As.mk hq
    clear hq
    have b0 := MB.c0 HU.out.b1
    have b1 := MB.c1 HU.out.b1
    have b2 := MB.c2 HU.out.b1
    have b3 := MB.c3 HU.out.b1
    go_upto_region 24 with (go_at_call 62; refine (heldMachine_c 1 _ HU.out.m1 s1 s2 s3 HSM.out.k (by omega) (by omega)).mono ?_; rw [← HQ.out]; rintro e w13 ⟨rfl, he⟩; have HU13 := As.mk (HU.out.ext he); clear he)
    clear b0 b1 b2 b3 HU
    go_upto_region 25 with (first | (go_at_call 21; refine (toOpS_c _ _ _ _ (HR.out.ext HU13.out.e) HL.out).mono ?_; rintro e w14 ⟨ad4, rfl, ho, he, _⟩; have HO4 := As.mk (rdA_O ho (by have := HL.out; omega)); have HU14 := As.mk (HU13.out.ext he); clear ho he) | (go_at_call 59; refine (RunOps_k _ _ _ _ HO4.out HS.out).mono ?_; rintro e w15 ⟨lC, C1, e1, C2, e2, C3, e3, rfl, hv, he⟩; have HV15 := As.mk hv; have HU15 := As.mk (HU14.out.ext he); clear hv he))
    clear HU13 HU14 HO4
    have hc : MB _ _ (.slice C1 m.nodes.length e1) (.slice C2 m.stack.length e2) (.slice C3 m.memo.length e3) m.done := al_new w15 (.cells #[.slice C1 m.nodes.length e1, .slice C2 m.stack.length e2, .slice C3 m.memo.length e3, .bool m.done] 64)
    have HU16 := As.mk (HU15.out.ext ((Ext.rf _).al (.cells #[.slice C1 m.nodes.length e1, .slice C2 m.stack.length e2, .slice C3 m.memo.length e3, .bool m.done] 64)))
    have HV16 := As.mk (HV15.out.ext ((Ext.rf _).al (.cells #[.slice C1 m.nodes.length e1, .slice C2 m.stack.length e2, .slice C3 m.memo.length e3, .bool m.done] 64)))
    generalize w15.alloc (.cells #[.slice C1 m.nodes.length e1, .slice C2 m.stack.length e2, .slice C3 m.memo.length e3, .bool m.done] 64) = w16 at hc HU16 HV16 ⊢
    generalize w15.heap.size = g2 at hc ⊢
    have HC := As.mk hc
    clear hc HU15 HV15
    have a0 := MB.c0 HU16.out.b0
    have a1 := MB.c1 HU16.out.b0
    have a2 := MB.c2 HU16.out.b0
    have a3 := MB.c3 HU16.out.b0
    have b0 := MB.c0 HC.out
    have b1 := MB.c1 HC.out
    have b2 := MB.c2 HC.out
    have b3 := MB.c3 HC.out
    go_upto_region 27 with (go_at_call 60; refine (eqMachine_t _ _ _ _ _ _ _ _ _ _ _ _ m _ (HV16.out.rdM HSM.out) (HU16.out.v0.rdM HSM.out)).mono ?_; rintro e w17 ⟨rfl, he⟩; have HU17 := As.mk (HU16.out.ext he); clear he)
    clear a0 a1 a2 a3 b0 b1 b2 b3 HU16 HV16 HC
    have b0 := MB.c0 HU17.out.b1
    have b1 := MB.c1 HU17.out.b1
    have b2 := MB.c2 HU17.out.b1
    have b3 := MB.c3 HU17.out.b1
    go_wp2_with (go_at_call 62; refine (heldMachine_c 1 _ HU17.out.m1 s1 s2 s3 HSM.out.k (by omega) (by omega)).mono ?_; rw [← HQ.out]; rintro e w18 ⟨rfl, he⟩; have HU18 := As.mk (HU17.out.ext he); clear he)
    go_ret
    exact ⟨rfl, HU18.out.e⟩
  · have e1 : (if (l.length : Int) ≤ 1048576 then (1048576 : Int) - l.length else -1) = -1 := if_neg hl
    have E1 := As.mk e1
    have HL := As.mk hln
    clear e1 hl hln
    go_enter Try.func14, Try.ntmps14
    go_wp2_with (go_at_call 19; refine (szOpS_c _ _ _ _ _ (by omega) (by omega) (by have := HL.out; omega)).mono ?_; rw [E1.out]; rintro e w1 ⟨rfl, rfl⟩)
    go_ret
    exact ⟨rfl, Ext.rf _⟩
end Go.Proofs.Ytcodbpjaamggeaa.C
