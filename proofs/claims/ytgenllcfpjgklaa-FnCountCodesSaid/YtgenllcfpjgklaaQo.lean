/- The writer: a node, by its key. -/
import Derived.Test.YtgenllcfpjgklaaQm
import Derived.Test.YtgenllcfpjgklaaQn
import Derived.Test.YtgenllcfpjgklaaQb
set_option linter.unusedVariables false
set_option linter.unusedSimpArgs false
namespace Go.Proofs.Ytgenllcfpjgklaa.P
theorem nodeB_kind {ns : List Nd} {n : Nd} (h : nodeB ns n = true) : (n.kind = 0 ∨ n.kind = 1 ∨ n.kind = 2 ∨ n.kind = 3 ∨ n.kind = 4 ∨ n.kind = 5) ∧ (n.kind = 4 → n.kids.length % 2 = 0) ∧ (n.kind = 5 → n.kids.length ≤ 1) := by
  simp only [nodeB, Bool.and_eq_true] at h
  have hb := h.2
  unfold bodyB at hb
  split at hb
  · omega
  split at hb
  · omega
  split at hb
  · omega
  split at hb
  · omega
  split at hb
  · rename_i h4
    simp only [dictB, Bool.and_eq_true, beq_iff_eq] at hb
    exact ⟨by omega, fun _ => hb.2.2, fun e => by omega⟩
  split at hb
  · simp only [Bool.and_eq_true, decide_eq_true_eq] at hb
    exact ⟨by omega, fun e => by omega, fun _ => hb.2⟩
  · exact nomatch hb
theorem cost_kids {n n1 : Nat} {m m2 : List Int} {i x r : Nat} {z : Int} (hz : 0 ≤ z) (hi : m.getD i 0 < 0) (hl : m.length ≤ 12) (h : Cost 12 x (n + 2) (m.set i z) n1 m2) (hx : x ≤ 12) : Cost r 1 n m n1 m2 ∧ 0 ≤ m2.getD i 0 := by
  have hlt : i < m.length := by
    rcases Nat.lt_or_ge i m.length with h1 | h1
    · exact h1
    · rw [List.getD_eq_getElem?_getD, List.getElem?_eq_none h1] at hi
      simp at hi
  have h1 : Cost 12 14 n (m.set i z) n1 m2 := ⟨h.1, by have := h.2; omega⟩
  exact ⟨(cost_fill hz hi rfl hl h1).rank (Nat.zero_le _), h.1.2 i (by rw [getD_set_self _ _ _ hlt]; exact hz)⟩
end Go.Proofs.Ytgenllcfpjgklaa.P
namespace Go.Proofs.Ytgenllcfpjgklaa.C
open Go.RowKit Go.Proofs.Ytgenllcfpjgklaa.W Go.Proofs.Ytgenllcfpjgklaa.P

set_option maxRecDepth 100000 in
set_option maxHeartbeats 4000000 in
theorem save_step {ns : List Nd} {A0 : Option Addr} {c0 : Nat} {root level : Int} {root' : Int} (hV : VG ns root') {K : Nat} (hS : SaveOK ns A0 c0 root level K) : SaveOK ns A0 c0 root level (K + 1) := by
  intro at_ A cA l B cB m w h0 h1 hN hA hB hm hb hK
  obtain ⟨k, rfl⟩ := Int.eq_ofNat_of_zero_le h0
  have hk : k < ns.length := by omega
  have hx : Ext w (w.alloc (.cells #[.slice A0 ns.length c0, .int .i64 root] 105)) := (Ext.rf w).al _
  have ha : GB (w.alloc (.cells #[.slice A0 ns.length c0, .int .i64 root] 105)) w.heap.size (.slice A0 ns.length c0) (.int .i64 root) := al_new w _
  have HV := As.mk hV
  have HS := As.mk hS
  have HX := As.mk hx
  have HG := As.mk ha
  have HN := As.mk (hN.ext hx)
  have HA := As.mk (hA.ext hx)
  have HB := As.mk (hB.ext hx)
  have HM := As.mk hm
  have HML := As.mk (show m.length ≤ 12 by have := hV.hi; omega)
  have hkm : As (k < m.length) := ⟨by omega⟩
  have HKM : As ((k : Int) < m.length) := ⟨by omega⟩
  obtain ⟨nd, hnd⟩ : ∃ nd, nd = ns[k] := ⟨_, rfl⟩
  have hat : atN ns (k : Int) = nd := by rw [atN_get k hk, hnd]
  have HVK := As.mk (hV.kids h0 h1)
  rw [hat] at HVK
  have HKD := As.mk (nodeB_kind (hV.nd nd (by rw [hnd]; exact List.getElem_mem _)))
  have HAT := As.mk hat
  obtain ⟨kd, vl, ks⟩ := nd
  have HBD := As.mk (And.intro hb (show unm m * 13 + er ns (k : Int) ≤ K by omega))
  have HLK := As.mk (And.intro h0 h1)
  have hll : l.length ≤ 100000 := by omega
  have HER : As (∀ x ∈ ks, (0 ≤ x ∧ x < ns.length) ∧ er ns x ≤ 12) := ⟨fun x hx => ⟨HVK.out.2 x hx, er_le hV x⟩⟩
  have hkl : ks.length ≤ 6 := HVK.out.1
  have i1 : (k : Int) < ns.length := by omega
  clear hV hS hx ha hN hA hB hm h0 h1 hb hK
  go_enter Try.func125, Try.ntmps125
  go_upto_region 1 with fail
  generalize (w.alloc (.cells #[.slice A0 ns.length c0, .int .i64 root] 105)) = w0 at HX HG HN HA HB ⊢
  generalize w.heap.size = g at HG ⊢
  obtain ⟨aN, K1, ck, rfl, y0, y1, y2, hck, hrk⟩ := HN.out.2 k hk
  rw [← hnd] at y0 y1 y2 hrk hck
  dsimp only at y0 y1 y2 hrk hck
  have HRK := As.mk hrk
  have HND := As.mk hnd
  clear hrk hnd hat
  have g0 := gb_c0 HG.out; have g1 := gb_c1 HG.out
  go_upto_region 2 with fail
  clear y0 y1 y2 g0 g1
  have hx1 : Ext w0 (w0.alloc (.cells #[.int .i64 kd, .int .i64 vl, .slice K1 ks.length ck] 73)) := (Ext.rf w0).al _
  have hnb : NB (w0.alloc (.cells #[.int .i64 kd, .int .i64 vl, .slice K1 ks.length ck] 73)) w0.heap.size (.int .i64 kd) (.int .i64 vl) (.slice K1 ks.length ck) := al_new _ _
  have HX1 := As.mk (HX.out.trans hx1)
  have HG1 := As.mk (hx1.blk HG.out)
  have HN1 := As.mk (HN.out.ext hx1)
  have HA1 := As.mk (HA.out.ext hx1)
  have HB1 := As.mk (HB.out.ext hx1)
  have HRK1 := As.mk (HRK.out.ext hx1)
  have HNB := As.mk hnb
  clear hx1 hnb HX HG HN HA HB HRK
  generalize (w0.alloc (.cells #[.int .i64 kd, .int .i64 vl, .slice K1 ks.length ck] 73)) = w1 at HX1 HG1 HN1 HA1 HB1 HRK1 HNB ⊢
  generalize w0.heap.size = nb at HNB ⊢
  obtain ⟨adm, x, rfl, hcx, HXX⟩ := rdI_get HB1.out k hkm.out
  have i2 := HKM.out
  by_cases hx : 0 ≤ x
  · go_wp2_with (go_at_call 127; refine (emit1_c A cA l _ _ _ HA1.out (by omega)).mono ?_; rintro e w3 ⟨A3, c3, l3, rfl, hr, hx, HL3⟩; have HR3 := As.mk hr; have HX3 := As.mk hx; clear hr hx)
    go_ret2
    refine ⟨A3, c3, l3, some adm, cB, m, rfl, HR3.out, HB1.out.ext HX3.out, HX1.out.trans HX3.out, ?_, fun _ => ?_⟩
    · rw [HL3.out]; exact ((Cost.rf _ _ _).ops 1)
    · rw [Int.toNat_natCast, HXX.out]; exact hx
  · have HNEG : As (m.getD k 0 < 0) := ⟨by rw [HXX.out]; omega⟩
    go_upto_region 4 with fail
    clear hcx
    have n0 := NB.c0 HNB.out; have n1 := NB.c1 HNB.out; have n2 := NB.c2 HNB.out
    have g0 := gb_c0 HG1.out; have g1 := gb_c1 HG1.out
    have hkd := HKD.out.1
    rcases hkd with hkd | hkd | hkd | hkd | hkd | hkd <;> dsimp only at hkd <;> subst hkd
    · go_wp2_with (go_at_call 127; refine (emit1_c A cA l _ _ _ HA1.out (by omega)).mono ?_; rintro e w3 ⟨A3, c3, l3, rfl, hr, hx, HL3⟩; have HR3 := As.mk hr; have HX3 := As.mk hx; clear hr hx)
      go_ret2
      refine ⟨A3, c3, l3, some adm, cB, m, rfl, HR3.out, HB1.out.ext HX3.out, HX1.out.trans HX3.out, ?_, fun h => ?_⟩
      · rw [HL3.out]; exact ((Cost.rf _ _ _).ops 1)
      · rw [HAT.out] at h; exact absurd rfl h
    · go_wp2_with (first | (go_at_call 127; refine (emit1_c A cA l _ _ _ HA1.out (by omega)).mono ?_; rintro e w3 ⟨A3, c3, l3, rfl, hr, hx, HL3⟩; have HR3 := As.mk hr; have HX3 := As.mk hx; clear hr hx) | (go_at_call 136; refine (memoed_c A3 c3 l3 (some adm) cB m k _ HR3.out (HB1.out.ext HX3.out) (by rw [HL3.out]; omega) (by have := HML.out; omega) (by omega) HKM.out).mono ?_; rintro e w4 ⟨A4, c4, l4, B4, d4, m4, rfl, h1, h2, h3, h4, z, h5, h6⟩; have HO4 := As.mk h1; have HI4 := As.mk h2; have HX4 := As.mk (HX3.out.trans h3); have HL4 := As.mk h4; have HZ := As.mk h5; have HM4 := As.mk h6; clear h1 h2 h3 h4 h5 h6))
      go_ret2
      refine ⟨A4, c4, l4, B4, d4, m4, rfl, HO4.out, HI4.out, HX1.out.trans HX4.out, ?_⟩
      show Cost _ 1 l.length m l4.length m4 ∧ _
      rw [HL4.out, HL3.out, HM4.out, Int.toNat_natCast, getD_set_self _ _ _ hkm.out]
      exact ⟨cost_put _ _ HZ.out HNEG.out 2 (by omega), fun _ => HZ.out⟩
    · go_wp2_with (go_at_call 137; refine (saveTuple_c HS.out k hk (by rw [HAT.out]; exact HVK.out) (by rw [HAT.out]; intro x hx; exact er_kid HV.out HLK.out.1 HLK.out.2 (by rw [HAT.out]; rfl) (by rw [HAT.out]; exact hx)) (er_le HV.out _) A cA l (some adm) cB m _ HN1.out HA1.out HB1.out HM.out (by have := HML.out; have := HM.out; omega) HNEG.out HBD.out.1 HBD.out.2).mono ?_; rintro e w4 ⟨A4, c4, l4, B4, d4, m4, rfl, h1, h2, h3, h4⟩; have HO4 := As.mk h1; have HI4 := As.mk h2; have HX4 := As.mk h3; have HC4 := As.mk h4; clear h1 h2 h3 h4)
      go_ret2
      refine ⟨A4, c4, l4, B4, d4, m4, rfl, HO4.out, HI4.out, HX1.out.trans HX4.out, HC4.out.1, fun _ => ?_⟩
      rw [Int.toNat_natCast]; exact HC4.out.2
    · go_upto_region 13 with (first | (go_at_call 127; refine (emit1_c A cA l _ _ _ HA1.out (by omega)).mono ?_; rintro e w3 ⟨A3, c3, l3, rfl, hr, hx, HL3⟩; have HR3 := As.mk hr; have HX3 := As.mk hx; clear hr hx) | (go_at_call 136; refine (memoed_c A3 c3 l3 (some adm) cB m k _ HR3.out (HB1.out.ext HX3.out) (by rw [HL3.out]; omega) (by have := HML.out; omega) (by omega) HKM.out).mono ?_; rintro e w4 ⟨A4, c4, l4, B4, d4, m4, rfl, h1, h2, h3, h4, z, h5, h6⟩; have HO4 := As.mk h1; have HI4 := As.mk h2; have HX4 := As.mk (HX3.out.trans h3); have HL4 := As.mk (h4.trans (by rw [HL3.out])); have HZ := As.mk h5; rw [Int.toNat_natCast] at h6; have HM4 := As.mk h6; have HU4 : As (unm m4 + 1 ≤ unm m ∧ m4.length = ns.length) := ⟨(by rw [HM4.out]; exact unm_set HZ.out HNEG.out), (by rw [HM4.out, List.length_set]; exact HM.out)⟩; have g0 := gb_c0 (HX4.out.blk HG1.out); have g1 := gb_c1 (HX4.out.blk HG1.out); have n1 := NB.c1 (HX4.out.blk HNB.out); have n2 := NB.c2 (HX4.out.blk HNB.out); clear h1 h2 h3 h4 h5 h6))
      go_wp2_with ((go_at_call 138; refine (fill_c HS.out K1 ck ks HER.out hkl hck 1 (by omega) (by omega) (Nat.mod_one _) _ _ A4 c4 l4 B4 d4 m4 _ (HN1.out.ext HX4.out) (HRK1.out.ext HX4.out) HO4.out HI4.out HU4.out.2 (by have h1 := HU4.out.1; have h2 := HBD.out.1; have h3 := HL4.out; omega) (by have h1 := HU4.out.1; have h2 := HBD.out.2; omega)).mono ?_; rintro e w5 ⟨A5, c5, l5, B5, d5, m5, rfl, h1, h2, h3, h4⟩; have HO5 := As.mk h1; have HI5 := As.mk h2; have HX5 := As.mk (HX4.out.trans h3); have HC5 := As.mk h4; clear h1 h2 h3 h4))
      go_ret2
      refine ⟨A5, c5, l5, B5, d5, m5, rfl, HO5.out, HI5.out, HX1.out.trans HX5.out, ?_⟩
      have h1 := HC5.out
      rw [HL4.out, HM4.out] at h1
      have h2 := cost_kids (r := er ns (k : Int)) HZ.out HNEG.out HML.out h1 (by omega)
      exact ⟨h2.1, fun _ => by rw [Int.toNat_natCast]; exact h2.2⟩
    · have HK2 : As (ks.length % 2 = 0) := ⟨HKD.out.2.1 rfl⟩
      go_upto_region 16 with (first | (go_at_call 127; refine (emit1_c A cA l _ _ _ HA1.out (by omega)).mono ?_; rintro e w3 ⟨A3, c3, l3, rfl, hr, hx, HL3⟩; have HR3 := As.mk hr; have HX3 := As.mk hx; clear hr hx) | (go_at_call 136; refine (memoed_c A3 c3 l3 (some adm) cB m k _ HR3.out (HB1.out.ext HX3.out) (by rw [HL3.out]; omega) (by have := HML.out; omega) (by omega) HKM.out).mono ?_; rintro e w4 ⟨A4, c4, l4, B4, d4, m4, rfl, h1, h2, h3, h4, z, h5, h6⟩; have HO4 := As.mk h1; have HI4 := As.mk h2; have HX4 := As.mk (HX3.out.trans h3); have HL4 := As.mk (h4.trans (by rw [HL3.out])); have HZ := As.mk h5; rw [Int.toNat_natCast] at h6; have HM4 := As.mk h6; have HU4 : As (unm m4 + 1 ≤ unm m ∧ m4.length = ns.length) := ⟨(by rw [HM4.out]; exact unm_set HZ.out HNEG.out), (by rw [HM4.out, List.length_set]; exact HM.out)⟩; have g0 := gb_c0 (HX4.out.blk HG1.out); have g1 := gb_c1 (HX4.out.blk HG1.out); have n1 := NB.c1 (HX4.out.blk HNB.out); have n2 := NB.c2 (HX4.out.blk HNB.out); clear h1 h2 h3 h4 h5 h6))
      go_wp2_with ((go_at_call 138; refine (fill_c HS.out K1 ck ks HER.out hkl hck 2 (by omega) (by omega) HK2.out _ _ A4 c4 l4 B4 d4 m4 _ (HN1.out.ext HX4.out) (HRK1.out.ext HX4.out) HO4.out HI4.out HU4.out.2 (by have h1 := HU4.out.1; have h2 := HBD.out.1; have h3 := HL4.out; omega) (by have h1 := HU4.out.1; have h2 := HBD.out.2; omega)).mono ?_; rintro e w5 ⟨A5, c5, l5, B5, d5, m5, rfl, h1, h2, h3, h4⟩; have HO5 := As.mk h1; have HI5 := As.mk h2; have HX5 := As.mk (HX4.out.trans h3); have HC5 := As.mk h4; clear h1 h2 h3 h4))
      go_ret2
      refine ⟨A5, c5, l5, B5, d5, m5, rfl, HO5.out, HI5.out, HX1.out.trans HX5.out, ?_⟩
      have h1 := HC5.out
      rw [HL4.out, HM4.out] at h1
      have h2 := cost_kids (r := er ns (k : Int)) HZ.out HNEG.out HML.out h1 (by omega)
      exact ⟨h2.1, fun _ => by rw [Int.toNat_natCast]; exact h2.2⟩
    · have hk1 : ks.length ≤ 1 := HKD.out.2.2 rfl
      go_upto_region 18 with (first | (go_at_call 127; refine (emit1_c A cA l _ _ _ HA1.out (by omega)).mono ?_; rintro e w3 ⟨A3, c3, l3, rfl, hr, hx, HL3⟩; have HR3 := As.mk hr; have HX3 := As.mk hx; clear hr hx) | (go_at_call 136; refine (memoed_c A3 c3 l3 (some adm) cB m k _ HR3.out (HB1.out.ext HX3.out) (by rw [HL3.out]; omega) (by have := HML.out; omega) (by omega) HKM.out).mono ?_; rintro e w4 ⟨A4, c4, l4, B4, d4, m4, rfl, h1, h2, h3, h4, z, h5, h6⟩; have HO4 := As.mk h1; have HI4 := As.mk h2; have HX4 := As.mk (HX3.out.trans h3); have HL4 := As.mk (h4.trans (by rw [HL3.out])); have HZ := As.mk h5; rw [Int.toNat_natCast] at h6; have HM4 := As.mk h6; have HU4 : As (unm m4 + 1 ≤ unm m ∧ m4.length = ns.length) := ⟨(by rw [HM4.out]; exact unm_set HZ.out HNEG.out), (by rw [HM4.out, List.length_set]; exact HM.out)⟩; have g0 := gb_c0 (HX4.out.blk HG1.out); have g1 := gb_c1 (HX4.out.blk HG1.out); have n1 := NB.c1 (HX4.out.blk HNB.out); have n2 := NB.c2 (HX4.out.blk HNB.out); clear h1 h2 h3 h4 h5 h6))
      rcases Nat.eq_zero_or_pos ks.length with hz | hz
      · have hzi : (ks.length : Int) ≤ 0 := by omega
        clear hz
        go_wp2_with (first | (go_at_call 139; refine (saveAll_c HS.out 12 (by omega) K1 ck ks HER.out (by omega) A4 c4 l4 B4 d4 m4 _ (HN1.out.ext HX4.out) (HRK1.out.ext HX4.out) HO4.out HI4.out HU4.out.2 (by have h1 := HU4.out.1; have h2 := HBD.out.1; have h3 := HL4.out; omega) (by have h1 := HU4.out.1; have h2 := HBD.out.2; omega)).mono ?_; rintro e w5 ⟨A5, c5, l5, B5, d5, m5, rfl, h1, h2, h3, h4⟩; have HO5 := As.mk h1; have HI5 := As.mk h2; have HX5 := As.mk (HX4.out.trans h3); have HC5 := As.mk h4; have HL5 : As (l5.length ≤ 200000) := ⟨(by have h5 := cost_bud h4 (by omega); have h6 := HU4.out.1; have h7 := HBD.out.1; have h8 := HL4.out; omega)⟩; have n2 := NB.c2 (HX5.out.blk HNB.out); clear h1 h2 h3 h4) | (go_at_call 127; refine (emit1_c A5 c5 l5 _ _ _ HO5.out (by have := HL5.out; omega)).mono ?_; rintro e w6 ⟨A6, c6, l6, rfl, hr, hx, HL6⟩; have HR6 := As.mk hr; have HX6 := As.mk hx; clear hr hx))
        go_ret2
        refine ⟨A5, c5, l5, B5, d5, m5, rfl, HO5.out, HI5.out, HX1.out.trans HX5.out, ?_⟩
        have h1 := HC5.out
        rw [HL4.out, HM4.out] at h1
        have h2 := cost_kids (r := er ns (k : Int)) HZ.out HNEG.out HML.out h1 (by omega)
        exact ⟨h2.1, fun _ => by rw [Int.toNat_natCast]; exact h2.2⟩
      · have hzi : (0 : Int) < ks.length := by omega
        go_wp2_with (first | (go_at_call 139; refine (saveAll_c HS.out 12 (by omega) K1 ck ks HER.out (by omega) A4 c4 l4 B4 d4 m4 _ (HN1.out.ext HX4.out) (HRK1.out.ext HX4.out) HO4.out HI4.out HU4.out.2 (by have h1 := HU4.out.1; have h2 := HBD.out.1; have h3 := HL4.out; omega) (by have h1 := HU4.out.1; have h2 := HBD.out.2; omega)).mono ?_; rintro e w5 ⟨A5, c5, l5, B5, d5, m5, rfl, h1, h2, h3, h4⟩; have HO5 := As.mk h1; have HI5 := As.mk h2; have HX5 := As.mk (HX4.out.trans h3); have HC5 := As.mk h4; have HL5 : As (l5.length ≤ 200000) := ⟨(by have h5 := cost_bud h4 (by omega); have h6 := HU4.out.1; have h7 := HBD.out.1; have h8 := HL4.out; omega)⟩; have n2 := NB.c2 (HX5.out.blk HNB.out); clear h1 h2 h3 h4) | (go_at_call 127; refine (emit1_c A5 c5 l5 _ _ _ HO5.out (by have := HL5.out; omega)).mono ?_; rintro e w6 ⟨A6, c6, l6, rfl, hr, hx, HL6⟩; have HR6 := As.mk hr; have HX6 := As.mk hx; clear hr hx))
        go_ret2
        refine ⟨A6, c6, l6, B5, d5, m5, rfl, HR6.out, HI5.out.ext HX6.out, HX1.out.trans (HX5.out.trans HX6.out), ?_⟩
        have h1 := HC5.out.ops 1
        rw [HL4.out, HM4.out] at h1
        have h2 := cost_kids (r := er ns (k : Int)) HZ.out HNEG.out HML.out h1 (by omega)
        show Cost _ 1 l.length m l6.length m5 ∧ _
        rw [HL6.out]
        exact ⟨h2.1, fun _ => by rw [Int.toNat_natCast]; exact h2.2⟩
/-- The writer writes all nodes of a valid graph. -/
theorem save_ok {ns : List Nd} {A0 : Option Addr} {c0 : Nat} {root level : Int} {root' : Int} (hV : VG ns root') : ∀ K, SaveOK ns A0 c0 root level K
  | 0 => fun _ _ _ _ _ _ _ _ _ _ _ _ _ _ _ hK => absurd hK (Nat.not_lt_zero _)
  | K + 1 => save_step hV (save_ok hV K)
end Go.Proofs.Ytgenllcfpjgklaa.C
