/- The writer: a tuple. -/
import Derived.Test.YtgenllcfpjgklaaQj
import Derived.Test.YtgenllcfpjgklaaQa
set_option linter.unusedVariables false
set_option linter.unusedSimpArgs false
namespace Go.Proofs.Ytgenllcfpjgklaa.P
theorem cost_tup_get {r n n1 k : Nat} {m m1 : List Int} {i : Nat} (h : Cost r 7 n m n1 m1) (hi : m.getD i 0 < 0) (hi' : 0 ≤ m1.getD i 0) (hk : k ≤ 3) : Cost (r + 1) 1 n m (n1 + k) m1 := cost_tup h (unm_lt h.1 i hi hi') k hk
theorem cost_tup_put {r n n1 k : Nat} {m m1 : List Int} {i : Nat} {z : Int} (h : Cost r 7 n m n1 m1) (hz : 0 ≤ z) (hi : m1.getD i 0 < 0) (hk : k ≤ 3) : Cost (r + 1) 1 n m (n1 + k) (m1.set i z) := by
  have h1 := unm_set hz hi
  have h2 := unm_le h.1
  have h3 : (2030 + 14 * r) * unm (m1.set i z) ≤ (2030 + 14 * r) * unm m1 := Nat.mul_le_mul_left _ (by omega)
  exact cost_tup (⟨h.1.trans (mle_set m1 i z hz), by have := h.2; omega⟩ : Cost r 7 n m n1 (m1.set i z)) (by omega) k hk
theorem getD_set_self (m : List Int) (i : Nat) (z : Int) (h : i < m.length) : (m.set i z).getD i 0 = z := by
  rw [List.getD_eq_getElem?_getD, List.getElem?_set, if_pos rfl, if_pos h]; rfl
end Go.Proofs.Ytgenllcfpjgklaa.P
namespace Go.Proofs.Ytgenllcfpjgklaa.C
open Go.RowKit Go.Proofs.Ytgenllcfpjgklaa.W Go.Proofs.Ytgenllcfpjgklaa.P

theorem rdI_get {w : World} {A : Option Addr} {l : List Int} (h : RdI w A l) (k : Nat) (hk : k < l.length) : ∃ ad x, A = some ad ∧ w.cell? (ad.add k) = some (.int .i64 x) ∧ As (l.getD k 0 = x) := by
  obtain ⟨ad, h1, h2⟩ := h.2 k hk
  exact ⟨ad, _, h1, h2, ⟨by rw [List.getD_eq_getElem?_getD, List.getElem?_eq_getElem hk]; rfl⟩⟩
/-- What a tuple's writer leaves. -/
def TupV (ns : List Nd) (k n : Nat) (m : List Int) (w : World) : Ending → World → Prop := SavV (fun l' m' => Cost (er ns (k : Int)) 1 n m l'.length m' ∧ 0 ≤ m'.getD k 0) w
set_option maxRecDepth 100000 in
set_option maxHeartbeats 4000000 in
theorem saveTuple_c {ns : List Nd} {A0 : Option Addr} {c0 : Nat} {root level : Int} {K : Nat} (hS : SaveOK ns A0 c0 root level K) (k : Nat) (hk : k < ns.length) (hkids : (atN ns (k : Int)).kids.length ≤ 6 ∧ ∀ x ∈ (atN ns (k : Int)).kids, 0 ≤ x ∧ x < ns.length) (hrk : ∀ x ∈ (atN ns (k : Int)).kids, er ns x + 1 ≤ er ns (k : Int)) (her : er ns (k : Int) ≤ 12)
    (A : Option Addr) (cA : Nat) (l : List Opr) (B : Option Addr) (cB : Nat) (m : List Int) (w : World) (hN : RdN w A0 ns) (hA : RdO w A l) (hB : RdI w B m) (hm : m.length = ns.length) (hnl : ns.length ≤ 1000) (hneg : m.getD k 0 < 0) (hb : l.length + 2500 * unm m + 20 * er ns (k : Int) ≤ 100000) (hK : unm m * 13 + er ns (k : Int) ≤ K) :
    Calls Try.prog 137 #[.agg #[.slice A0 ns.length c0, .int .i64 root], .int .i64 level, .int .i64 k, .slice A l.length cA, .slice B m.length cB] w (TupV ns k l.length m w) := by
  have hx : Ext w (w.alloc (.cells #[.slice A0 ns.length c0, .int .i64 root] 105)) := (Ext.rf w).al _
  have ha : GB (w.alloc (.cells #[.slice A0 ns.length c0, .int .i64 root] 105)) w.heap.size (.slice A0 ns.length c0) (.int .i64 root) := al_new w _
  have HS := As.mk hS
  have HX := As.mk hx
  have HG := As.mk ha
  have HN := As.mk (hN.ext hx)
  have HA := As.mk (hA.ext hx)
  have HB := As.mk (hB.ext hx)
  have HM := As.mk hm
  have HNEG := As.mk hneg
  have hkm : k < m.length := by omega
  have HKN := As.mk hk
  have HKM := As.mk hkm
  obtain ⟨ks, hks⟩ : ∃ ks, ks = (atN ns (k : Int)).kids := ⟨_, rfl⟩
  rw [← hks] at hkids hrk
  have HE := As.mk (show ns[k].kids = ks by rw [hks, atN_get k hk])
  obtain ⟨hkl, hkr⟩ := hkids
  obtain ⟨r, hr⟩ : ∃ r, r = er ns (k : Int) := ⟨_, rfl⟩
  have HR := As.mk hr
  rw [← hr] at hb hK hrk her
  have HKS := As.mk hkr
  have HRK := As.mk hrk
  have HBD := As.mk (And.intro hb hK)
  have hll : l.length ≤ 100000 := by omega
  have HML := As.mk (show m.length ≤ 1000 by omega)
  clear hS hx ha hN hA hB hm hneg hks hr hrk hkr hb hK hnl
  go_enter Try.func137, Try.ntmps137
  go_upto_region 1 with fail
  generalize (w.alloc (.cells #[.slice A0 ns.length c0, .int .i64 root] 105)) = w0 at HX HG HN HA HB ⊢
  generalize w.heap.size = g at HG ⊢
  obtain ⟨aN, K1, ck, rfl, -, -, y2, -, hrk⟩ := HN.out.2 k hk
  rw [HE.out] at y2 hrk
  have HRK1 := As.mk hrk
  clear hrk
  have g0 := gb_c0 HG.out; have g1 := gb_c1 HG.out
  have i1 : (k : Int) < ns.length := by omega
  go_upto_region 2 with fail
  rcases Nat.eq_zero_or_pos ks.length with hz | hz
  · have hzi : (ks.length : Int) = 0 := by omega
    go_wp2_with (first | (go_at_call 127; refine (emit1_c A cA l _ _ _ HA.out (by omega)).mono ?_; rintro e w3 ⟨A3, c3, l3, rfl, hr, hx, HL3⟩; have HR3 := As.mk hr; have HX3 := As.mk hx; clear hr hx) | (go_at_call 136; refine (memoed_c A3 c3 l3 B cB m k _ HR3.out (HB.out.ext HX3.out) (by rw [HL3.out]; omega) HML.out (by omega) (by have := HKM.out; omega)).mono ?_; rintro e w4 ⟨A4, c4, l4, B4, d4, m4, rfl, h1, h2, h3, h4, z, h5, h6⟩; have HO4 := As.mk h1; have HI4 := As.mk h2; have HX4 := As.mk (HX3.out.trans h3); have HL4 := As.mk h4; have HZ := As.mk h5; have HM4 := As.mk h6; clear h1 h2 h3 h4 h5 h6))
    go_ret2
    refine ⟨A4, c4, l4, B4, d4, m4, rfl, HO4.out, HI4.out, HX.out.trans HX4.out, ?_⟩
    show Cost _ 1 l.length m l4.length m4 ∧ _
    rw [HL4.out, HL3.out, HM4.out, Int.toNat_natCast, getD_set_self _ _ _ HKM.out]
    exact ⟨cost_put _ _ HZ.out HNEG.out 2 (by omega), HZ.out⟩
  · have hzi : (ks.length : Int) ≠ 0 := by omega
    obtain ⟨r1, hr1⟩ : ∃ r1, r = r1 + 1 := by
      obtain ⟨x, hx⟩ := List.length_pos_iff_exists_mem.1 hz
      exact ⟨r - 1, by have := HRK.out x hx; omega⟩
    have HR1 := As.mk hr1
    have HKS1 : As (∀ x ∈ ks, (0 ≤ x ∧ x < ns.length) ∧ er ns x ≤ r1) := ⟨fun x hx => ⟨HKS.out x hx, by have := HRK.out x hx; omega⟩⟩
    have hr1' : r1 ≤ 11 := by omega
    have HBD1 : As (l.length + 2500 * unm m + 20 * r1 ≤ 99980 ∧ unm m * 13 + r1 < K) := ⟨by have := HBD.out; omega⟩
    clear hr1 her
    clear g0 g1 y2
    rcases (show level ≤ 0 ∨ (0 < level ∧ (2 : Int) < (ks.length : Int)) ∨ (0 < level ∧ (ks.length : Int) ≤ 2) by omega) with h | ⟨h, h'⟩ | ⟨h, h'⟩
    case inr.inr =>
      have h9 : ks.length ≤ 2 := by omega
      go_upto_region 7 with fail
      have g0 := gb_c0 HG.out; have g1 := gb_c1 HG.out
      go_upto_region 8 with (go_at_call 139; refine (saveAll_c HS.out r1 (by omega) K1 ck ks HKS1.out (by omega) A cA l B cB m _ HN.out HRK1.out HA.out HB.out HM.out (by have h1 := HBD1.out.1; omega) HBD1.out.2).mono ?_; rintro e w4 ⟨A4, c4, l4, B4, d4, m4, rfl, h1, h2, h3, h4⟩; have HO4 := As.mk h1; have HI4 := As.mk h2; have HX4 := As.mk h3; have HC4 := As.mk (h4.more (show ks.length ≤ 7 by omega)); have hl4 : l4.length ≤ 200000 := (by have h5 := cost_bud h4 (by omega); have h6 := HBD1.out.1; omega); clear h1 h2 h3 h4)
      clear g0 g1
      have hkm4 : As (k < m4.length) := ⟨by rw [HC4.out.1.1]; exact HKM.out⟩
      have HML4 : As (m4.length ≤ 1000) := ⟨by rw [HC4.out.1.1]; exact HML.out⟩
      obtain ⟨adm, x, rfl, hcx, HXX⟩ := rdI_get HI4.out k hkm4.out
      have i2 : (k : Int) < m4.length := by have := hkm4.out; omega
      by_cases hx : 0 ≤ x
      · go_upto_region 10 with fail
        have HCX := As.mk hcx
        clear hcx
        go_loopw [3, 14] (fun a i wr => ∃ (j : Nat) (A1 : Option Addr) (c1 : Nat) (l1 : List Opr), j ≤ ks.length ∧ a = .slice A1 l1.length c1 ∧ i = .int .i64 j ∧ As (RdO wr A1 l1 ∧ Ext w4 wr ∧ l1.length = l4.length + j)) (fun _ i _ => ks.length - (intOf i).toNat)
        case atStart => exact ⟨0, A4, c4, l4, Nat.zero_le _, rfl, rfl, ⟨HO4.out, Ext.rf _, rfl⟩⟩
        case round =>
          obtain ⟨j, A1, c1, l1, hj, rfl, rfl, hst⟩ := hrel
          by_cases hlt : j < ks.length
          · have q1 : (j : Int) < ks.length := by omega
            go_wp2_with (go_at_call 127; refine (emit1_c A1 c1 l1 _ _ _ hst.out.1 (by have := hst.out.2.2; omega)).mono ?_; rintro e w5 ⟨A5, c5, l5, rfl, hr, hx, HL5⟩; have HNX : As (RdO w5 A5 l5 ∧ Ext w4 w5 ∧ l5.length = l4.length + (j + 1)) := ⟨hr, hst.out.2.1.trans hx, (by rw [HL5.out, hst.out.2.2]; omega)⟩; clear hr hx HL5)
            go_roundw
            case measure => simp only [intOf]; omega
            case rel => exact ⟨j + 1, A5, c5, l5, by omega, rfl, by go_num, HNX⟩
          · have q1 : ¬ (j : Int) < ks.length := by omega
            have HLE := As.mk (show l1.length ≤ l4.length + 2 ∧ ∃ e, l1.length = l4.length + e ∧ e ≤ 2 from ⟨by have := hst.out.2.2; omega, j, hst.out.2.2, by omega⟩)
            clear hlt hj
            have hcx := hst.out.2.1.cellOf HCX.out
            go_wp2_with (go_at_call 127; refine (emit1_c A1 c1 l1 _ _ _ hst.out.1 (by have := HLE.out.1; omega)).mono ?_; rintro e w5 ⟨A5, c5, l5, rfl, hr, hx, HL5⟩; have HR5 := As.mk hr; have HX5 := As.mk hx; clear hr hx)
            go_ret2
            refine ⟨A5, c5, l5, some adm, d4, m4, rfl, HR5.out, (HI4.out.ext hst.out.2.1).ext HX5.out, HX.out.trans (HX4.out.trans (hst.out.2.1.trans HX5.out)), ?_⟩
            obtain ⟨e, he, he2⟩ := HLE.out.2
            have h0 : 0 ≤ m4.getD k 0 := by rw [HXX.out]; exact hx
            show Cost _ 1 l.length m l5.length m4 ∧ _
            rw [HL5.out, he, Nat.add_assoc, ← HR.out, HR1.out]
            exact ⟨cost_tup_get HC4.out HNEG.out h0 (by omega), h0⟩
      · have hwl : IntKind.i64.wrap (4 + (ks.length : Int)) = 4 + (ks.length : Int) := wrapQ _ (by omega) (by omega)
        have HI4' : As (RdI w4 (some adm) m4) := HI4
        go_wp2_with (first | (go_at_call 127; refine (emit1_c A4 c4 l4 _ _ _ HO4.out (by omega)).mono ?_; rintro e w5 ⟨A5, c5, l5, rfl, hr, hx, HL5⟩; have HR5 := As.mk hr; have HX5 := As.mk hx; clear hr hx) | (go_at_call 136; refine (memoed_c A5 c5 l5 (some adm) d4 m4 k _ HR5.out (HI4.out.ext HX5.out) (by rw [HL5.out]; omega) HML4.out (by omega) (by have := hkm4.out; omega)).mono ?_; rintro e w6 ⟨A6, c6, l6, B6, d6, m6, rfl, h1, h2, h3, h4, z, h5, h6⟩; have HO6 := As.mk h1; have HI6 := As.mk h2; have HX6 := As.mk (HX5.out.trans h3); have HL6 := As.mk h4; have HZ := As.mk h5; have HM6 := As.mk h6; clear h1 h2 h3 h4 h5 h6))
        go_ret2
        refine ⟨A6, c6, l6, B6, d6, m6, rfl, HO6.out, HI6.out, HX.out.trans (HX4.out.trans HX6.out), ?_⟩
        show Cost _ 1 l.length m l6.length m6 ∧ _
        rw [HL6.out, HL5.out, HM6.out, Int.toNat_natCast, getD_set_self _ _ _ hkm4.out, ← HR.out, HR1.out]
        exact ⟨cost_tup_put (k := 2) HC4.out HZ.out (by rw [HXX.out]; omega) (by omega), HZ.out⟩
    all_goals
      try have h9 : ¬ ks.length ≤ 2 := by omega
      try have h12 : ¬ (ks.length : Int) ≤ 2 := by omega
      try have h11 : (!decide ((ks.length : Int) ≤ 2)) = true := by rw [decide_eq_false h12]; rfl
      go_upto_region 7 with (go_at_call 127; refine (emit1_c A cA l _ _ _ HA.out (by omega)).mono ?_; rintro e w3 ⟨A3, c3, l3, rfl, hr, hx, HL3⟩; have HR3 := As.mk hr; have HX3 := As.mk hx; clear hr hx)
      have g0 := gb_c0 (HX3.out.blk HG.out); have g1 := gb_c1 (HX3.out.blk HG.out)
      go_upto_region 8 with (go_at_call 139; refine (saveAll_c HS.out r1 (by omega) K1 ck ks HKS1.out (by omega) A3 c3 l3 B cB m _ (HN.out.ext HX3.out) (HRK1.out.ext HX3.out) HR3.out (HB.out.ext HX3.out) HM.out (by have h1 := HBD1.out.1; have h2 := HL3.out; omega) HBD1.out.2).mono ?_; rintro e w4 ⟨A4, c4, l4, B4, d4, m4, rfl, h1, h2, h3, h4⟩; have HO4 := As.mk h1; have HI4 := As.mk h2; have HX4 := As.mk (HX3.out.trans h3); have HC4 : As (Cost r1 7 l.length m l4.length m4) := ⟨(by rw [HL3.out] at h4; exact (((Cost.rf r1 l.length m).ops 1).trans h4).more (by omega))⟩; have hl4 : l4.length ≤ 200000 := (by have h5 := cost_bud HC4.out (by omega); have h6 := HBD1.out.1; omega); clear h1 h2 h3 h4)
      clear g0 g1
      have hkm4 : As (k < m4.length) := ⟨by rw [HC4.out.1.1]; exact HKM.out⟩
      have HML4 : As (m4.length ≤ 1000) := ⟨by rw [HC4.out.1.1]; exact HML.out⟩
      obtain ⟨adm, x, rfl, hcx, HXX⟩ := rdI_get HI4.out k hkm4.out
      have i2 : (k : Int) < m4.length := by have := hkm4.out; omega
      by_cases hx : 0 ≤ x
      · go_upto_region 10 with fail
        have HCX := As.mk hcx
        clear hcx
        go_loopw [3, 14] (fun a i wr => a = .slice A4 l4.length c4 ∧ i = .int .i64 0 ∧ As (wr = w4)) (fun _ _ _ => 0)
        case atStart => exact ⟨rfl, rfl, ⟨rfl⟩⟩
        case round =>
          obtain ⟨rfl, rfl, hst⟩ := hrel
          have hw := hst.out
          subst hw
          have q1 : (0 : Int) < ks.length := by omega
          have hcx := HCX.out
          go_wp2_with (first | (go_at_call 127; refine (emit1_c A4 c4 l4 _ _ _ HO4.out (by omega)).mono ?_; rintro e w5 ⟨A5, c5, l5, rfl, hr, hx5, HL5⟩; have HR5 := As.mk hr; have HX5 := As.mk hx5; have hcx := hx5.cellOf HCX.out; clear hr hx5) | (go_at_call 127; refine (emit1_c A5 c5 l5 _ _ _ HR5.out (by rw [HL5.out]; omega)).mono ?_; rintro e w6 ⟨A6, c6, l6, rfl, hr, hx6, HL6⟩; have HR6 := As.mk hr; have HX6 := As.mk (HX5.out.trans hx6); clear hr hx6))
          go_ret2
          refine ⟨A6, c6, l6, some adm, d4, m4, rfl, HR6.out, HI4.out.ext HX6.out, HX.out.trans (HX4.out.trans HX6.out), ?_⟩
          have h0 : 0 ≤ m4.getD k 0 := by rw [HXX.out]; exact hx
          show Cost _ 1 l.length m l6.length m4 ∧ _
          rw [HL6.out, HL5.out, ← HR.out, HR1.out]
          exact ⟨cost_tup_get (k := 2) HC4.out HNEG.out h0 (by omega), h0⟩
      · go_wp2_with (first | (go_at_call 127; refine (emit1_c A4 c4 l4 _ _ _ HO4.out (by omega)).mono ?_; rintro e w5 ⟨A5, c5, l5, rfl, hr, hx, HL5⟩; have HR5 := As.mk hr; have HX5 := As.mk hx; clear hr hx) | (go_at_call 136; refine (memoed_c A5 c5 l5 (some adm) d4 m4 k _ HR5.out (HI4.out.ext HX5.out) (by rw [HL5.out]; omega) HML4.out (by omega) (by have := hkm4.out; omega)).mono ?_; rintro e w6 ⟨A6, c6, l6, B6, d6, m6, rfl, h1, h2, h3, h4, z, h5, h6⟩; have HO6 := As.mk h1; have HI6 := As.mk h2; have HX6 := As.mk (HX5.out.trans h3); have HL6 := As.mk h4; have HZ := As.mk h5; have HM6 := As.mk h6; clear h1 h2 h3 h4 h5 h6))
        go_ret2
        refine ⟨A6, c6, l6, B6, d6, m6, rfl, HO6.out, HI6.out, HX.out.trans (HX4.out.trans HX6.out), ?_⟩
        show Cost _ 1 l.length m l6.length m6 ∧ _
        rw [HL6.out, HL5.out, HM6.out, Int.toNat_natCast, getD_set_self _ _ _ hkm4.out, ← HR.out, HR1.out]
        exact ⟨cost_tup_put (k := 2) HC4.out HZ.out (by rw [HXX.out]; omega) (by omega), HZ.out⟩
end Go.Proofs.Ytgenllcfpjgklaa.C
