/- The law of counted codes, walked. -/
import Derived.Test.YtgenllcfpjgklaaDp
set_option linter.unusedVariables false
set_option linter.unusedSimpArgs false
namespace Go.Proofs.Ytgenllcfpjgklaa.P
theorem cntC_cons (o : Opr) (l : List Opr) (c : Int) : cntC (o :: l) c = (if o.code = c then 1 else 0) + cntC l c := by
  unfold cntC
  by_cases h : o.code = c
  · rw [List.filter_cons_of_pos (by simpa using h), if_pos h, List.length_cons]; omega
  · rw [List.filter_cons_of_neg (by simpa using h), if_neg h]; omega
theorem cntC_app (a b : List Opr) (c : Int) : cntC (a ++ b) c = cntC a c + cntC b c := by simp [cntC]
theorem cnt_sum (o : Opr) (l : List Opr) : ∀ n : Nat, ((List.range n).map (fun c : Nat => (cntC (o :: l) (c : Int) : Int))).sum = ((List.range n).map (fun c : Nat => (cntC l (c : Int) : Int))).sum + (if 0 ≤ o.code ∧ o.code < n then 1 else 0)
  | 0 => by rw [if_neg (by omega)]; rfl
  | n + 1 => by
    have ih := cnt_sum o l n
    rw [List.range_succ, List.map_append, List.map_append, List.sum_append, List.sum_append, ih]
    simp only [List.map_cons, List.map_nil, List.sum_cons, List.sum_nil, cntC_cons]
    by_cases h : o.code = (n : Int)
    · rw [if_pos h, if_neg (by omega), if_pos (by omega)]; omega
    · rw [if_neg h]
      by_cases h2 : 0 ≤ o.code ∧ o.code < n
      · rw [if_pos h2, if_pos (by omega)]; omega
      · rw [if_neg h2, if_neg (by omega)]; omega
theorem cntL_sum : ∀ (l : List Opr), l.all okO = true → (cntL l).sum = (l.length : Int)
  | [], _ => by decide
  | o :: l, h => by
    rw [List.all_cons, Bool.and_eq_true] at h
    have ih := cntL_sum l h.2
    have h1 := h.1
    simp only [okO, decide_eq_true_eq] at h1
    have e := cnt_sum o l 20
    rw [if_pos (by omega)] at e
    unfold cntL at ih ⊢
    rw [e, ih, List.length_cons]
    omega
end Go.Proofs.Ytgenllcfpjgklaa.P
namespace Go.Proofs.Ytgenllcfpjgklaa.C
open Go.RowKit Go.Proofs.Ytgenllcfpjgklaa.W Go.Proofs.Ytgenllcfpjgklaa.P

theorem total_c (A : Option Addr) (cA n : Nat) (l : List Int) (w : World) (hr : RdI w A l) (hn : l.length = n) (h20 : l.length ≤ 20) (hb : ∀ x ∈ l, 0 ≤ x ∧ x ≤ 1000) :
    Calls Try.prog 33 #[.slice A n cA] w fun e w' => e = .returned (.int .i64 l.sum) ∧ w = w' := by
  subst hn
  have HR := As.mk hr
  have HB := As.mk hb
  clear hr hb
  go_enter Try.func33, Try.ntmps33
  go_upto_region 3 with fail
  go_loop [3, 4] (fun s i => ∃ k : Nat, ∃ z : Int, k ≤ l.length ∧ i = .int .i64 k ∧ s = .int .i64 z ∧ 0 ≤ z ∧ z ≤ 1000 * k ∧ As (z = (l.take k).sum)) (fun _ i => l.length - (intOf i).toNat)
  case atStart => exact ⟨0, 0, Nat.zero_le _, rfl, rfl, Int.le_refl _, by omega, ⟨by simp⟩⟩
  case round =>
    obtain ⟨k, z, hk, rfl, rfl, hz0, hz1, hs⟩ := hrel
    by_cases hlt : k < l.length
    · obtain ⟨ad, rfl, h1⟩ := HR.out.2 k hlt
      have hx := HB.out l[k] (List.getElem_mem hlt)
      have HN : As (z + l[k] = (l.take (k + 1)).sum) := ⟨by rw [List.take_succ_eq_append_getElem hlt, List.sum_append, ← hs.out]; simp⟩
      generalize l[k] = x at h1 hx HN
      obtain ⟨hx0, hx1⟩ := hx
      have hw : IntKind.i64.wrap (z + x) = z + x := wrapQ _ (by omega) (by omega)
      have q1 : (k : Int) < l.length := by omega
      go_wp2_with fail
      go_round
      case measure => simp only [intOf]; omega
      case rel => exact ⟨k + 1, z + x, by omega, by go_num, by go_num, by omega, by omega, HN⟩
    · have HN : As (z = l.sum) := ⟨by rw [hs.out, List.take_of_length_le (by omega)]⟩
      have q1 : ¬ (k : Int) < l.length := by omega
      go_wp2_with fail
      go_ret
      exact ⟨by rw [← HN.out]; rfl, rfl⟩
set_option maxRecDepth 100000 in
set_option maxHeartbeats 1000000 in
theorem FnCountCodes_c (A : Option Addr) (c : Nat) (bs : List Int) (w : World) (hb : GivB w A bs) (hc : bs.length ≤ c) : Calls Try.prog 7 #[.slice A bs.length c] w (True_ w) := by
  have hbl := hb.1
  have HB := As.mk hb
  clear hb
  by_cases hlen : (1048576 : Int) < bs.length
  · go_enter Try.func7, Try.ntmps7
    go_wp2_with fail
    go_ret
    exact ⟨rfl, Ext.rf _⟩
  · go_enter Try.func7, Try.ntmps7
    go_upto_region 4 with (go_at_call 29; refine (DrawCountCodes_c _ _ bs _ HB.out hc).mono ?_; rintro e w1 ⟨A1, c1, l, rfl, ho, he, hl⟩; have HO := As.mk ho; have HE := As.mk he; have hcap := (ho.cap rfl).1; clear ho he)
    have hl' := hl.out
    have HR := As.mk (rdA_O HO.out (by omega))
    obtain ⟨en, hen⟩ : ∃ en, en = counts l := ⟨_, rfl⟩
    have hel : en.length ≤ 90000 := by
      rw [hen]; unfold counts
      split
      · rw [cntL_len]; omega
      · simp
    have HEN := As.mk hen
    clear hen
    by_cases hz : (en.length : Int) = 0
    · go_wp2_with (first | (go_at_call 30; refine (CountCodes_c _ _ _ _ _ HR.out rfl).mono ?_; rw [← HEN.out]; rintro e w2 ⟨A2, c2, rfl, hi, he, -⟩; have HEW := As.mk he; have HOUT := As.mk (rdA_J5 hi (by omega)); clear hi he) | (go_at_call 32; refine (sCountCodes_c _ _ _ _ _ (HR.out.ext HEW.out) rfl).mono ?_; rw [← HEN.out]; rintro e w3 ⟨A3, c3, rfl, hi, he, -⟩; have HEW := As.mk (HEW.out.trans he); have HOUT := As.mk (HOUT.out.ext he); have HSP := As.mk (rdA_J5 hi (by omega)); clear hi he) | (go_at_call 31; refine (equalInts_t _ _ _ _ _ _ en _ HOUT.out HSP.out rfl rfl).mono ?_; rintro e w4 ⟨rfl, he⟩; have HEW := As.mk (HEW.out.trans he); have HOUT := As.mk (HOUT.out.ext he); have HSP := As.mk (HSP.out.ext he); clear he))
      go_ret
      exact ⟨rfl, HE.out.trans HEW.out⟩
    · have hv : vOps l = true := by
        cases h : vOps l with
        | true => rfl
        | false =>
          exfalso
          apply hz
          rw [HEN.out]; unfold counts; rw [h]; rfl
      have HV := As.mk hv
      have hl3 := (vOps_all hv).2
      clear hv
      obtain ⟨k, hk⟩ : ∃ k, k = l.length / 2 := ⟨_, rfl⟩
      have hkl : k ≤ l.length := by omega
      have hdiv : (l.length : Int) / 2 = (k : Int) := by omega
      have hs1 := slice_toOA A1 l.length c1 k hkl hcap
      obtain ⟨A3, hs2, hr3⟩ := slice_fromO A1 l.length c1 k hkl hcap
      have HR3 := As.mk (fun w => hr3 w l rfl)
      clear hk hr3
      obtain ⟨n2, hn2⟩ : ∃ n2, n2 = l.length - k := ⟨_, rfl⟩
      obtain ⟨c2, hc2⟩ : ∃ c2, c2 = c1 - k := ⟨_, rfl⟩
      rw [← hn2, ← hc2] at hs2
      obtain ⟨l3, hl3'⟩ : ∃ l3, l3 = l.take k := ⟨_, rfl⟩
      obtain ⟨l4, hl4⟩ : ∃ l4, l4 = l.drop k := ⟨_, rfl⟩
      have HEL := As.mk (show en = cntL l by rw [HEN.out]; unfold counts; rw [if_pos HV.out])
      have HT := As.mk (show l3.length = k ∧ l4.length = n2 ∧ (∀ W, RdO W A1 l → RdO W A1 l3 ∧ RdO W A3 l4) ∧ (∀ c, cntC l c = cntC l3 c + cntC l4 c) ∧ vOps l3 = true ∧ vOps l4 = true by
        subst hl3' hl4
        refine ⟨by rw [List.length_take]; omega, by rw [List.length_drop, hn2], fun W h => ⟨rdO_take h k, HR3.out W h⟩, fun c => ?_, vOps_take HV.out k, vOps_drop HV.out k⟩
        rw [← cntC_app, List.take_append_drop])
      have HC3 := As.mk (show counts l3 = cntL l3 by unfold counts; rw [if_pos HT.out.2.2.2.2.1])
      have HC4 := As.mk (show counts l4 = cntL l4 by unfold counts; rw [if_pos HT.out.2.2.2.2.2])
      clear hn2 hc2 hl3' hl4
      go_upto_region 7 with (first | (go_at_call 30; refine (CountCodes_c _ _ _ _ _ HR.out rfl).mono ?_; rw [← HEN.out]; rintro e w2 ⟨A2, c2', rfl, hi, he, -⟩; have HEW := As.mk he; have HOUT := As.mk (rdA_J5 hi (by omega)); clear hi he) | (go_at_call 32; refine (sCountCodes_c _ _ _ _ _ (HR.out.ext HEW.out) rfl).mono ?_; rw [← HEN.out]; rintro e w3 ⟨A3', c3, rfl, hi, he, -⟩; have HEW := As.mk (HEW.out.trans he); have HOUT := As.mk (HOUT.out.ext he); have HSP := As.mk (rdA_J5 hi (by omega)); clear hi he) | (go_at_call 31; refine (equalInts_t _ _ _ _ _ _ en _ HOUT.out HSP.out rfl rfl).mono ?_; rintro e w4 ⟨rfl, he⟩; have HEW := As.mk (HEW.out.trans he); have HOUT := As.mk (HOUT.out.ext he); have HSP := As.mk (HSP.out.ext he); clear he))
      have hen20 : en.length = 20 := by rw [HEL.out]; exact cntL_len l
      have HEN20 := As.mk hen20
      clear hen20 hz
      go_upto_region 9 with (go_at_call 30; refine (CountCodes_c A1 c1 k l3 _ (HT.out.2.2.1 _ (HR.out.ext HEW.out)).1 HT.out.1).mono ?_; rw [HC3.out]; rintro e w5 ⟨A5, c5, rfl, hi, he, -⟩; have HEW5 := As.mk (HEW.out.trans he); have HOUT5 := As.mk (HOUT.out.ext he); have H5 := As.mk (rdA_J5 hi (by rw [cntL_len]; omega)); clear hi he)
      clear hs1
      go_upto_region 11 with (go_at_call 30; refine (CountCodes_c A3 c2 n2 l4 _ (HT.out.2.2.1 _ (HR.out.ext HEW5.out)).2 HT.out.2.1).mono ?_; rw [HC4.out]; rintro e w6 ⟨A6, c6, rfl, hi, he, -⟩; have HEW6 := As.mk (HEW5.out.trans he); have HOUT6 := As.mk (HOUT5.out.ext he); have H5 := As.mk (H5.out.ext he); have H6 := As.mk (rdA_J5 hi (by rw [cntL_len]; omega)); clear hi he)
      clear hs2
      have HO7 := As.mk (show RdI w6 A2 (cntL l) by rw [← HEL.out]; exact HOUT6.out)
      have hee : (en.length : Int) ≤ 20 ∧ (20 : Int) ≤ en.length := by have := HEN20.out; omega
      go_loopw [8] (fun i wr => ∃ j : Nat, j ≤ 20 ∧ i = .int .i64 j ∧ As (Ext w6 wr)) (fun i _ => 20 - (intOf i).toNat)
      case atStart => exact ⟨0, by omega, rfl, ⟨Ext.rf _⟩⟩
      case round =>
        obtain ⟨j, hj, rfl, he⟩ := hrel
        by_cases hlt : j < 20
        · obtain ⟨d5, rfl, x1⟩ := (H5.out.ext he.out).2 j (by rw [cntL_len]; exact hlt)
          obtain ⟨d6, rfl, x2⟩ := (H6.out.ext he.out).2 j (by rw [cntL_len]; exact hlt)
          obtain ⟨d7, rfl, x3⟩ := (HO7.out.ext he.out).2 j (by rw [cntL_len]; exact hlt)
          rw [cntL_get _ j hlt] at x1 x2 x3
          have hsum := HT.out.2.2.2.1 (j : Int)
          have hb5 := cntC_le l3 (j : Int)
          have hb6 := cntC_le l4 (j : Int)
          rw [HT.out.1] at hb5
          rw [HT.out.2.1] at hb6
          have hb7 := cntC_le l (j : Int)
          obtain ⟨q5, hq5⟩ : ∃ q, q = cntC l3 (j : Int) := ⟨_, rfl⟩
          obtain ⟨q6, hq6⟩ : ∃ q, q = cntC l4 (j : Int) := ⟨_, rfl⟩
          rw [← hq5] at x1 hb5
          rw [← hq6] at x2 hb6
          rw [← hq5, ← hq6] at hsum
          have HSUM := As.mk hsum
          rw [hsum] at x3 hb7
          have x3' : wr.cell? (d7.add j) = some (.int .i64 ((q5 : Int) + q6)) := by rw [x3]; congr 2
          have hwq : IntKind.i64.wrap ((q5 : Int) + q6) = (q5 : Int) + q6 := wrapQ _ (by omega) (by omega)
          have q1 : (j : Int) < en.length := by omega
          have q2 : (j : Int) < 20 := by omega
          have hL3 := cntL_len l3
          have hL4 := cntL_len l4
          have i3 : (j : Int) < (cntL l3).length := by rw [hL3]; omega
          have i4 : (j : Int) < (cntL l4).length := by rw [hL4]; omega
          clear hsum hq5 hq6 x3 hL3 hL4
          go_upto_region 13 with fail
          refine region_perm (fun w' => w'.cell? (d5.add j) = some (.int .i64 q5) ∧ w'.cell? (d6.add j) = some (.int .i64 q6) ∧ w'.cell? (d7.add j) = some (.int .i64 ((q5 : Int) + q6))) [] [(0, 0), (1, 0), (2, 0), (3, 1), (4, 0), (5, 0), (6, 0), (7, 1), (8, 0), (9, 0), (10, 0), (11, 0), (12, 1), (13, 0), (14, 0), (15, 0), (16, 0), (17, 0), (18, 1), (19, 0), (20, 0), (21, 2), (22, 0), (23, 0)] (by kernel_rfl) (by kernel_rfl) rfl (by kernel_rfl) (fun _ _ _ _ h => h) ?_
          have hS := And.intro x1 (And.intro x2 x3')
          repeat (first | refine wpP.c0 (h := ?_) | refine wpP.c1 (w := wr.drew) hS (h := ?_))
          refine wpP.ev (h := fun Kv hKv => ?_)
          have HED := As.mk (he.out.dr)
          have HDD := As.mk ((Ext.rf wr).dr)
          generalize wr.drew = wd at HED HDD ⊢
          go_wp2_with (go_at_call 28; refine (countOf_c _ _ l _ _ (HR.out.ext (HEW6.out.trans HED.out)) (by omega)).mono ?_; rw [HSUM.out]; rintro e w7 ⟨rfl, rfl⟩)
          refine hKv.out _ _ ⟨HDD.out.cellOf x1, HDD.out.cellOf x2, HDD.out.cellOf x3'⟩ ?_
          clear hKv Kv hS x1 x2 x3'
          repeat (first | refine wpP.c0 (h := ?_))
          refine wpP.done ?_
          go_wp2_with fail
          go_roundw
          case measure => simp only [intOf]; omega
          case rel => exact ⟨j + 1, by omega, by go_num, HED⟩
        · have q1 : ¬ (j : Int) < en.length := by omega
          have HRT := As.mk (HOUT6.out.ext he.out)
          have HSM := As.mk (show en.sum = (l.length : Int) by rw [HEL.out]; exact cntL_sum l (vOps_all HV.out).1)
          have HBN : As (∀ x ∈ en, 0 ≤ x ∧ x ≤ 1000) := ⟨fun x hx => by
            rw [HEL.out] at hx
            unfold cntL at hx
            obtain ⟨c, -, rfl⟩ := List.mem_map.1 hx
            have := cntC_le l (c : Int)
            omega⟩
          go_wp2_with (go_at_call 33; refine (total_c _ _ _ en _ HRT.out rfl (by have := HEN20.out; omega) HBN.out).mono ?_; rw [HSM.out]; rintro e w7 ⟨rfl, rfl⟩)
          go_ret
          exact ⟨by simp, HE.out.trans (HEW6.out.trans he.out)⟩
end Go.Proofs.Ytgenllcfpjgklaa.C
