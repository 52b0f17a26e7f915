/- Bytes of programs, joined; the law walked. -/
import Derived.Test.YtgenllcfpjgklaaDn
set_option linter.unusedVariables false
set_option linter.unusedSimpArgs false
namespace Go.Proofs.Ytgenllcfpjgklaa.P
theorem encP_app (a b : List Opr) : encP (a ++ b) = encP a ++ encP b := by simp [encP]
theorem encode_y {l : List Opr} (h : vOps l = true) : encode l = encP l := by unfold encode; rw [if_pos h]
theorem encode_n {l : List Opr} (h : vOps l = false) : encode l = [] := by unfold encode; rw [if_neg (by rw [h]; decide)]
theorem encP_pos (o : Opr) (l : List Opr) : 0 < (encP (o :: l)).length := by
  have h := (encB_len o).1
  have e : encP (o :: l) = encB o ++ encP l := by simp [encP]
  rw [e, List.length_append]; omega
end Go.Proofs.Ytgenllcfpjgklaa.P
namespace Go.Proofs.Ytgenllcfpjgklaa.C
open Go.RowKit Go.Proofs.Ytgenllcfpjgklaa.W Go.Proofs.Ytgenllcfpjgklaa.P

theorem equalInts_t (A B : Option Addr) (cA cB n m : Nat) (l : List Int) (w : World) (hA : RdI w A l) (hB : RdI w B l) (hn : l.length = n) (hm : l.length = m) :
    Calls Try.prog 31 #[.slice A n cA, .slice B m cB] w fun e w' => e = .returned (.bool true) ∧ Ext w w' := by
  subst hn hm
  have hlen := hA.1
  have HA := As.mk hA
  have HB := As.mk hB
  clear hA hB
  go_enter Try.func31, Try.ntmps31
  go_upto_region 4 with fail
  go_loopw [5] (fun i wr => ∃ k : Nat, k ≤ l.length ∧ i = .int .i64 k ∧ As (Ext w wr)) (fun i _ => l.length - (intOf i).toNat)
  case atStart => exact ⟨0, Nat.zero_le _, rfl, ⟨Ext.rf _⟩⟩
  case round =>
    obtain ⟨k, hk, rfl, he⟩ := hrel
    by_cases hlt : k < l.length
    · obtain ⟨ad, rfl, h1⟩ := (HA.out.ext he.out).2 k hlt
      obtain ⟨ad', rfl, h2⟩ := (HB.out.ext he.out).2 k hlt
      generalize l[k] = x at h1 h2
      have q1 : (k : Int) < l.length := by omega
      go_upto_region 6 with fail
      go_quiet (fail)
      go_wp2_with fail
      go_roundw
      case measure => simp only [intOf]; omega
      case rel => exact ⟨k + 1, by omega, by go_num, ⟨he.out.dN _⟩⟩
    · have q1 : ¬ (k : Int) < l.length := by omega
      go_wp2_with fail
      go_ret
      exact ⟨rfl, he.out⟩
set_option maxRecDepth 100000 in
theorem join_c (A B : Option Addr) (cA cB : Nat) (a b : List Int) (w : World) (hA : RdI w A a) (hB : RdI w B b) (hl : a.length + b.length ≤ 1000000) :
    Calls Try.prog 44 #[.slice A a.length cA, .slice B b.length cB] w (ClonePost (a ++ b) w) := by
  have HA := As.mk hA
  have HB := As.mk hB
  clear hA hB
  go_enter Try.func44, Try.ntmps44
  have HL := As.mk (EnR.lit w)
  go_wp2_with (first | (at_builtin; refine app_intsA rfl _ _ rfl (.slice (some ⟨w.heap.size, 0, none⟩) 0 0) [] A a.length cA a rfl rfl rfl (HA.out.ext ((Ext.rf w).al _)) HL.out.r (by simp) ?_; intro A1 c1 w1 hap; have HEN1 := As.mk (HL.out.apps hap); simp only [List.nil_append] at HEN1; clear hap) | (at_builtin; refine app_intsA rfl _ _ rfl (.slice A1 a.length c1) a B b.length cB b rfl rfl rfl (HB.out.ext HEN1.out.e) HEN1.out.r (by omega) ?_; intro A2 c2 w2 hap; have HEN2 := As.mk (HEN1.out.apps hap); clear hap))
  go_ret
  have h := HEN2.out.out
  rw [List.length_append] at h
  exact h
theorem EncodeOps_k (A : Option Addr) (c n : Nat) (l : List Opr) (w : World) (hr : RdO w A l) (hn : l.length = n) : Calls Try.prog 42 #[.slice A n c] w (ClonePost (encode l) w) := by
  subst hn; exact EncodeOps_c A c l w hr
theorem join_k (A B : Option Addr) (cA cB n m : Nat) (a b : List Int) (w : World) (hA : RdI w A a) (hB : RdI w B b) (hl : a.length + b.length ≤ 1000000) (hn : a.length = n) (hm : b.length = m) :
    Calls Try.prog 44 #[.slice A n cA, .slice B m cB] w (ClonePost (a ++ b) w) := by
  subst hn hm; exact join_c A B cA cB a b w hA hB hl
set_option maxRecDepth 100000 in
set_option maxHeartbeats 1000000 in
theorem FnEncodeOpsJoin_c (A : Option Addr) (c : Nat) (bs : List Int) (w : World) (hb : GivB w A bs) (hc : bs.length ≤ c) : Calls Try.prog 10 #[.slice A bs.length c] w (True_ w) := by
  have hbl := hb.1
  have HB := As.mk hb
  clear hb
  by_cases hlen : (1048576 : Int) < bs.length
  · go_enter Try.func10, Try.ntmps10
    go_wp2_with fail
    go_ret
    exact ⟨rfl, Ext.rf _⟩
  · go_enter Try.func10, Try.ntmps10
    go_upto_region 4 with (go_at_call 41; refine (DrawEncodeOps_c _ _ bs _ HB.out hc).mono ?_; rintro e w1 ⟨A1, c1, l, rfl, ho, he, hl⟩; have HO := As.mk ho; have HE := As.mk he; have hcap := (ho.cap rfl).1; clear ho he)
    have hl' := hl.out
    have HR := As.mk (rdA_O HO.out (by omega))
    obtain ⟨en, hen⟩ : ∃ en, en = encode l := ⟨_, rfl⟩
    have hel : en.length ≤ 90000 := by
      rw [hen]; unfold encode
      split
      · have := encP_len l; omega
      · simp
    have HEN := As.mk hen
    clear hen
    by_cases hz : (en.length : Int) = 0
    · go_wp2_with (first | (go_at_call 42; refine (EncodeOps_c _ _ _ _ HR.out).mono ?_; rw [← HEN.out]; rintro e w2 ⟨A2, c2, rfl, hi, he, -⟩; have HEW := As.mk he; have HOUT := As.mk (rdA_J5 hi (by omega)); clear hi he) | (go_at_call 43; refine (sEncodeOps_c _ _ _ _ (HR.out.ext HEW.out)).mono ?_; rw [← HEN.out]; rintro e w3 ⟨A3, c3, rfl, hi, he, -⟩; have HEW := As.mk (HEW.out.trans he); have HOUT := As.mk (HOUT.out.ext he); have HSP := As.mk (rdA_J5 hi (by omega)); clear hi he) | (go_at_call 31; refine (equalInts_t _ _ _ _ _ _ en _ HOUT.out HSP.out rfl rfl).mono ?_; rintro e w4 ⟨rfl, he⟩; have HEW := As.mk (HEW.out.trans he); have HOUT := As.mk (HOUT.out.ext he); have HSP := As.mk (HSP.out.ext he); clear he))
      go_ret
      exact ⟨rfl, HE.out.trans HEW.out⟩
    · have hv : vOps l = true := by
        cases h : vOps l with
        | true => rfl
        | false =>
          exfalso
          apply hz
          rw [HEN.out, encode_n h]; rfl
      have HV := As.mk hv
      have hl3 := (vOps_all hv).2
      clear hv
      obtain ⟨k, hk⟩ : ∃ k, k = l.length / 2 := ⟨_, rfl⟩
      have hkl : k ≤ l.length := by omega
      have hdiv : (l.length : Int) / 2 = (k : Int) := by omega
      have hs1 := slice_toOA A1 l.length c1 k hkl hcap
      obtain ⟨A3, hs2, hr3⟩ := slice_fromO A1 l.length c1 k hkl hcap
      have HR3 := As.mk (fun w => hr3 w l rfl)
      clear hk hr3
      obtain ⟨n2, hn2⟩ : ∃ n2, n2 = l.length - k := ⟨_, rfl⟩
      obtain ⟨c2, hc2⟩ : ∃ c2, c2 = c1 - k := ⟨_, rfl⟩
      rw [← hn2, ← hc2] at hs2
      obtain ⟨l3, hl3'⟩ : ∃ l3, l3 = l.take k := ⟨_, rfl⟩
      obtain ⟨l4, hl4⟩ : ∃ l4, l4 = l.drop k := ⟨_, rfl⟩
      obtain ⟨e3, he3⟩ : ∃ e3, e3 = encode l3 := ⟨_, rfl⟩
      obtain ⟨e4, he4⟩ : ∃ e4, e4 = encode l4 := ⟨_, rfl⟩
      have HT := As.mk (show l3.length = k ∧ l4.length = n2 ∧ (∀ W, RdO W A1 l → RdO W A1 l3 ∧ RdO W A3 l4) ∧ e3 ++ e4 = en by
        subst hl3' hl4
        refine ⟨by rw [List.length_take]; omega, by rw [List.length_drop, hn2], fun W h => ⟨rdO_take h k, HR3.out W h⟩, ?_⟩
        rw [he3, he4, HEN.out, encode_y (vOps_take HV.out k), encode_y (vOps_drop HV.out k), encode_y HV.out, ← encP_app, List.take_append_drop])
      have hee : e3.length + e4.length ≤ 90000 := by rw [← List.length_append, HT.out.2.2.2]; exact hel
      have HE3 := As.mk he3
      have HE4 := As.mk he4
      have HSZ := As.mk (show sizeP l = (en.length : Int) by unfold sizeP; rw [if_pos HV.out, HEN.out, encode_y HV.out])
      clear hn2 hc2 hl3' hl4 he3 he4
      go_upto_region 7 with (first | (go_at_call 42; refine (EncodeOps_c _ _ _ _ HR.out).mono ?_; rw [← HEN.out]; rintro e w2 ⟨A2, c2', rfl, hi, he, -⟩; have HEW := As.mk he; have HOUT := As.mk (rdA_J5 hi (by omega)); clear hi he) | (go_at_call 43; refine (sEncodeOps_c _ _ _ _ (HR.out.ext HEW.out)).mono ?_; rw [← HEN.out]; rintro e w3 ⟨A3', c3, rfl, hi, he, -⟩; have HEW := As.mk (HEW.out.trans he); have HOUT := As.mk (HOUT.out.ext he); have HSP := As.mk (rdA_J5 hi (by omega)); clear hi he) | (go_at_call 31; refine (equalInts_t _ _ _ _ _ _ en _ HOUT.out HSP.out rfl rfl).mono ?_; rintro e w4 ⟨rfl, he⟩; have HEW := As.mk (HEW.out.trans he); have HOUT := As.mk (HOUT.out.ext he); have HSP := As.mk (HSP.out.ext he); clear he))
      go_upto_region 8 with fail
      refine region_perm (fun _ => True) [] [(0, 0), (1, 0), (2, 0), (4, 0), (5, 0), (6, 0), (9, 0), (3, 2), (7, 2), (8, 2), (10, 2), (11, 0), (12, 0), (14, 0), (15, 0), (13, 2), (16, 0), (17, 0), (18, 0)] (by kernel_rfl) (by kernel_rfl) rfl (by kernel_rfl) (fun _ _ _ _ h => h) ?_
      repeat (first | refine wpP.c0 (h := ?_))
      refine wpP.ev (h := fun Kv hKv => ?_)
      have HEW := As.mk (HEW.out.dr)
      have HOUT := As.mk (HOUT.out.ext ((Ext.rf _).dr))
      generalize w4.drew = wd at HEW HOUT ⊢
      go_wp2_with (go_at_call 42; refine (EncodeOps_k A1 c1 k l3 _ (HT.out.2.2.1 _ (HR.out.ext HEW.out)).1 HT.out.1).mono ?_; rw [← HE3.out]; rintro e w5 ⟨A5, c5, rfl, hi, he, -⟩; have HEW5 := As.mk (HEW.out.trans he); have HOUT5 := As.mk (HOUT.out.ext he); have H5 := As.mk (rdA_J5 hi (by omega)); clear hi he)
      refine hKv.out _ _ trivial ?_
      clear hKv Kv
      refine wpP.ev (h := fun Kv hKv => ?_)
      go_wp2_with (go_at_call 42; refine (EncodeOps_k A3 c2 n2 l4 _ (HT.out.2.2.1 _ (HR.out.ext HEW5.out)).2 HT.out.2.1).mono ?_; rw [← HE4.out]; rintro e w6 ⟨A6, c6, rfl, hi, he, -⟩; have HEW6 := As.mk (HEW5.out.trans he); have HOUT6 := As.mk (HOUT5.out.ext he); have H5 := As.mk (H5.out.ext he); have H6 := As.mk (rdA_J5 hi (by omega)); clear hi he)
      refine hKv.out _ _ trivial ?_
      clear hKv Kv
      refine wpP.ev (h := fun Kv hKv => ?_)
      go_wp2_with (go_at_call 44; refine (join_k A5 A6 c5 c6 _ _ e3 e4 _ H5.out H6.out (by omega) rfl rfl).mono ?_; rw [HT.out.2.2.2]; rintro e w7 ⟨A7, c7, rfl, hi, he, -⟩; have HEW7 := As.mk (HEW6.out.trans he); have HOUT7 := As.mk (HOUT6.out.ext he); have H7 := As.mk (rdA_J5 hi (by omega)); clear hi he)
      refine hKv.out _ _ trivial ?_
      clear hKv Kv
      refine wpP.ev (h := fun Kv hKv => ?_)
      go_wp2_with (go_at_call 31; refine (equalInts_t _ _ _ _ _ _ en _ H7.out HOUT7.out rfl rfl).mono ?_; rintro e w8 ⟨rfl, he⟩; have HEW8 := As.mk (HEW7.out.trans he); clear he)
      refine hKv.out _ _ trivial ?_
      clear hKv Kv
      repeat (first | refine wpP.c0 (h := ?_))
      refine wpP.ev (h := fun Kv hKv => ?_)
      go_wp2_with (go_at_call 35; refine (SizeOf_c _ _ _ l _ (HR.out.ext HEW8.out) rfl).mono ?_; rw [HSZ.out]; rintro e w9 ⟨rfl, he⟩; have HEW9 := As.mk (HEW8.out.trans he); clear he)
      refine hKv.out _ _ trivial ?_
      clear hKv Kv
      repeat (first | refine wpP.c0 (h := ?_))
      refine wpP.done ?_
      go_wp2_with fail
      go_ret
      exact ⟨by simp, HE.out.trans HEW9.out⟩
end Go.Proofs.Ytgenllcfpjgklaa.C
