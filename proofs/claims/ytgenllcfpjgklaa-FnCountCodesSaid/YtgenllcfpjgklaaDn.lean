/- The law of sizes, walked. -/
import Derived.Test.YtgenllcfpjgklaaDm
set_option linter.unusedVariables false
set_option linter.unusedSimpArgs false
namespace Go.Proofs.Ytgenllcfpjgklaa.C
open Go.RowKit Go.Proofs.Ytgenllcfpjgklaa.W Go.Proofs.Ytgenllcfpjgklaa.P

theorem sizeP_one {l : List Opr} (h : vOps l = true) (k : Nat) (hk : k < l.length) : sizeP ((l.drop k).take 1) = ((encB l[k]).length : Int) ∧ ((l.drop k).take 1).length = 1 := by
  have e : (l.drop k).take 1 = [l[k]] := by
    rw [List.drop_eq_getElem_cons hk]
    rfl
  have hok := List.all_eq_true.1 (vOps_all h).1 l[k] (List.getElem_mem hk)
  rw [e]
  refine ⟨?_, rfl⟩
  have hv : vOps [l[k]] = true := by unfold vOps; simp [hok]
  unfold sizeP
  rw [if_pos hv]
  simp [encP]
theorem slice_lhO (A : Option Addr) (n c i q : Nat) (h : i + q ≤ n) (hc : n ≤ c) :
    ∃ A' : Option Addr, (∀ W : World, (Instr.slice 30 (.slice A n c) (some (.int .i64 (i : Int))) (some (.int .i64 ((i : Int) + q))) none).run Try.prog W = .ok (.slice A' q (c - i)) W) ∧ (∀ (w : World) (l : List Opr), l.length = n → RdO w A l → RdO w A' ((l.drop i).take q)) := by
  refine ⟨if c = i then A else A.map (·.add (i * 2)), fun W => ?_, fun w l hl hr => ⟨by have := hr.1; simp; omega, fun k hk => ?_⟩⟩
  · have ht : Try.prog.underlying 30 = some (.slice 52) := by kernel_rfl
    obtain ⟨inf, hi, hsz⟩ := Option.map_eq_some_iff.1 infoOb
    have hel : Try.prog.elem 30 = 52 := by simp [Program.elem, ht]
    have hu : Try.prog.underlying 30 = some (.slice (Try.prog.elem 30)) := by rw [hel]; exact ht
    rw [run_slice_lh W 30 A n c hu .i64 .i64 (i : Int) ((i : Int) + q) (by omega) (by omega) (by omega), hel]
    simp only [sizeOf, typeInfo, hi, hsz, sliced, Result.andThen, Int.toNat_natCast, show ((i : Int) + q).toNat = i + q by omega, show i + q - i = q by omega, Sem.run_bind]
    simp [Result.andThen, hi, hsz]
  · simp only [List.length_take, List.length_drop] at hk
    obtain ⟨ad, ha, h1, h2⟩ := hr.2 (i + k) (by omega)
    rw [if_neg (by omega)]
    have e : (ad.add (i * 2)).add (k * 2) = ad.add ((i + k) * 2) := by rw [add_add]; congr 1; omega
    refine ⟨ad.add (i * 2), by rw [ha]; rfl, ?_, ?_⟩
    · rw [e, h1]; simp
    · rw [e, h2]; simp
set_option maxRecDepth 100000 in
set_option maxHeartbeats 1000000 in
theorem FnSizeOf_c (A : Option Addr) (c : Nat) (bs : List Int) (w : World) (hb : GivB w A bs) (hc : bs.length ≤ c) : Calls Try.prog 8 #[.slice A bs.length c] w (True_ w) := by
  have hbl := hb.1
  have HB := As.mk hb
  clear hb
  by_cases hlen : (1048576 : Int) < bs.length
  · go_enter Try.func8, Try.ntmps8
    go_wp2_with fail
    go_ret
    exact ⟨rfl, Ext.rf _⟩
  · go_enter Try.func8, Try.ntmps8
    go_upto_region 4 with (go_at_call 34; refine (DrawSizeOf_c _ _ bs _ HB.out hc).mono ?_; rintro e w1 ⟨A1, c1, l, rfl, ho, he, hl⟩; have HO := As.mk ho; have HE := As.mk he; have hcap := (ho.cap rfl).1; clear ho he)
    have hl' := hl.out
    have HR := As.mk (rdA_O HO.out (by omega))
    obtain ⟨b, hb⟩ : ∃ b, b = vOps l := ⟨_, rfl⟩
    have HV := As.mk hb
    clear hb
    obtain ⟨z, hz⟩ : ∃ z, z = sizeP l := ⟨_, rfl⟩
    have HZ := As.mk hz
    clear hz
    cases b with
    | false =>
      have hz : z < 0 := by rw [HZ.out]; unfold sizeP; rw [← HV.out, if_neg (by decide)]; decide
      go_wp2_with (first | (go_at_call 35; refine (SizeOf_c _ _ _ _ _ HR.out rfl).mono ?_; rw [← HZ.out]; rintro e w2 ⟨rfl, he⟩; have HE2 := As.mk he; clear he) | (go_at_call 36; refine (sSizeOf_c _ _ _ _ (HR.out.ext HE2.out)).mono ?_; rw [← HZ.out]; rintro e w3 ⟨rfl, he⟩; have HE2 := As.mk (HE2.out.trans he); clear he))
      go_ret
      exact ⟨by simp, HE.out.trans HE2.out⟩
    | true =>
      have hl3 := (vOps_all HV.out.symm).2
      have HZE := As.mk (show z = ((encP l).length : Int) by rw [HZ.out]; unfold sizeP; rw [← HV.out]; rfl)
      have hz0 : 0 ≤ z := by rw [HZE.out]; omega
      have hz1 : z ≤ 900 := by rw [HZE.out]; have := encP_len l; omega
      go_upto_region 7 with (first | (go_at_call 35; refine (SizeOf_c _ _ _ _ _ HR.out rfl).mono ?_; rw [← HZ.out]; rintro e w2 ⟨rfl, he⟩; have HE2 := As.mk he; clear he) | (go_at_call 36; refine (sSizeOf_c _ _ _ _ (HR.out.ext HE2.out)).mono ?_; rw [← HZ.out]; rintro e w3 ⟨rfl, he⟩; have HE3 := As.mk (HE2.out.trans he); clear he))
      go_upto_region 9 with fail
      go_loopw [5, 6] (fun s i wr => ∃ k q : Nat, k ≤ l.length ∧ q ≤ 3 * k ∧ i = .int .i64 k ∧ s = .int .i64 q ∧ As (q = (encP (l.take k)).length) ∧ As (Ext w1 wr)) (fun _ i _ => l.length - (intOf i).toNat)
      case atStart => exact ⟨0, 0, Nat.zero_le _, Nat.zero_le _, rfl, rfl, ⟨rfl⟩, HE3⟩
      case round =>
        obtain ⟨k, q, hk, hq, rfl, rfl, hqe, he⟩ := hrel
        by_cases hlt : k < l.length
        · have q1 : (k : Int) < l.length := by omega
          obtain ⟨A2, s1, s2⟩ := slice_lhO A1 l.length c1 k 1 (by omega) hcap
          have s1' : ∀ W : World, (Instr.slice 30 (.slice A1 l.length c1) (some (.int .i64 (k : Int))) (some (.int .i64 ((k : Int) + 1))) none).run Try.prog W = .ok (.slice A2 1 (c1 - k)) W := s1
          obtain ⟨c2, hc2⟩ : ∃ c2, c2 = c1 - k := ⟨_, rfl⟩
          rw [← hc2] at s1'
          have hw1 : IntKind.i64.wrap ((k : Int) + 1) = (k : Int) + 1 := wrapQ _ (by omega) (by omega)
          obtain ⟨l2, hl2⟩ : ∃ l2, l2 = (l.drop k).take 1 := ⟨_, rfl⟩
          have HRD := As.mk (s2 _ l rfl (HR.out.ext he.out))
          have HONE := As.mk (sizeP_one HV.out.symm k hlt)
          rw [← hl2] at HRD HONE
          obtain ⟨t, ht⟩ : ∃ t, t = (encB l[k]).length := ⟨_, rfl⟩
          have htt := encB_len l[k]
          have HSU := As.mk (encP_succ l k hlt)
          have HT := As.mk ht
          rw [← ht] at HONE htt
          have hw2 : IntKind.i64.wrap ((q : Int) + t) = (q : Int) + t := wrapQ _ (by omega) (by omega)
          clear s1 s2 hc2 hl2 ht
          obtain ⟨ht1, ht2⟩ := htt
          go_wp2_with (go_at_call 35; refine (SizeOf_c _ _ _ l2 _ HRD.out HONE.out.2).mono ?_; rw [HONE.out.1]; rintro e w4 ⟨rfl, hx⟩; have HE4 := As.mk (he.out.trans hx); clear hx)
          have HN : As (q + t = (encP (l.take (k + 1))).length) := ⟨by rw [HSU.out, List.length_append, ← hqe.out, ← HT.out]⟩
          go_roundw
          case measure => simp only [intOf]; omega
          case rel => exact ⟨k + 1, q + t, by omega, by omega, by go_num, by go_num, HN, HE4⟩
        · have HN : As (q = (encP l).length) := ⟨by rw [hqe.out, List.take_of_length_le (by omega)]⟩
          have HQZ : As ((q : Int) = z) := ⟨by rw [HN.out, HZE.out]⟩
          have q1 : ¬ (k : Int) < l.length := by omega
          go_wp2_with fail
          go_ret
          refine ⟨?_, HE.out.trans he.out⟩
          show Ending.returned (.bool ((q : Int) == z)) = _
          rw [HQZ.out, beq_self_eq_true]
end Go.Proofs.Ytgenllcfpjgklaa.C
