/- The laws of valid and of short programs, walked. -/
import Derived.Test.YtgenllcfpjgklaaQv
import Derived.Test.YtgenllcfpjgklaaSa
set_option linter.unusedVariables false
set_option linter.unusedSimpArgs false
namespace Go.Proofs.Ytgenllcfpjgklaa.P
theorem vOps_take {l : List Opr} (h : vOps l = true) (k : Nat) : vOps (l.take k) = true := by
  simp only [vOps, Bool.and_eq_true, decide_eq_true_eq, List.all_eq_true] at h ⊢
  exact ⟨fun x hx => h.1 x (List.mem_of_mem_take hx), by rw [List.length_take]; omega⟩
theorem vOps_drop {l : List Opr} (h : vOps l = true) (k : Nat) : vOps (l.drop k) = true := by
  simp only [vOps, Bool.and_eq_true, decide_eq_true_eq, List.all_eq_true] at h ⊢
  exact ⟨fun x hx => h.1 x (List.mem_of_mem_drop hx), by rw [List.length_drop]; omega⟩
end Go.Proofs.Ytgenllcfpjgklaa.P
namespace Go.Proofs.Ytgenllcfpjgklaa.C
open Go.RowKit Go.Proofs.Ytgenllcfpjgklaa.W Go.Proofs.Ytgenllcfpjgklaa.P

theorem slice_fromO (A : Option Addr) (n c k : Nat) (hk : k ≤ n) (hc : n ≤ c) :
    ∃ A' : Option Addr, (∀ W : World, (Instr.slice 30 (.slice A n c) (some (.int .i64 (k : Int))) none none).run Try.prog W = .ok (.slice A' (n - k) (c - k)) W) ∧ (∀ (w : World) (l : List Opr), l.length = n → RdO w A l → RdO w A' (l.drop k)) := by
  refine ⟨if c = k then A else A.map (·.add (k * 2)), fun W => ?_, fun w l hl hr => ⟨by have := hr.1; simp; omega, fun j hj => ?_⟩⟩
  · have ht : Try.prog.underlying 30 = some (.slice 52) := by kernel_rfl
    obtain ⟨inf, hi, hsz⟩ := Option.map_eq_some_iff.1 infoOb
    have hel : Try.prog.elem 30 = 52 := by simp [Program.elem, ht]
    have hu : Try.prog.underlying 30 = some (.slice (Try.prog.elem 30)) := by rw [hel]; exact ht
    rw [run_slice_l W 30 A n c hu .i64 (k : Int) (by omega) (by omega), hel]
    simp [sizeOf, typeInfo, hi, hsz, sliced, Result.andThen]
  · rw [List.length_drop] at hj
    obtain ⟨ad, ha, h1, h2⟩ := hr.2 (k + j) (by omega)
    rw [if_neg (by omega)]
    have e : (ad.add (k * 2)).add (j * 2) = ad.add ((k + j) * 2) := by rw [add_add]; congr 1; omega
    refine ⟨ad.add (k * 2), by rw [ha]; rfl, ?_, ?_⟩
    · rw [e, h1]; simp
    · rw [e, h2]; simp
theorem sValidOps_c (A : Option Addr) (c : Nat) (l : List Opr) (w : World) (hr : RdO w A l) : Calls Try.prog 21 #[.slice A l.length c] w fun e w' => e = .returned (.bool (vOps l)) ∧ Ext w w' := by
  have HR := As.mk hr
  clear hr
  go_enter Try.func21, Try.ntmps21
  go_wp2_with (go_at_call 72; refine (validOps_c _ _ _ _ HR.out).mono ?_; rintro e w1 ⟨rfl, he⟩; have HE := As.mk he; clear he)
  go_ret
  exact ⟨rfl, HE.out⟩
theorem ValidOps_k (A : Option Addr) (c n : Nat) (l : List Opr) (w : World) (hr : RdO w A l) (hn : l.length = n) : Calls Try.prog 20 #[.slice A n c] w fun e w' => e = .returned (.bool (vOps l)) ∧ Ext w w' := by
  subst hn; exact ValidOps_c A c l w hr
/-- What a law shows. -/
def True_ (w : World) (e : Ending) (w' : World) : Prop := e = .returned (.bool true) ∧ Ext w w'
set_option maxRecDepth 100000 in
theorem FnValidOps_c (A : Option Addr) (c : Nat) (bs : List Int) (w : World) (hb : GivB w A bs) (hc : bs.length ≤ c) : Calls Try.prog 4 #[.slice A bs.length c] w (True_ w) := by
  have hbl := hb.1
  have HB := As.mk hb
  clear hb
  by_cases hlen : (1048576 : Int) < bs.length
  · go_enter Try.func4, Try.ntmps4
    go_wp2_with fail
    go_ret
    exact ⟨rfl, Ext.rf _⟩
  · go_enter Try.func4, Try.ntmps4
    go_upto_region 4 with (go_at_call 19; refine (DrawValidOps_c _ _ bs _ HB.out hc).mono ?_; rintro e w1 ⟨A1, c1, l, rfl, ho, he, hl⟩; have HO := As.mk ho; have HE := As.mk he; have hcap := (ho.cap rfl).1; clear ho he)
    have hl' := hl.out
    have HR := As.mk (rdA_O HO.out (by omega))
    obtain ⟨b, hb⟩ : ∃ b, b = vOps l := ⟨_, rfl⟩
    have HV := As.mk hb
    clear hb
    obtain ⟨k, hk⟩ : ∃ k, k = l.length / 2 := ⟨_, rfl⟩
    have hkl : k ≤ l.length := by omega
    have HK := As.mk hk
    have hdiv : (l.length : Int) / 2 = (k : Int) := by omega
    have hs1 := slice_toOA A1 l.length c1 k hkl hcap
    obtain ⟨A3, hs2, hr3⟩ := slice_fromO A1 l.length c1 k hkl hcap
    have HR3 := As.mk (fun w => hr3 w l rfl)
    clear hk hr3
    obtain ⟨n2, hn2⟩ : ∃ n2, n2 = l.length - k := ⟨_, rfl⟩
    obtain ⟨c2, hc2⟩ : ∃ c2, c2 = c1 - k := ⟨_, rfl⟩
    rw [← hn2, ← hc2] at hs2
    obtain ⟨l3, hl3⟩ : ∃ l3, l3 = l.take k := ⟨_, rfl⟩
    obtain ⟨l4, hl4⟩ : ∃ l4, l4 = l.drop k := ⟨_, rfl⟩
    have HT := As.mk (show l3.length = k ∧ l4.length = n2 ∧ (∀ W, RdO W A1 l → RdO W A1 l3 ∧ RdO W A3 l4) ∧ (vOps l = true → vOps l3 = true ∧ vOps l4 = true) by
      subst hl3 hl4
      exact ⟨by rw [List.length_take]; omega, by rw [List.length_drop, hn2], fun W h => ⟨rdO_take h k, HR3.out W h⟩, fun h => ⟨vOps_take h k, vOps_drop h k⟩⟩)
    clear hn2 hc2 hl3 hl4
    cases b with
    | false =>
      go_wp2_with (first | (go_at_call 20; refine (ValidOps_c _ _ _ _ HR.out).mono ?_; rw [← HV.out]; rintro e w2 ⟨rfl, he⟩; have HE2 := As.mk he; clear he) | (go_at_call 21; refine (sValidOps_c _ _ _ _ (HR.out.ext HE2.out)).mono ?_; rw [← HV.out]; rintro e w3 ⟨rfl, he⟩; have HE2 := As.mk (HE2.out.trans he); clear he))
      go_ret
      exact ⟨rfl, HE.out.trans HE2.out⟩
    | true =>
      go_upto_region 7 with (first | (go_at_call 20; refine (ValidOps_c _ _ _ _ HR.out).mono ?_; rw [← HV.out]; rintro e w2 ⟨rfl, he⟩; have HE2 := As.mk he; clear he) | (go_at_call 21; refine (sValidOps_c _ _ _ _ (HR.out.ext HE2.out)).mono ?_; rw [← HV.out]; rintro e w3 ⟨rfl, he⟩; have HE3 := As.mk (HE2.out.trans he); clear he))
      have ONCE := As.mk True.intro
      go_wp2_with (first | (go_at_call 20; have hq := ONCE; clear hq ONCE; refine (ValidOps_k A1 c1 k l3 _ (HT.out.2.2.1 _ (HR.out.ext HE3.out)).1 HT.out.1).mono ?_; rw [(HT.out.2.2.2 HV.out.symm).1]; rintro e w4 ⟨rfl, he⟩; have HE4 := As.mk (HE3.out.trans he); clear he) | (go_at_call 20; refine (ValidOps_k A3 c2 n2 l4 _ (HT.out.2.2.1 _ (HR.out.ext HE4.out)).2 HT.out.2.1).mono ?_; rw [(HT.out.2.2.2 HV.out.symm).2]; rintro e w5 ⟨rfl, he⟩; have HE5 := As.mk (HE4.out.trans he); clear he))
      go_ret
      exact ⟨rfl, HE.out.trans HE5.out⟩
end Go.Proofs.Ytgenllcfpjgklaa.C
