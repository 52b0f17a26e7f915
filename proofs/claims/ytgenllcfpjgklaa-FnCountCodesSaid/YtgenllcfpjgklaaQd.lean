/- Validity of graphs, as the reference checks it: nodes. -/
import Derived.Test.YtgenllcfpjgklaaQc
set_option linter.unusedVariables false
set_option linter.unusedSimpArgs false
namespace Go.Proofs.Ytgenllcfpjgklaa.C
open Go.RowKit Go.Proofs.Ytgenllcfpjgklaa.W Go.Proofs.Ytgenllcfpjgklaa.P

theorem len0 (n : Nat) : ((n : Int) == 0) = (n == 0) := by rw [Bool.eq_iff_iff]; simp only [beq_iff_eq]; omega
set_option maxRecDepth 100000 in
set_option maxHeartbeats 4000000 in
theorem validNode_c (A : Option Addr) (cA : Nat) (ns : List Nd) (r : Int) (K : Option Addr) (cK : Nat) (kids : List Int) (kd vl : Int) (w : World) (hN : RdN w A ns) (hK : RdI w K kids) :
    Calls Try.prog 143 #[.agg #[.slice A ns.length cA, .int .i64 r], .agg #[.int .i64 kd, .int .i64 vl, .slice K kids.length cK]] w fun e w' => e = .returned (.bool (nodeB ns ⟨kd, vl, kids⟩)) ∧ Ext w w' := by
  have hx : Ext w ((w.alloc (.cells #[.slice A ns.length cA, .int .i64 r] 105)).alloc (.cells #[.int .i64 kd, .int .i64 vl, .slice K kids.length cK] 73)) := ((Ext.rf w).al _).al _
  have ha : GB ((w.alloc (.cells #[.slice A ns.length cA, .int .i64 r] 105)).alloc (.cells #[.int .i64 kd, .int .i64 vl, .slice K kids.length cK] 73)) w.heap.size (.slice A ns.length cA) (.int .i64 r) := ((Ext.rf _).al _).blk (al_new w _)
  have hb : NB ((w.alloc (.cells #[.slice A ns.length cA, .int .i64 r] 105)).alloc (.cells #[.int .i64 kd, .int .i64 vl, .slice K kids.length cK] 73)) (w.heap.size + 1) (.int .i64 kd) (.int .i64 vl) (.slice K kids.length cK) := by have := al_new (w.alloc (.cells #[.slice A ns.length cA, .int .i64 r] 105)) (.cells #[.int .i64 kd, .int .i64 vl, .slice K kids.length cK] 73); rw [al_size] at this; exact this
  have hkl := hK.1
  have hnl := hN.1
  have HX := As.mk hx
  have HN := As.mk (hN.ext hx)
  have HK := As.mk (hK.ext hx)
  have HA := As.mk ha
  have HB := As.mk hb
  clear hN hK hx ha hb
  go_enter Try.func143, Try.ntmps143
  go_upto_region 1 with fail
  generalize (w.alloc (.cells #[.slice A ns.length cA, .int .i64 r] 105)).alloc (.cells #[.int .i64 kd, .int .i64 vl, .slice K kids.length cK] 73) = w0 at HX HA HB HN HK ⊢
  generalize w.heap.size = g at HA HB ⊢
  have c0 := gb_c0 HA.out; have c1 := gb_c1 HA.out
  have n0 := NB.c0 HB.out; have n1 := NB.c1 HB.out; have n2 := NB.c2 HB.out
  clear HA HB
  by_cases hl : 6 < (kids.length : Int)
  · have HF : As (nodeB ns ⟨kd, vl, kids⟩ = false) := ⟨by unfold nodeB; rw [show decide (kids.length ≤ 6) = false by simp; omega]; rfl⟩
    go_wp2_with fail
    go_ret
    exact ⟨ret_bool HF.out.symm, HX.out⟩
  · obtain ⟨b, hbb⟩ : ∃ b, b = allIn kids 0 ((ns.length : Int) - 1) := ⟨_, rfl⟩
    have HBB := As.mk hbb
    clear hbb
    cases b with
    | false =>
      have HF : As (nodeB ns ⟨kd, vl, kids⟩ = false) := ⟨by unfold nodeB; rw [← HBB.out]; simp⟩
      go_wp2_with (go_at_call 109; refine (allIn_c _ _ _ _ _ _ HK.out).mono ?_; rw [← HBB.out]; rintro e w1 ⟨rfl, rfl⟩)
      go_ret
      exact ⟨ret_bool HF.out.symm, HX.out⟩
    | true =>
      have HF : As (nodeB ns ⟨kd, vl, kids⟩ = bodyB ns ⟨kd, vl, kids⟩) := ⟨by unfold nodeB; rw [← HBB.out, show decide (kids.length ≤ 6) = true by simp; omega]; rfl⟩
      have HIN : As (∀ x ∈ kids, 0 ≤ x ∧ x < ns.length) := ⟨fun x hx => by
        have h := HBB.out
        unfold allIn at h
        have := List.all_eq_true.1 h.symm x hx
        simp at this; omega⟩
      have hk6 : kids.length ≤ 6 := by omega
      go_upto_region 3 with (go_at_call 109; refine (allIn_c _ _ _ _ _ _ HK.out).mono ?_; rw [← HBB.out]; rintro e w1 ⟨rfl, rfl⟩)
      rcases bceq kd 0 with rfl | k0
      · have HV : As (bodyB ns ⟨0, vl, kids⟩ = (inR vl 0 999 && kids.length == 0)) := ⟨rfl⟩
        obtain ⟨b, hbb⟩ : ∃ b, b = inR vl 0 999 := ⟨_, rfl⟩
        have HB2 := As.mk hbb
        clear hbb
        cases b
        all_goals
          go_wp2_with (go_at_call 89; refine (inRange_c _ _ _ _).mono ?_; rw [← HB2.out]; rintro e w1 ⟨rfl, rfl⟩)
          go_ret
          exact ⟨ret_bool (by rw [HF.out, HV.out, ← HB2.out]; simp [len0]), HX.out⟩
      rcases bceq kd 1 with rfl | k1
      · have HV : As (bodyB ns ⟨1, vl, kids⟩ = (inR vl 0 9 && kids.length == 0)) := ⟨rfl⟩
        obtain ⟨b, hbb⟩ : ∃ b, b = inR vl 0 9 := ⟨_, rfl⟩
        have HB2 := As.mk hbb
        clear hbb
        cases b
        all_goals
          go_wp2_with (go_at_call 89; refine (inRange_c _ _ _ _).mono ?_; rw [← HB2.out]; rintro e w1 ⟨rfl, rfl⟩)
          go_ret
          exact ⟨ret_bool (by rw [HF.out, HV.out, ← HB2.out]; simp [len0]), HX.out⟩
      rcases bceq kd 2 with rfl | k2
      · go_wp2_with fail
        go_ret
        exact ⟨ret_bool (by rw [HF.out]; rfl), HX.out⟩
      rcases bceq kd 3 with rfl | k3
      · go_wp2_with fail
        go_ret
        exact ⟨ret_bool (by rw [HF.out]; rfl), HX.out⟩
      rcases bceq kd 4 with rfl | k4
      · rcases bceq vl 0 with rfl | hv
        · go_wp2_with (go_at_call 151; refine (validDict_c _ _ _ _ _ _ _ _ _ _ HN.out HK.out HIN.out hk6).mono ?_; rintro e w1 ⟨rfl, he⟩; have HE := As.mk he; clear he)
          go_ret
          exact ⟨ret_bool (by rw [HF.out]; rfl), HX.out.trans HE.out⟩
        · have HV : As (bodyB ns ⟨4, vl, kids⟩ = false) := ⟨by show (vl == 0 && dictB ns kids) = false; rw [hv]; rfl⟩
          go_wp2_with fail
          go_ret
          exact ⟨ret_bool (by rw [HF.out, HV.out]), HX.out⟩
      rcases bceq kd 5 with rfl | k5
      · have HV : As (bodyB ns ⟨5, vl, kids⟩ = (inR vl 0 9 && decide (kids.length ≤ 1))) := ⟨rfl⟩
        obtain ⟨b, hbb⟩ : ∃ b, b = inR vl 0 9 := ⟨_, rfl⟩
        have HB2 := As.mk hbb
        clear hbb
        cases b
        all_goals
          go_wp2_with (go_at_call 89; refine (inRange_c _ _ _ _).mono ?_; rw [← HB2.out]; rintro e w1 ⟨rfl, rfl⟩)
          go_ret
          exact ⟨ret_bool (by rw [HF.out, HV.out, ← HB2.out]; simp <;> omega), HX.out⟩
      have HV : As (bodyB ns ⟨kd, vl, kids⟩ = false) := ⟨by
        unfold bodyB
        simp only [beq_eq_false_iff_ne, ne_eq] at k0 k1 k2 k3 k4 k5
        simp only [k0, k1, k2, k3, k4, k5, if_false]⟩
      go_wp2_with fail
      go_ret
      exact ⟨ret_bool (by rw [HF.out, HV.out]), HX.out⟩
end Go.Proofs.Ytgenllcfpjgklaa.C
