/- The reference's small functions on orders. -/
import Derived.Test.YtgenllcfpjgklaaCv
set_option linter.unusedVariables false
set_option linter.unusedSimpArgs false
namespace Go.Proofs.Ytgenllcfpjgklaa.C
open Go.RowKit Go.Proofs.Ytgenllcfpjgklaa.W Go.Proofs.Ytgenllcfpjgklaa.P

def argS (c : Int) : Int := if c = 0 then 999 else if c = 1 then 9 else if c = 13 then 9 else if c = 15 then 19 else if c = 16 then 19 else -1
theorem argOf_c (c : Int) (w : World) : Calls Try.prog 112 #[.int .i64 c] w fun e w' => e = .returned (.int .i64 (argS c)) ∧ w = w' := by
  by_cases h0 : c = 0
  · subst h0; go_enter Try.func112, Try.ntmps112; go_wp2; go_ret; exact ⟨rfl, rfl⟩
  by_cases h1 : c = 1
  · subst h1; go_enter Try.func112, Try.ntmps112; go_wp2; go_ret; exact ⟨rfl, rfl⟩
  by_cases h2 : c = 13
  · subst h2; go_enter Try.func112, Try.ntmps112; go_wp2; go_ret; exact ⟨rfl, rfl⟩
  by_cases h3 : c = 15
  · subst h3; go_enter Try.func112, Try.ntmps112; go_wp2; go_ret; exact ⟨rfl, rfl⟩
  by_cases h4 : c = 16
  · subst h4; go_enter Try.func112, Try.ntmps112; go_wp2; go_ret; exact ⟨rfl, rfl⟩
  go_enter Try.func112, Try.ntmps112
  go_wp2
  go_ret
  exact ⟨by simp [argS, h0, h1, h2, h3, h4], rfl⟩
theorem okO_spec (o : Opr) : okO o = (inR o.code 0 19 && ((decide (argS o.code < 0) && o.arg == 0) || (decide (0 ≤ argS o.code) && inR o.arg 0 (argS o.code)))) := by
  obtain ⟨c, a⟩ := o
  rw [Bool.eq_iff_iff]
  simp only [okO, inR, decide_eq_true_eq, Bool.and_eq_true, Bool.or_eq_true, beq_iff_eq, argS, mostA]
  repeat' split
  all_goals omega
theorem argS_or (c : Int) : argS c = -1 ∨ 0 ≤ argS c := by
  unfold argS; (repeat' split) <;> omega
set_option maxRecDepth 100000 in
set_option maxHeartbeats 1000000 in
theorem validOp_c (o : Opr) (w : World) : Calls Try.prog 106 #[.agg #[.int .i64 o.code, .int .i64 o.arg]] w fun e w' => e = .returned (.bool (okO o)) ∧ Ext w w' := by
  obtain ⟨c, a⟩ := o
  show Calls _ _ #[.agg #[.int .i64 c, .int .i64 a]] _ fun e w' => e = .returned (.bool (okO ⟨c, a⟩)) ∧ Ext w w'
  have hsp := okO_spec ⟨c, a⟩
  simp only at hsp
  obtain ⟨r, hr⟩ : ∃ r, r = okO ⟨c, a⟩ := ⟨_, rfl⟩
  rw [← hr] at hsp ⊢
  clear hr
  cases h1 : inR c 0 19 with
  | false =>
    have hq : r = false := by rw [hsp, h1]; rfl
    subst hq
    have H1 := As.mk h1
    have H2 := As.mk h1
    have HA : As (argS c = argS c) := ⟨rfl⟩
    clear h1 hsp
    go_enter Try.func106, Try.ntmps106
    go_wp2_with (first | (go_at_call 112; refine (argOf_c _ _).mono ?_; rw [HA.out]; rintro e w1 ⟨rfl, rfl⟩) | (go_at_call 89; refine (inRange_c _ _ _ _).mono ?_; (first | rw [H1.out] | rw [H2.out]); rintro e w1 ⟨rfl, rfl⟩))
    go_ret
    exact ⟨rfl, by (repeat (first | exact Ext.rf _ | refine Ext.al ?_ _ | refine Ext.dr ?_ | refine Ext.dN ?_ _))⟩
  | true =>
    have H1 := As.mk h1
    rcases argS_or c with hm | hm
    · have HA := As.mk hm
      have H2 := As.mk h1
      rcases bceq a 0 with h0 | h0
      · have hq : r = true := by rw [hsp, h1, hm, h0]; rfl
        subst hq h0
        clear h1 hsp hm
        go_enter Try.func106, Try.ntmps106
        go_wp2_with (first | (go_at_call 112; refine (argOf_c _ _).mono ?_; rw [HA.out]; rintro e w1 ⟨rfl, rfl⟩) | (go_at_call 89; refine (inRange_c _ _ _ _).mono ?_; (first | rw [H1.out] | rw [H2.out]); rintro e w1 ⟨rfl, rfl⟩))
        go_ret
        exact ⟨rfl, by (repeat (first | exact Ext.rf _ | refine Ext.al ?_ _ | refine Ext.dr ?_ | refine Ext.dN ?_ _))⟩
      · have hq : r = false := by rw [hsp, h1, hm, h0]; simp
        subst hq
        clear h1 hsp hm
        go_enter Try.func106, Try.ntmps106
        go_wp2_with (first | (go_at_call 112; refine (argOf_c _ _).mono ?_; rw [HA.out]; rintro e w1 ⟨rfl, rfl⟩) | (go_at_call 89; refine (inRange_c _ _ _ _).mono ?_; (first | rw [H1.out] | rw [H2.out]); rintro e w1 ⟨rfl, rfl⟩))
        go_ret
        exact ⟨rfl, by (repeat (first | exact Ext.rf _ | refine Ext.al ?_ _ | refine Ext.dr ?_ | refine Ext.dN ?_ _))⟩
    · obtain ⟨m, hmm⟩ : ∃ m, argS c = m := ⟨_, rfl⟩
      rw [hmm] at hm hsp
      have HA := As.mk hmm
      have hneg : decide (m < 0) = false := by simp; omega
      have hpos : decide (0 ≤ m) = true := by simp; omega
      cases h2 : inR a 0 m with
      | true =>
        have hq : r = true := by rw [hsp, h1, hneg, hpos, h2]; rfl
        subst hq
        have H2 := As.mk h2
        clear h1 hsp hmm h2 hpos
        go_enter Try.func106, Try.ntmps106
        go_wp2_with (first | (go_at_call 112; refine (argOf_c _ _).mono ?_; rw [HA.out]; rintro e w1 ⟨rfl, rfl⟩) | (go_at_call 89; refine (inRange_c _ _ _ _).mono ?_; (first | rw [H1.out] | rw [H2.out]); rintro e w1 ⟨rfl, rfl⟩))
        go_ret
        exact ⟨rfl, by (repeat (first | exact Ext.rf _ | refine Ext.al ?_ _ | refine Ext.dr ?_ | refine Ext.dN ?_ _))⟩
      | false =>
        have hq : r = false := by rw [hsp, h1, hneg, hpos, h2]; rfl
        subst hq
        have H2 := As.mk h2
        clear h1 hsp hmm h2 hpos
        go_enter Try.func106, Try.ntmps106
        go_wp2_with (first | (go_at_call 112; refine (argOf_c _ _).mono ?_; rw [HA.out]; rintro e w1 ⟨rfl, rfl⟩) | (go_at_call 89; refine (inRange_c _ _ _ _).mono ?_; (first | rw [H1.out] | rw [H2.out]); rintro e w1 ⟨rfl, rfl⟩))
        go_ret
        exact ⟨rfl, by (repeat (first | exact Ext.rf _ | refine Ext.al ?_ _ | refine Ext.dr ?_ | refine Ext.dN ?_ _))⟩
set_option maxRecDepth 100000 in
theorem validOps_c (A : Option Addr) (c : Nat) (l : List Opr) (w : World) (hr : RdO w A l) : Calls Try.prog 72 #[.slice A l.length c] w fun e w' => e = .returned (.bool (vOps l)) ∧ Ext w w' := by
  have hlen := hr.1
  have H := As.mk hr; clear hr
  go_enter Try.func72, Try.ntmps72
  go_wp2
  go_loopw [3] (fun i wr => ∃ k : Nat, k ≤ l.length ∧ i = .int .i64 k ∧ As ((l.take k).all okO = true) ∧ As (Ext w wr)) (fun i _ => l.length - (intOf i).toNat)
  case atStart => exact ⟨0, Nat.zero_le _, rfl, ⟨by simp⟩, ⟨Ext.rf _⟩⟩
  case round =>
    obtain ⟨k, hk, rfl, hn, he⟩ := hrel
    by_cases hlt : k < l.length
    · obtain ⟨ad, rfl, h1, h2⟩ := (H.out.ext he.out).2 k hlt
      go_wp2_with ((go_at_call 106; refine (validOp_c _ _).mono ?_; rintro e w1 ⟨rfl, hb⟩))
      · have hq : (!okO l[k]) = true := by assumption
        go_ret
        exact ⟨ret_bool (by rw [vOps, all_stop hlt (by simpa using hq)]; rfl), he.out.trans hb⟩
      · have hq : (!okO l[k]) = false := by assumption
        go_roundw
        case rel => exact ⟨k + 1, by omega, by go_num, ⟨all_step hlt hn.out (by simpa using hq)⟩, ⟨he.out.trans hb⟩⟩
        case measure => simp [intOf]; omega
    · go_wp2
      go_ret
      exact ⟨ret_bool (by rw [vOps, all_end (by omega) hn.out]; simp; omega), he.out⟩
end Go.Proofs.Ytgenllcfpjgklaa.C
