/- The law of short programs, walked. -/
import Derived.Test.YtgenllcfpjgklaaDk
set_option linter.unusedVariables false
set_option linter.unusedSimpArgs false
namespace Go.Proofs.Ytgenllcfpjgklaa.P
def sB (a : Int) : Bool := decide (a = 5 ∨ a = 6 ∨ a = 9 ∨ a = 12)
def shortP (l : List Opr) : Bool := l.any (fun o => sB o.code)
def cntC (l : List Opr) (c : Int) : Nat := (l.filter (fun o => decide (o.code = c))).length
theorem cntC_le (l : List Opr) (c : Int) : cntC l c ≤ l.length := List.length_filter_le _ _
theorem cntC_pos (l : List Opr) (c : Int) : 0 < cntC l c ↔ ∃ o ∈ l, o.code = c := by
  unfold cntC
  rw [List.length_pos_iff_exists_mem]
  constructor
  · rintro ⟨o, ho⟩
    rw [List.mem_filter] at ho
    exact ⟨o, ho.1, by simpa using ho.2⟩
  · rintro ⟨o, ho, h⟩
    exact ⟨o, List.mem_filter.2 ⟨ho, by simpa using h⟩⟩
theorem short_cnt (l : List Opr) : shortP l = decide (0 < cntC l 5 + cntC l 6 + cntC l 9 + cntC l 12) := by
  rw [Bool.eq_iff_iff, decide_eq_true_eq]
  unfold shortP
  rw [List.any_eq_true]
  have h5 := cntC_pos l 5
  have h6 := cntC_pos l 6
  have h9 := cntC_pos l 9
  have h12 := cntC_pos l 12
  constructor
  · rintro ⟨o, ho, hs⟩
    simp only [sB, decide_eq_true_eq] at hs
    rcases hs with hs | hs | hs | hs
    · have := h5.2 ⟨o, ho, hs⟩; omega
    · have := h6.2 ⟨o, ho, hs⟩; omega
    · have := h9.2 ⟨o, ho, hs⟩; omega
    · have := h12.2 ⟨o, ho, hs⟩; omega
  · intro h
    rcases (show 0 < cntC l 5 ∨ 0 < cntC l 6 ∨ 0 < cntC l 9 ∨ 0 < cntC l 12 by omega) with h | h | h | h
    · obtain ⟨o, ho, hs⟩ := h5.1 h; exact ⟨o, ho, by simp [sB, hs]⟩
    · obtain ⟨o, ho, hs⟩ := h6.1 h; exact ⟨o, ho, by simp [sB, hs]⟩
    · obtain ⟨o, ho, hs⟩ := h9.1 h; exact ⟨o, ho, by simp [sB, hs]⟩
    · obtain ⟨o, ho, hs⟩ := h12.1 h; exact ⟨o, ho, by simp [sB, hs]⟩
theorem cntC_succ (l : List Opr) (c : Int) (k : Nat) (h : k < l.length) : cntC (l.take (k + 1)) c = cntC (l.take k) c + (if l[k].code = c then 1 else 0) := by
  rw [List.take_succ_eq_append_getElem h]
  unfold cntC
  rw [List.filter_append, List.length_append]
  congr 1
  by_cases hc : l[k].code = c <;> simp [hc]
end Go.Proofs.Ytgenllcfpjgklaa.P
namespace Go.Proofs.Ytgenllcfpjgklaa.C
open Go.RowKit Go.Proofs.Ytgenllcfpjgklaa.W Go.Proofs.Ytgenllcfpjgklaa.P

theorem countOf_c (A : Option Addr) (cA : Nat) (l : List Opr) (c : Int) (w : World) (hr : RdO w A l) (hl : l.length ≤ 1000000) :
    Calls Try.prog 28 #[.slice A l.length cA, .int .i64 c] w fun e w' => e = .returned (.int .i64 (cntC l c)) ∧ w = w' := by
  have HR := As.mk hr
  clear hr
  go_enter Try.func28, Try.ntmps28
  go_upto_region 3 with fail
  go_loop [5, 6] (fun n i => ∃ k q : Nat, k ≤ l.length ∧ q ≤ k ∧ i = .int .i64 k ∧ n = .int .i64 q ∧ As (q = cntC (l.take k) c)) (fun _ i => l.length - (intOf i).toNat)
  case atStart => exact ⟨0, 0, Nat.zero_le _, Nat.le_refl _, rfl, rfl, ⟨rfl⟩⟩
  case round =>
    obtain ⟨k, q, hk, hq, rfl, rfl, hc⟩ := hrel
    by_cases hlt : k < l.length
    · obtain ⟨ad, rfl, h1, -⟩ := HR.out.2 k hlt
      have HS := As.mk (cntC_succ l c k hlt)
      obtain ⟨x, hx⟩ : ∃ x, x = l[k].code := ⟨_, rfl⟩
      rw [← hx] at h1 HS
      clear hx
      have q1 : (k : Int) < l.length := by omega
      rcases bceq x c with hxc | hxc
      · have HN : As (q + 1 = cntC (l.take (k + 1)) c) := ⟨by rw [HS.out, if_pos hxc, hc.out]⟩
        subst hxc
        go_wp2_with fail
        go_round
        case measure => simp only [intOf]; omega
        case rel => exact ⟨k + 1, q + 1, by omega, by omega, by go_num, by go_num, HN⟩
      · have HN : As (q = cntC (l.take (k + 1)) c) := ⟨by rw [HS.out, if_neg (by simpa using hxc), hc.out]; rfl⟩
        go_wp2_with fail
        go_round
        case measure => simp only [intOf]; omega
        case rel => exact ⟨k + 1, q, by omega, by omega, by go_num, rfl, HN⟩
    · have HKL : As (q = cntC l c) := ⟨by rw [hc.out, List.take_of_length_le (by omega)]⟩
      have q1 : ¬ (k : Int) < l.length := by omega
      go_wp2_with fail
      go_ret
      exact ⟨by rw [HKL.out]; rfl, rfl⟩
theorem IsShort1_c (a b : Int) (w : World) : Calls Try.prog 77 #[.agg #[.int .i64 a, .int .i64 b]] w fun e w' => e = .returned (.bool (sB a)) ∧ Ext w w' := by
  have hx : Ext w (w.alloc (.cells #[.int .i64 a, .int .i64 b] 52)) := (Ext.rf w).al _
  have hob : OB (w.alloc (.cells #[.int .i64 a, .int .i64 b] 52)) w.heap.size a b := al_new _ _
  have c0 := OB.c0 hob
  have HX := As.mk hx
  clear hx hob
  rcases (show a = 5 ∨ a = 6 ∨ a = 9 ∨ a = 12 ∨ (¬ a = 5 ∧ ¬ a = 6 ∧ ¬ a = 9 ∧ ¬ a = 12) by omega) with ha | ha | ha | ha | ha
  case inr.inr.inr.inr =>
    obtain ⟨h1, h2, h3, h4⟩ := ha
    have HS : As (sB a = false) := ⟨by simp [sB, h1, h2, h3, h4]⟩
    go_enter Try.func77, Try.ntmps77
    go_wp2_with fail
    go_ret
    exact ⟨by show Ending.returned (.bool (a == 5 || a == 6 || a == 9 || a == 12)) = _; rw [HS.out]; simp [h1, h2, h3, h4], HX.out⟩
  all_goals
    subst ha
    go_enter Try.func77, Try.ntmps77
    go_wp2_with fail
    go_ret
    exact ⟨rfl, HX.out⟩
theorem fn_enter {F : FuncId} {fn : Func} (hf : Try.prog.funcs[F]? = some fn) (h1 : (fn.name == "runtime.NumGoroutine") = false) (h2 : fn.body.isNone = false) (args : Array Value) (w : World) : (callFunc F args).run Try.prog w = .ok (.enter F args) w := by
  have h3 : ¬ fn.name = "runtime.NumGoroutine" := by simpa using h1
  have h4 : ¬ fn.body = none := fun e => by rw [e] at h2; exact nomatch h2
  simp [callFunc, go_sem, hf, h3, h4]
theorem IsShort1_e (args : Array Value) (w : World) : (callFunc 77 args).run Try.prog w = .ok (.enter 77 args) w :=
  fn_enter Try.func77 (by kernel_rfl) (by kernel_rfl) args w
/-- slices.IndexFunc over orders, for that literal. -/
theorem IndexShort_c (A : Option Addr) (cA : Nat) (l : List Opr) (w : World) (hr : RdO w A l) :
    Calls Try.prog 111 #[.slice A l.length cA, .func (.func 77) #[] #[]] w fun e w' => ∃ z : Int, e = .returned (.int .i64 z) ∧ (shortP l = true ↔ 0 ≤ z) ∧ Ext w w' := by
  have hlen := hr.1
  have HR := As.mk hr
  have hent := IsShort1_e
  clear hr
  go_enter Try.func111, Try.ntmps111
  go_upto_region 2 with fail
  go_loopw [8] (fun i wr => ∃ k : Nat, k ≤ l.length ∧ i = .int .i64 k ∧ As (shortP (l.take k) = false) ∧ As (Ext w wr)) (fun i _ => l.length - (intOf i).toNat)
  case atStart => exact ⟨0, Nat.zero_le _, rfl, ⟨rfl⟩, ⟨Ext.rf _⟩⟩
  case round =>
    obtain ⟨k, hk, rfl, hs, he⟩ := hrel
    by_cases hlt : k < l.length
    · obtain ⟨ad, rfl, h1, h2⟩ := (HR.out.ext he.out).2 k hlt
      have HS : As (∀ b, sB l[k].code = b → shortP (l.take (k + 1)) = b ∧ (b = true → shortP l = true)) := ⟨fun b hb => by
        rw [List.take_succ_eq_append_getElem hlt]
        unfold shortP
        rw [List.any_append]
        have h3 := hs.out
        unfold shortP at h3
        rw [h3]
        refine ⟨by simp [hb], fun e => ?_⟩
        rw [List.any_eq_true]
        exact ⟨l[k], List.getElem_mem _, by rw [hb, e]⟩⟩
      obtain ⟨x, hx⟩ : ∃ x, x = l[k].code := ⟨_, rfl⟩
      obtain ⟨y, hy⟩ : ∃ y, y = l[k].arg := ⟨_, rfl⟩
      rw [← hx] at h1 HS
      rw [← hy] at h2
      clear hx hy
      have q1 : (k : Int) < l.length := by omega
      obtain ⟨b, hb⟩ : ∃ b, sB x = b := ⟨_, rfl⟩
      have HB := As.mk hb
      clear hb
      cases b with
      | false =>
        go_wp2_with (go_at_call 77; refine (IsShort1_c _ _ _).mono ?_; rw [HB.out]; rintro e w2 ⟨rfl, hx⟩; have HE2 := As.mk (he.out.trans hx); clear hx)
        go_roundw
        case measure => simp only [intOf]; omega
        case rel => exact ⟨k + 1, by omega, by go_num, ⟨(HS.out _ HB.out).1⟩, HE2⟩
      | true =>
        go_wp2_with (go_at_call 77; refine (IsShort1_c _ _ _).mono ?_; rw [HB.out]; rintro e w2 ⟨rfl, hx⟩; have HE2 := As.mk (he.out.trans hx); clear hx)
        go_ret
        exact ⟨k, rfl, ⟨fun _ => by omega, fun _ => (HS.out _ HB.out).2 rfl⟩, HE2.out⟩
    · have HN : As (shortP l = false) := ⟨by have h3 := hs.out; rwa [List.take_of_length_le (by omega)] at h3⟩
      have q1 : ¬ (k : Int) < l.length := by omega
      go_wp2_with fail
      go_ret
      exact ⟨-1, rfl, ⟨fun h => (by rw [HN.out] at h; exact nomatch h), fun h => absurd h (by decide)⟩, he.out⟩
theorem ContainsShort_c (A : Option Addr) (cA : Nat) (l : List Opr) (w : World) (hr : RdO w A l) :
    Calls Try.prog 76 #[.slice A l.length cA, .func (.func 77) #[] #[]] w fun e w' => e = .returned (.bool (shortP l)) ∧ Ext w w' := by
  have HR := As.mk hr
  clear hr
  go_enter Try.func76, Try.ntmps76
  go_wp2_with (go_at_call 111; refine (IndexShort_c _ _ _ _ HR.out).mono ?_; rintro e w2 ⟨z, rfl, hz, hx⟩; have HZ := As.mk hz; have HE2 := As.mk hx; clear hz hx)
  go_ret
  refine ⟨?_, HE2.out⟩
  show Ending.returned (.bool (decide (0 ≤ z))) = _
  rw [show decide (0 ≤ z) = shortP l by rw [Bool.eq_iff_iff, decide_eq_true_eq]; exact HZ.out.symm]
theorem IsShort_c (A : Option Addr) (cA : Nat) (l : List Opr) (w : World) (hr : RdO w A l) :
    Calls Try.prog 26 #[.slice A l.length cA] w fun e w' => e = .returned (.bool (vOps l && shortP l)) ∧ Ext w w' := by
  have HR := As.mk hr
  clear hr
  obtain ⟨b, hb⟩ : ∃ b, b = vOps l := ⟨_, rfl⟩
  have HV := As.mk hb
  clear hb
  cases b with
  | false =>
    go_enter Try.func26, Try.ntmps26
    go_wp2_with (go_at_call 20; refine (ValidOps_c _ _ _ _ HR.out).mono ?_; rw [← HV.out]; rintro e w2 ⟨rfl, he⟩; have HE2 := As.mk he; clear he)
    go_ret
    exact ⟨by rw [← HV.out]; rfl, HE2.out⟩
  | true =>
    go_enter Try.func26, Try.ntmps26
    go_wp2_with (first | (go_at_call 20; refine (ValidOps_c _ _ _ _ HR.out).mono ?_; rw [← HV.out]; rintro e w2 ⟨rfl, he⟩; have HE2 := As.mk he; clear he) | (go_at_call 76; refine (ContainsShort_c _ _ _ _ (HR.out.ext HE2.out)).mono ?_; rintro e w3 ⟨rfl, hx⟩; have HE3 := As.mk (HE2.out.trans hx); clear hx))
    go_ret
    exact ⟨by rw [← HV.out]; rfl, HE3.out⟩
set_option maxRecDepth 100000 in
theorem sIsShort_c (A : Option Addr) (cA : Nat) (l : List Opr) (w : World) (hr : RdO w A l) :
    Calls Try.prog 27 #[.slice A l.length cA] w fun e w' => e = .returned (.bool (vOps l && shortP l)) ∧ Ext w w' := by
  have hlen := hr.1
  have HR := As.mk hr
  clear hr
  obtain ⟨b, hb⟩ : ∃ b, b = vOps l := ⟨_, rfl⟩
  have HV := As.mk hb
  clear hb
  cases b with
  | false =>
    go_enter Try.func27, Try.ntmps27
    go_wp2_with (go_at_call 72; refine (validOps_c _ _ _ _ HR.out).mono ?_; rw [← HV.out]; rintro e w2 ⟨rfl, he⟩; have HE2 := As.mk he; clear he)
    go_ret
    exact ⟨by rw [← HV.out]; rfl, HE2.out⟩
  | true =>
    go_enter Try.func27, Try.ntmps27
    go_upto_region 4 with (go_at_call 72; refine (validOps_c _ _ _ _ HR.out).mono ?_; rw [← HV.out]; rintro e w2 ⟨rfl, he⟩; have HE2 := As.mk he; clear he)
    go_loop [3] (fun i => ∃ k : Nat, k ≤ l.length ∧ i = .int .i64 k ∧ As (shortP (l.take k) = false)) (fun i => l.length - (intOf i).toNat)
    case atStart => exact ⟨0, Nat.zero_le _, rfl, ⟨rfl⟩⟩
    case round =>
      obtain ⟨k, hk, rfl, hs⟩ := hrel
      by_cases hlt : k < l.length
      · obtain ⟨ad, rfl, h1, -⟩ := (HR.out.ext HE2.out).2 k hlt
        have HS : As (∀ b, sB l[k].code = b → shortP (l.take (k + 1)) = b ∧ (b = true → shortP l = true)) := ⟨fun b hb => by
          rw [List.take_succ_eq_append_getElem hlt]
          unfold shortP
          rw [List.any_append]
          have h3 := hs.out
          unfold shortP at h3
          rw [h3]
          refine ⟨by simp [hb], fun e => ?_⟩
          rw [List.any_eq_true]
          exact ⟨l[k], List.getElem_mem _, by rw [hb, e]⟩⟩
        obtain ⟨x, hx⟩ : ∃ x, x = l[k].code := ⟨_, rfl⟩
        rw [← hx] at h1 HS
        clear hx
        have q1 : (k : Int) < l.length := by omega
        rcases (show x = 5 ∨ x = 6 ∨ x = 9 ∨ x = 12 ∨ (¬ x = 5 ∧ ¬ x = 6 ∧ ¬ x = 9 ∧ ¬ x = 12) by omega) with ha | ha | ha | ha | ha
        case inr.inr.inr.inr =>
          obtain ⟨g1, g2, g3, g4⟩ := ha
          have HN : As (shortP (l.take (k + 1)) = false) := ⟨(HS.out false (by simp [sB, g1, g2, g3, g4])).1⟩
          have e1 : (x == 5) = false := by simpa using g1
          have e2 : (x == 6) = false := by simpa using g2
          have e3 : (x == 9) = false := by simpa using g3
          have e4 : (x == 12) = false := by simpa using g4
          go_wp2_with fail
          go_round
          case measure => simp only [intOf]; omega
          case rel => exact ⟨k + 1, by omega, by go_num, HN⟩
        all_goals
          subst ha
          have HN : As (shortP l = true) := ⟨(HS.out true rfl).2 rfl⟩
          go_wp2_with fail
          go_ret
          exact ⟨by rw [← HV.out, HN.out]; rfl, HE2.out⟩
      · have HN : As (shortP l = false) := ⟨by have h3 := hs.out; rwa [List.take_of_length_le (by omega)] at h3⟩
        have q1 : ¬ (k : Int) < l.length := by omega
        go_wp2_with fail
        go_ret
        exact ⟨by rw [← HV.out, HN.out]; rfl, HE2.out⟩
set_option maxRecDepth 100000 in
set_option maxHeartbeats 1000000 in
theorem FnIsShort_c (A : Option Addr) (c : Nat) (bs : List Int) (w : World) (hb : GivB w A bs) (hc : bs.length ≤ c) : Calls Try.prog 6 #[.slice A bs.length c] w (True_ w) := by
  have hbl := hb.1
  have HB := As.mk hb
  clear hb
  by_cases hlen : (1048576 : Int) < bs.length
  · go_enter Try.func6, Try.ntmps6
    go_wp2_with fail
    go_ret
    exact ⟨rfl, Ext.rf _⟩
  · go_enter Try.func6, Try.ntmps6
    go_upto_region 4 with (go_at_call 25; refine (DrawIsShort_c _ _ bs _ HB.out hc).mono ?_; rintro e w1 ⟨A1, c1, l, rfl, ho, he, hl⟩; have HO := As.mk ho; have HE := As.mk he; clear ho he)
    have hl' := hl.out
    have HR := As.mk (rdA_O HO.out (by omega))
    obtain ⟨b, hb⟩ : ∃ b, b = vOps l := ⟨_, rfl⟩
    have HV := As.mk hb
    clear hb
    obtain ⟨s, hs⟩ : ∃ s, s = shortP l := ⟨_, rfl⟩
    have HS := As.mk hs
    clear hs
    have HBS : As (∀ x, (vOps l && shortP l) = x → (b && s) = x) := ⟨fun x h => by rw [HV.out, HS.out]; exact h⟩
    obtain ⟨t, ht⟩ : ∃ t, t = (vOps l && shortP l) := ⟨_, rfl⟩
    have HT := As.mk ht
    clear ht
    have hq1 := cntC_le l 5
    have hq2 := cntC_le l 6
    have hq3 := cntC_le l 9
    have hq4 := cntC_le l 12
    have HC := As.mk (short_cnt l)
    obtain ⟨n1, hn1⟩ : ∃ n, n = cntC l 5 := ⟨_, rfl⟩
    obtain ⟨n2, hn2⟩ : ∃ n, n = cntC l 6 := ⟨_, rfl⟩
    obtain ⟨n3, hn3⟩ : ∃ n, n = cntC l 9 := ⟨_, rfl⟩
    obtain ⟨n4, hn4⟩ : ∃ n, n = cntC l 12 := ⟨_, rfl⟩
    rw [← hn1, ← hn2, ← hn3, ← hn4] at HC
    rw [← hn1] at hq1
    rw [← hn2] at hq2
    rw [← hn3] at hq3
    rw [← hn4] at hq4
    have HN := As.mk (And.intro hn1 (And.intro hn2 (And.intro hn3 hn4)))
    clear hn1 hn2 hn3 hn4
    cases b with
    | false =>
      go_wp2_with (first | (go_at_call 26; refine (IsShort_c _ _ _ _ HR.out).mono ?_; rw [← HT.out]; rintro e w2 ⟨rfl, he⟩; have HE2 := As.mk he; clear he) | (go_at_call 27; refine (sIsShort_c _ _ _ _ (HR.out.ext HE2.out)).mono ?_; rw [← HT.out]; rintro e w3 ⟨rfl, he⟩; have HE2 := As.mk (HE2.out.trans he); clear he) | (go_at_call 20; refine (ValidOps_c _ _ _ _ (HR.out.ext HE2.out)).mono ?_; rw [← HV.out]; rintro e w4 ⟨rfl, he⟩; have HE2 := As.mk (HE2.out.trans he); clear he))
      go_ret
      exact ⟨by simp, HE.out.trans HE2.out⟩
    | true =>
      have HTS : As (t = decide (0 < n1 + n2 + n3 + n4)) := ⟨by rw [HT.out, ← HV.out, ← HC.out]; rfl⟩
      go_upto_region 7 with (first | (go_at_call 26; refine (IsShort_c _ _ _ _ HR.out).mono ?_; rw [← HT.out]; rintro e w2 ⟨rfl, he⟩; have HE2 := As.mk he; clear he) | (go_at_call 27; refine (sIsShort_c _ _ _ _ (HR.out.ext HE2.out)).mono ?_; rw [← HT.out]; rintro e w3 ⟨rfl, he⟩; have HE3 := As.mk (HE2.out.trans he); clear he) | (go_at_call 20; refine (ValidOps_c _ _ _ _ (HR.out.ext HE3.out)).mono ?_; rw [← HV.out]; rintro e w4 ⟨rfl, he⟩; have HE4 := As.mk (HE3.out.trans he); clear he))
      go_wp2_with (go_at_call 28; refine (countOf_c _ _ _ _ _ (HR.out.ext HE4.out) (by omega)).mono ?_; rintro e w5 ⟨rfl, rfl⟩; first | rw [← HN.out.1] | rw [← HN.out.2.1] | rw [← HN.out.2.2.1] | rw [← HN.out.2.2.2])
      go_ret
      refine ⟨?_, HE.out.trans HE4.out⟩
      have h : t = decide ((0 : Int) < (n1 : Int) + n2 + n3 + n4) := by
        rw [HTS.out, Bool.eq_iff_iff, decide_eq_true_eq, decide_eq_true_eq]
        omega
      show Ending.returned (.bool (t == decide ((0 : Int) < (n1 : Int) + n2 + n3 + n4))) = _
      rw [← h, beq_self_eq_true]
end Go.Proofs.Ytgenllcfpjgklaa.C
