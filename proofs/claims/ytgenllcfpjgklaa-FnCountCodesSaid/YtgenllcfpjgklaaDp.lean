/- The codes of a program are counted, on both sides. -/
import Derived.Test.YtgenllcfpjgklaaDl
import Derived.Test.YtgenllcfpjgklaaDo
set_option linter.unusedVariables false
set_option linter.unusedSimpArgs false
namespace Go.Proofs.Ytgenllcfpjgklaa.P
def cntL (l : List Opr) : List Int := (List.range 20).map (fun c : Nat => (cntC l (c : Int) : Int))
def counts (l : List Opr) : List Int := if vOps l = true then cntL l else []
theorem cntL_len (l : List Opr) : (cntL l).length = 20 := by simp [cntL]
theorem cntL_get (l : List Opr) (j : Nat) (h : j < 20) : (cntL l)[j]'(by rw [cntL_len]; exact h) = (cntC l (j : Int) : Int) := by simp [cntL]
theorem cntL_nil : cntL [] = List.replicate 20 0 := by decide
theorem cntL_succ (l : List Opr) (k : Nat) (h : k < l.length) (c : Nat) (hc : l[k].code = (c : Int)) (hc2 : c < 20) :
    cntL (l.take (k + 1)) = (cntL (l.take k)).set c ((cntC (l.take k) (c : Int) : Int) + 1) := by
  apply List.ext_getElem
  · simp [cntL]
  · intro i h1 h2
    rw [cntL_len] at h1
    rw [cntL_get _ i h1, List.getElem_set, cntC_succ l (i : Int) k h]
    by_cases hi : c = i
    · subst hi
      rw [if_pos hc, if_pos rfl]; omega
    · rw [if_neg (by rw [hc]; omega), if_neg hi, cntL_get _ i h1]; omega
end Go.Proofs.Ytgenllcfpjgklaa.P
namespace Go.Proofs.Ytgenllcfpjgklaa.C
open Go.RowKit Go.Proofs.Ytgenllcfpjgklaa.W Go.Proofs.Ytgenllcfpjgklaa.P

theorem make_cnt (n : Nat) (hn : n ≤ 1048576) (w : World) : ∃ w', (Instr.makeSlice 23 (.int .i64 (n : Int)) (.int .i64 (n : Int))).run Try.prog w = .ok (.slice (some ⟨w.heap.size, 0, none⟩) n n) w' ∧ IR w' (.slice (some ⟨w.heap.size, 0, none⟩) n n) (List.replicate n 0) ∧ Ext w w' := by
  obtain ⟨i0, hi, hzz⟩ := Option.map_eq_some_iff.1 infoI
  simp only [Prod.mk.injEq] at hzz
  obtain ⟨hz0, hz1, hz2⟩ := hzz
  obtain ⟨w', h1, h2, h3⟩ := run_makeSlice_full (P := Try.prog) (w := w) 0 23 3 i0 (.int .i64 0) 1 (by kernel_rfl) hi hz0 hz1 .i64 .i64 n (by omega) (by rw [hz2]; omega) (by simp only [maxLen]; omega) (Nat.zero_le _)
  refine ⟨w', h1, ?_, (Fr.grown (S := fun _ => False) h3 (fun i hi => nomatch hi)).ext (fun _ h => h.elim)⟩
  unfold IR
  rw [List.length_replicate]
  have e : nums (List.replicate n 0) = (madeCells (Value.int .i64 0).cells (n * 1)).toList := by
    simp only [nums, madeCells, Value.cells, List.map_replicate]
    apply List.ext_getElem
    · simp
    · intro i _ _; simp [Nat.mod_one]
  rw [e]
  exact h2
/-- While codes are counted. -/
def CntA (w : World) (l : List Opr) (ad : Addr) (k : Nat) (wr : World) : Prop := IR wr (.slice (some ad) 20 20) (cntL (l.take k)) ∧ w.heap.size ≤ ad.block ∧ Ext w wr
theorem CntA.next {w wr wr2 : World} {l : List Opr} {ad : Addr} {k c : Nat} (h : CntA w l ad k wr) (he : Ext wr wr2) (hk : k < l.length) (hc : l[k].code = (c : Int)) (hc2 : c < 20) :
    CntA w l ad (k + 1) (wr2.setCell (ad.add c) (.int .i64 ((cntC (l.take k) (c : Int) : Int) + 1))) := by
  obtain ⟨h1, h2, h3⟩ := h
  refine ⟨?_, h2, (h3.trans he).st (by rw [add_block]; exact h2) _⟩
  rw [cntL_succ l k hk c hc hc2]
  exact IR.setA (h1.ext he) c _
theorem CntA.cell {w wr : World} {l : List Opr} {ad : Addr} {k c : Nat} (h : CntA w l ad k wr) (hc2 : c < 20) : wr.cell? (ad.add c) = some (.int .i64 (cntC (l.take k) (c : Int) : Int)) ∧ wr.frozen? (ad.add c) = false := by
  refine ⟨?_, (IR.fzA h.1 c).1⟩
  obtain ⟨ad', e, hx⟩ := (rdA_J5 h.1 (by rw [cntL_len]; omega)).2 c (by rw [cntL_len]; exact hc2)
  injection e with e
  subst e
  rw [hx, cntL_get _ c hc2]
theorem CntA.out {w wr : World} {l : List Opr} {ad : Addr} (h : CntA w l ad l.length wr) : ClonePost (cntL l) w (.returned (.slice (some ad) 20 20)) wr := by
  obtain ⟨h1, h2, h3⟩ := h
  rw [List.take_length] at h1
  have e : (cntL l).length = 20 := cntL_len l
  refine ⟨some ad, 20, by rw [e], by rw [e]; exact h1, h3, fun j hj => ?_⟩
  have h4 := (IR.fzA h1 0).2
  rw [e] at hj
  rw [h4] at hj
  injection hj with hj
  rw [add_block] at hj
  omega
set_option maxRecDepth 100000 in
set_option maxHeartbeats 1000000 in
theorem CountCodes_c (A : Option Addr) (cA n : Nat) (l : List Opr) (w : World) (hr : RdO w A l) (hn : l.length = n) :
    Calls Try.prog 30 #[.slice A n cA] w (ClonePost (counts l) w) := by
  subst hn
  have HR := As.mk hr
  clear hr
  obtain ⟨b, hb⟩ : ∃ b, b = vOps l := ⟨_, rfl⟩
  have HV := As.mk hb
  clear hb
  cases b with
  | false =>
    have HE : As (counts l = []) := ⟨by unfold counts; rw [← HV.out]; rfl⟩
    go_enter Try.func30, Try.ntmps30
    go_wp2_with (go_at_call 20; refine (ValidOps_c _ _ _ _ HR.out).mono ?_; rw [← HV.out]; rintro e w2 ⟨rfl, he⟩; have HE2 := As.mk he; clear he)
    go_ret
    rw [HE.out]
    exact ClonePost.nil HE2.out
  | true =>
    have HE : As (counts l = cntL l) := ⟨by unfold counts; rw [← HV.out]; rfl⟩
    have hall := vOps_all HV.out.symm
    have hl3 := hall.2
    have HALL := As.mk hall.1
    clear hall
    go_enter Try.func30, Try.ntmps30
    go_upto_region 3 with (go_at_call 20; refine (ValidOps_c _ _ _ _ HR.out).mono ?_; rw [← HV.out]; rintro e w2 ⟨rfl, he⟩; have HE2 := As.mk he; clear he)
    obtain ⟨w3, hm, hir, hex⟩ := make_cnt 20 (by omega) w2
    have hm' : (Instr.makeSlice 23 (.int .i64 20) (.int .i64 20)).run Try.prog w2 = .ok (.slice (some ⟨w2.heap.size, 0, none⟩) 20 20) w3 := hm
    obtain ⟨ad, had⟩ : ∃ ad : Addr, ad = ⟨w2.heap.size, 0, none⟩ := ⟨_, rfl⟩
    have HQ0 : As (CntA w l ad 0 w3) := ⟨by rw [had]; exact ⟨by rw [show cntL (l.take 0) = List.replicate 20 0 from cntL_nil]; exact hir, HE2.out.size, HE2.out.trans hex⟩⟩
    rw [← had] at hm'
    clear hm hir hex had
    go_upto_region 5 with fail
    clear hm'
    go_loopw [12] (fun i wr => ∃ k : Nat, k ≤ l.length ∧ i = .int .i64 k ∧ As (CntA w l ad k wr)) (fun i _ => l.length - (intOf i).toNat)
    case atStart => exact ⟨0, Nat.zero_le _, rfl, HQ0⟩
    case round =>
      obtain ⟨k, hk, rfl, hst⟩ := hrel
      clear HQ0
      by_cases hlt : k < l.length
      · obtain ⟨ad2, rfl, h1, h2⟩ := (HR.out.ext hst.out.2.2).2 k hlt
        have hok := List.all_eq_true.1 HALL.out l[k] (List.getElem_mem hlt)
        have HLT := As.mk hlt
        obtain ⟨x, hx⟩ : ∃ x, x = l[k].code := ⟨_, rfl⟩
        obtain ⟨y, hy⟩ : ∃ y, y = l[k].arg := ⟨_, rfl⟩
        simp only [okO, decide_eq_true_eq] at hok
        rw [← hx] at h1 hok
        rw [← hy] at h2
        obtain ⟨c, rfl⟩ := Int.eq_ofNat_of_zero_le hok.1
        have hc20 : c < 20 := by omega
        have HX := As.mk hx
        clear hok hx hy
        have q1 : (k : Int) < l.length := by omega
        have q2 : (c : Int) < 20 := by omega
        have hcl : cntC (l.take k) (c : Int) ≤ 300 := by have := cntC_le (l.take k) (c : Int); rw [List.length_take] at this; omega
        obtain ⟨q, hq⟩ : ∃ q, q = cntC (l.take k) (c : Int) := ⟨_, rfl⟩
        rw [← hq] at hcl
        have HN : As (∀ wr2, Ext wr wr2 → CntA w l ad (k + 1) (wr2.setCell (ad.add c) (.int .i64 ((q : Int) + 1)))) := ⟨fun wr2 he => by rw [hq]; exact hst.out.next he HLT.out HX.out.symm hc20⟩
        have hcell := hst.out.cell hc20
        rw [← hq] at hcell
        clear hq
        have hx1 : Ext wr (wr.alloc (.cells #[.int .i64 c, .int .i64 y] 52)) := (Ext.rf _).al _
        have hf1 : (wr.alloc (.cells #[.int .i64 c, .int .i64 y] 52)).frozen? (ad.add c) = false := (IR.fzA (hst.out.1.ext hx1) c).1
        have d1 := hx1.cellOf hcell.1
        have HN2 := As.mk (HN.out _ hx1)
        obtain ⟨-, -⟩ := hcell
        clear hx1
        go_wp2_with fail
        go_roundw
        case measure => simp only [intOf]; omega
        case rel => exact ⟨k + 1, by omega, by go_num, HN2⟩
      · have hkl : k = l.length := by omega
        have HD : As (CntA w l ad l.length wr) := ⟨by rw [← hkl]; exact hst.out⟩
        have q1 : ¬ (k : Int) < l.length := by omega
        clear hkl
        go_wp2_with fail
        go_ret
        rw [HE.out]
        exact HD.out.out
set_option maxRecDepth 100000 in
set_option maxHeartbeats 1000000 in
theorem sCountCodes_c (A : Option Addr) (cA n : Nat) (l : List Opr) (w : World) (hr : RdO w A l) (hn : l.length = n) :
    Calls Try.prog 32 #[.slice A n cA] w (ClonePost (counts l) w) := by
  subst hn
  have HR := As.mk hr
  clear hr
  obtain ⟨b, hb⟩ : ∃ b, b = vOps l := ⟨_, rfl⟩
  have HV := As.mk hb
  clear hb
  cases b with
  | false =>
    have HE : As (counts l = []) := ⟨by unfold counts; rw [← HV.out]; rfl⟩
    go_enter Try.func32, Try.ntmps32
    go_wp2_with (go_at_call 72; refine (validOps_c _ _ _ _ HR.out).mono ?_; rw [← HV.out]; rintro e w2 ⟨rfl, he⟩; have HE2 := As.mk he; clear he)
    go_ret
    rw [HE.out]
    exact ClonePost.nil HE2.out
  | true =>
    have HE : As (counts l = cntL l) := ⟨by unfold counts; rw [← HV.out]; rfl⟩
    have hall := vOps_all HV.out.symm
    have hl3 := hall.2
    have HALL := As.mk hall.1
    clear hall
    go_enter Try.func32, Try.ntmps32
    go_upto_region 3 with (go_at_call 72; refine (validOps_c _ _ _ _ HR.out).mono ?_; rw [← HV.out]; rintro e w2 ⟨rfl, he⟩; have HE2 := As.mk he; clear he)
    obtain ⟨w3, hm, hir, hex⟩ := make_cnt 20 (by omega) w2
    have hm' : (Instr.makeSlice 23 (.int .i64 20) (.int .i64 20)).run Try.prog w2 = .ok (.slice (some ⟨w2.heap.size, 0, none⟩) 20 20) w3 := hm
    obtain ⟨ad, had⟩ : ∃ ad : Addr, ad = ⟨w2.heap.size, 0, none⟩ := ⟨_, rfl⟩
    have HQ0 : As (CntA w l ad 0 w3) := ⟨by rw [had]; exact ⟨by rw [show cntL (l.take 0) = List.replicate 20 0 from cntL_nil]; exact hir, HE2.out.size, HE2.out.trans hex⟩⟩
    rw [← had] at hm'
    clear hm hir hex had
    go_upto_region 5 with fail
    clear hm'
    go_loopw [4] (fun i wr => ∃ k : Nat, k ≤ l.length ∧ i = .int .i64 k ∧ As (CntA w l ad k wr)) (fun i _ => l.length - (intOf i).toNat)
    case atStart => exact ⟨0, Nat.zero_le _, rfl, HQ0⟩
    case round =>
      obtain ⟨k, hk, rfl, hst⟩ := hrel
      clear HQ0
      by_cases hlt : k < l.length
      · obtain ⟨ad2, rfl, h1, h2⟩ := (HR.out.ext hst.out.2.2).2 k hlt
        have hok := List.all_eq_true.1 HALL.out l[k] (List.getElem_mem hlt)
        have HLT := As.mk hlt
        obtain ⟨x, hx⟩ : ∃ x, x = l[k].code := ⟨_, rfl⟩
        obtain ⟨y, hy⟩ : ∃ y, y = l[k].arg := ⟨_, rfl⟩
        simp only [okO, decide_eq_true_eq] at hok
        rw [← hx] at h1 hok
        rw [← hy] at h2
        obtain ⟨c, rfl⟩ := Int.eq_ofNat_of_zero_le hok.1
        have hc20 : c < 20 := by omega
        have HX := As.mk hx
        clear hok hx hy
        have q1 : (k : Int) < l.length := by omega
        have q2 : (c : Int) < 20 := by omega
        have hcl : cntC (l.take k) (c : Int) ≤ 300 := by have := cntC_le (l.take k) (c : Int); rw [List.length_take] at this; omega
        obtain ⟨q, hq⟩ : ∃ q, q = cntC (l.take k) (c : Int) := ⟨_, rfl⟩
        rw [← hq] at hcl
        have HN : As (∀ wr2, Ext wr wr2 → CntA w l ad (k + 1) (wr2.setCell (ad.add c) (.int .i64 ((q : Int) + 1)))) := ⟨fun wr2 he => by rw [hq]; exact hst.out.next he HLT.out HX.out.symm hc20⟩
        have hcell := hst.out.cell hc20
        rw [← hq] at hcell
        clear hq
        have hwq : IntKind.i64.wrap ((q : Int) + 1) = (q : Int) + 1 := wrapQ _ (by omega) (by omega)
        go_upto_region 7 with fail
        refine region_perm (fun w' => w'.cell? (ad2.add (k * 2)) = some (.int .i64 c) ∧ w'.cell? (ad.add c) = some (.int .i64 q)) [16] [(0, 0), (1, 0), (2, 0), (3, 0), (4, 0), (5, 1), (6, 0), (7, 0), (8, 0), (9, 0), (10, 0), (11, 1), (12, 0), (13, 1), (14, 0), (15, 0), (16, 3)] (by kernel_rfl) (by kernel_rfl) rfl (by kernel_rfl) (fun _ _ _ _ h => h) ?_
        have hS := And.intro h1 hcell.1
        repeat (first | refine wpP.c0 (h := ?_) | refine wpP.c1 (w := wr.drew) hS (h := ?_))
        refine wpP.last (h := fun Kv hKv => ?_)
        have hx1 : Ext wr wr.drew := (Ext.rf _).dr
        have hf1 : wr.drew.frozen? (ad.add c) = false := (IR.fzA (hst.out.1.ext hx1) c).1
        have d1 := hx1.cellOf hcell.1
        have HN2 := As.mk (HN.out _ hx1)
        generalize wr.drew = wd at hf1 d1 HN2 ⊢
        clear hx1 hcell hS h1
        go_wp2_with fail
        refine hKv.out _ _ (wpP.done ?_)
        clear hKv Kv hf1 d1
        go_wp2_with fail
        go_roundw
        case measure => simp only [intOf]; omega
        case rel => exact ⟨k + 1, by omega, by go_num, HN2⟩
      · have hkl : k = l.length := by omega
        have HD : As (CntA w l ad l.length wr) := ⟨by rw [← hkl]; exact hst.out⟩
        have q1 : ¬ (k : Int) < l.length := by omega
        clear hkl
        go_wp2_with fail
        go_ret
        rw [HE.out]
        exact HD.out.out
end Go.Proofs.Ytgenllcfpjgklaa.C
