/- Rules: both checks of them. -/
import Derived.Test.YtcodbpjaamggeaaJa
import Derived.Test.YtcodbpjaamggeaaBa
set_option linter.unusedVariables false
set_option linter.unusedSimpArgs false
namespace Go.Proofs.Ytcodbpjaamggeaa.C
open Go.RowKit Go.Proofs.Ytcodbpjaamggeaa.W Go.Proofs.Ytcodbpjaamggeaa.P

abbrev RuB (w : World) (g : Nat) (r : Rl) (A : Option Addr) (c : Nat) : Prop := w.heap[g]? = some (.cells #[.int .i64 r.steps, .int .i64 r.nodes, .int .i64 r.deep, .slice A r.cls.length c] 45 (0, 0))
section
variable {w : World} {g : Nat} {r : Rl} {A : Option Addr} {c : Nat}
theorem RuB.c0 (h : RuB w g r A c) : w.cell? ⟨g, 0, none⟩ = some (.int .i64 r.steps) := by simp [World.cell?, h]
theorem RuB.c1 (h : RuB w g r A c) : w.cell? ⟨g, 1, none⟩ = some (.int .i64 r.nodes) := by simp [World.cell?, h]
theorem RuB.c2 (h : RuB w g r A c) : w.cell? ⟨g, 2, none⟩ = some (.int .i64 r.deep) := by simp [World.cell?, h]
theorem RuB.c3 (h : RuB w g r A c) : w.cell? ⟨g, 3, none⟩ = some (.slice A r.cls.length c) := by simp [World.cell?, h]
end
theorem infoI_one : ∃ i, Try.prog.info? 3 = some i ∧ i.size = 1 := by
  obtain ⟨i, h, h2⟩ := Option.map_eq_some_iff.1 infoI
  exact ⟨i, h, by simp only [Prod.mk.injEq] at h2; exact h2.2.1⟩
theorem slice_toN (A : Option Addr) (n c : Nat) (m : Nat) (hm : m ≤ n) (hc : n ≤ c) : ∀ W : World, (Instr.slice 32 (.slice A n c) none (some (.int .i64 (m : Int))) none).run Try.prog W = .ok (.slice A m c) W := by
  intro W
  obtain ⟨inf, hi, hsz⟩ := infoI_one
  have := slice_to (P := Try.prog) 32 3 (by kernel_rfl) hi hsz A n c (m : Int) (by omega) (by omega) hc W
  rwa [Int.toNat_natCast] at this
theorem placeIn_k (A : Option Addr) (c m : Nat) (l : List Int) (n : Int) (w : World) (hr : RdI w A l) (hm : l.length = m) : Calls Try.prog 137 #[.slice A m c, .int .i64 n] w fun e w' => e = .returned (.int .i64 (plc l n)) ∧ w = w' := by
  subst hm; exact placeIn_c A c l n w hr
theorem ok1_of (l : List Int) (k : Nat) (h : k < l.length) : ok1 l k = (decide (0 ≤ l[k] ∧ l[k] ≤ 9) && !(l.take k).contains l[k]) := by
  unfold ok1
  rw [List.getD_eq_getElem?_getD, List.getElem?_eq_getElem h]
  rfl
theorem vRules_bad {r : Rl} {k : Nat} (hk : k < r.cls.length) (h : ok1 r.cls k = false) : vRules r = false := by
  unfold vRules
  rw [okC_stop r.cls k h _ hk]; rfl
theorem vRules_end {r : Rl} (h : okC r.cls r.cls.length = true) : vRules r = (rng r.steps 300 && rng r.nodes 300 && rng r.deep 300) := by
  unfold vRules
  rw [h]; rfl

set_option maxRecDepth 100000 in
set_option maxHeartbeats 1000000 in
theorem ValidRules_c (A : Option Addr) (c : Nat) (r : Rl) (w : World) (hr : RdI w A r.cls) (hc : r.cls.length ≤ c) :
    Calls Try.prog 100 #[.agg #[.int .i64 r.steps, .int .i64 r.nodes, .int .i64 r.deep, .slice A r.cls.length c]] w fun e w' => e = .returned (.bool (vRules r)) ∧ Ext w w' := by
  have hlen := hr.1
  have HR := As.mk (hr.ext ((Ext.rf w).al (.cells #[.int .i64 r.steps, .int .i64 r.nodes, .int .i64 r.deep, .slice A r.cls.length c] 45)))
  have HC := As.mk hc
  clear hr hc
  go_enter Try.func100, Try.ntmps100
  go_upto_region 1 with fail
  have hb := al_new w (.cells #[.int .i64 r.steps, .int .i64 r.nodes, .int .i64 r.deep, .slice A r.cls.length c] 45)
  have HE := As.mk ((Ext.rf w).al (.cells #[.int .i64 r.steps, .int .i64 r.nodes, .int .i64 r.deep, .slice A r.cls.length c] 45))
  generalize w.alloc (.cells #[.int .i64 r.steps, .int .i64 r.nodes, .int .i64 r.deep, .slice A r.cls.length c] 45) = w1 at hb HE HR ⊢
  generalize w.heap.size = g at hb ⊢
  have b0 := RuB.c0 hb; have b1 := RuB.c1 hb; have b2 := RuB.c2 hb; have b3 := RuB.c3 hb
  clear hb
  go_upto_region 2 with fail
  go_loop [8] (fun i => ∃ k : Nat, k ≤ r.cls.length ∧ i = .int .i64 k ∧ As (okC r.cls k = true)) (fun i => r.cls.length - (intOf i).toNat)
  case atStart => exact ⟨0, Nat.zero_le _, rfl, ⟨rfl⟩⟩
  case round =>
    obtain ⟨k, hk, rfl, hn⟩ := hrel
    by_cases hlt : k < r.cls.length
    · obtain ⟨ad, rfl, h1⟩ := HR.out.2 k hlt
      obtain ⟨z, hz⟩ : ∃ z, z = r.cls[k] := ⟨_, rfl⟩
      rw [← hz] at h1
      have hok := ok1_of r.cls k hlt
      rw [← hz] at hok
      have HOK := As.mk hok
      clear hz hok
      have q1 : (k : Int) < r.cls.length := by omega
      have hs := slice_toN (some ad) r.cls.length c k hk HC.out
      rcases (show z < 0 ∨ 0 ≤ z by omega) with z0 | z0
      rotate_left
      · rcases (show 9 < z ∨ z ≤ 9 by omega) with z9 | z9
        rotate_left
        · have htl : (r.cls.take k).length = k := by rw [List.length_take]; omega
          have HTL := As.mk htl
          clear htl
          cases hcn : (r.cls.take k).contains z with
          | true =>
            have HCN := As.mk hcn
            clear hcn
            go_wp2_with (go_at_call 101; refine (Contains_c _ _ _ _ _ _ (HR.out.take k) HTL.out).mono ?_; rw [HCN.out]; rintro e w2 ⟨rfl, rfl⟩)
            go_ret
            exact ⟨ret_bool (vRules_bad hlt (by rw [HOK.out, HCN.out]; simp)).symm, HE.out⟩
          | false =>
            have HCN := As.mk hcn
            clear hcn
            go_wp2_with (go_at_call 101; refine (Contains_c _ _ _ _ _ _ (HR.out.take k) HTL.out).mono ?_; rw [HCN.out]; rintro e w2 ⟨rfl, rfl⟩)
            go_round
            case measure => simp only [intOf]; omega
            case rel => exact ⟨k + 1, by omega, by go_num, ⟨by
              show (okC r.cls k && ok1 r.cls k) = true
              rw [hn.out, HOK.out, HCN.out]; simp; omega⟩⟩
        · go_wp2_with fail
          go_ret
          exact ⟨ret_bool (vRules_bad hlt (by rw [HOK.out]; simp; omega)).symm, HE.out⟩
      · go_wp2_with fail
        go_ret
        exact ⟨ret_bool (vRules_bad hlt (by rw [HOK.out]; simp; omega)).symm, HE.out⟩
    · have hkl : k = r.cls.length := by omega
      subst hkl
      have HV := As.mk (vRules_end hn.out)
      clear hn hlt hk
      rcases bcase (0 ≤ r.steps) with s0 | s0
      · rcases bcase (r.steps ≤ 300) with s1 | s1
        · rcases bcase (0 ≤ r.nodes) with n0 | n0
          · rcases bcase (r.nodes ≤ 300) with n1 | n1
            · rcases bcase (0 ≤ r.deep) with d0 | d0
              · rcases bcase (r.deep ≤ 300) with d1 | d1
                · go_wp2_with fail
                  go_ret
                  exact ⟨ret_bool (by rw [HV.out]; unfold rng; simp; omega), HE.out⟩
                · go_wp2_with fail
                  go_ret
                  exact ⟨ret_bool (by rw [HV.out]; unfold rng; simp at d1 ⊢; omega), HE.out⟩
              · go_wp2_with fail
                go_ret
                exact ⟨ret_bool (by rw [HV.out]; unfold rng; simp at d0 ⊢; omega), HE.out⟩
            · go_wp2_with fail
              go_ret
              exact ⟨ret_bool (by rw [HV.out]; unfold rng; simp at n1 ⊢; omega), HE.out⟩
          · go_wp2_with fail
            go_ret
            exact ⟨ret_bool (by rw [HV.out]; unfold rng; simp at n0 ⊢; omega), HE.out⟩
        · go_wp2_with fail
          go_ret
          exact ⟨ret_bool (by rw [HV.out]; unfold rng; simp at s1 ⊢; omega), HE.out⟩
      · go_wp2_with fail
        go_ret
        exact ⟨ret_bool (by rw [HV.out]; unfold rng; simp at s0 ⊢; omega), HE.out⟩
set_option maxRecDepth 100000 in
set_option maxHeartbeats 1000000 in
theorem validRules_c (A : Option Addr) (c : Nat) (r : Rl) (w : World) (hr : RdI w A r.cls) (hc : r.cls.length ≤ c) :
    Calls Try.prog 97 #[.agg #[.int .i64 r.steps, .int .i64 r.nodes, .int .i64 r.deep, .slice A r.cls.length c]] w fun e w' => e = .returned (.bool (vRules r)) ∧ Ext w w' := by
  have hlen := hr.1
  have HR := As.mk hr
  have HC := As.mk hc
  clear hr hc
  go_enter Try.func97, Try.ntmps97
  go_upto_region 1 with fail
  have hb := al_new w (.cells #[.int .i64 r.steps, .int .i64 r.nodes, .int .i64 r.deep, .slice A r.cls.length c] 45)
  have HE := As.mk ((Ext.rf w).al (.cells #[.int .i64 r.steps, .int .i64 r.nodes, .int .i64 r.deep, .slice A r.cls.length c] 45))
  generalize w.alloc (.cells #[.int .i64 r.steps, .int .i64 r.nodes, .int .i64 r.deep, .slice A r.cls.length c] 45) = w1 at hb HE ⊢
  generalize w.heap.size = g at hb ⊢
  have HB := As.mk hb
  clear hb
  go_upto_region 2 with fail
  go_loopw [3] (fun i wr => ∃ k : Nat, k ≤ r.cls.length ∧ i = .int .i64 k ∧ As (okC r.cls k = true) ∧ As (Ext w1 wr)) (fun i _ => r.cls.length - (intOf i).toNat)
  case atStart => exact ⟨0, Nat.zero_le _, rfl, ⟨rfl⟩, ⟨Ext.rf _⟩⟩
  case round =>
    obtain ⟨k, hk, rfl, hn, hew⟩ := hrel
    have hb := hew.out.blk HB.out
    have b0 := RuB.c0 hb; have b1 := RuB.c1 hb; have b2 := RuB.c2 hb; have b3 := RuB.c3 hb
    clear hb
    by_cases hlt : k < r.cls.length
    · obtain ⟨ad, rfl, h1⟩ := (HR.out.ext (HE.out.trans hew.out)).2 k hlt
      obtain ⟨z, hz⟩ : ∃ z, z = r.cls[k] := ⟨_, rfl⟩
      rw [← hz] at h1
      have hok := ok1_of r.cls k hlt
      rw [← hz] at hok
      have HOK := As.mk hok
      clear hz hok
      have q1 : (k : Int) < r.cls.length := by omega
      have hs := slice_toN (some ad) r.cls.length c k hk HC.out
      have htl : (r.cls.take k).length = k := by rw [List.length_take]; omega
      have HTL := As.mk htl
      clear htl
      cases h9 : inR z 0 9 with
      | true =>
        have H9 := As.mk h9
        have hz9 : 0 ≤ z ∧ z ≤ 9 := of_decide_eq_true h9
        have HZ9 := As.mk hz9
        clear h9 hz9
        obtain ⟨p, hp⟩ : ∃ p, p = plc (r.cls.take k) z := ⟨_, rfl⟩
        have hpc := plc_con (r.cls.take k) z
        rw [← hp] at hpc
        have HP := As.mk hp
        have HPC := As.mk hpc
        clear hp hpc
        go_upto_region 4 with fail
        have HRK := As.mk (((HR.out.ext (HE.out.trans hew.out)).take k))
        rcases bcase (0 ≤ p) with p0 | p0
        · go_quiet ((first | (go_at_call 85; exact Calls.quiet_of_same ((inRange_c _ _ _ _).mono fun _ _ h => ⟨h.1.trans (by rw [H9.out]), h.2.symm⟩)) | (go_at_call 137; exact Calls.quiet_of_same ((placeIn_k _ _ _ _ _ _ (HRK.out.ext ((Ext.rf _).dN _)) HTL.out).mono fun _ _ h => ⟨h.1.trans (by rw [← HP.out]), h.2.symm⟩))))
          go_wp2_with fail
          go_ret
          exact ⟨ret_bool (vRules_bad hlt (by rw [HOK.out, ← HPC.out]; simp [p0])).symm, HE.out.trans (hew.out.dN _)⟩
        · go_quiet ((first | (go_at_call 85; exact Calls.quiet_of_same ((inRange_c _ _ _ _).mono fun _ _ h => ⟨h.1.trans (by rw [H9.out]), h.2.symm⟩)) | (go_at_call 137; exact Calls.quiet_of_same ((placeIn_k _ _ _ _ _ _ (HRK.out.ext ((Ext.rf _).dN _)) HTL.out).mono fun _ _ h => ⟨h.1.trans (by rw [← HP.out]), h.2.symm⟩))))
          go_wp2_with fail
          go_roundw
          case measure => simp only [intOf]; omega
          case rel => exact ⟨k + 1, by omega, by go_num, ⟨by
            show (okC r.cls k && ok1 r.cls k) = true
            rw [hn.out, HOK.out, ← HPC.out, p0, Bool.and_eq_true, Bool.and_eq_true]
            exact ⟨rfl, decide_eq_true HZ9.out, rfl⟩⟩, ⟨hew.out.dN _⟩⟩
      | false =>
        have H9 := As.mk h9
        have hz9 : ¬ (0 ≤ z ∧ z ≤ 9) := of_decide_eq_false h9
        have HZ9 := As.mk hz9
        clear h9 hz9
        go_upto_region 4 with fail
        go_quiet ((first | (go_at_call 85; exact Calls.quiet_of_same ((inRange_c _ _ _ _).mono fun _ _ h => ⟨h.1.trans (by rw [H9.out]), h.2.symm⟩))))
        go_wp2_with fail
        go_ret
        exact ⟨ret_bool (vRules_bad hlt (by rw [HOK.out, decide_eq_false HZ9.out]; rfl)).symm, HE.out.trans (hew.out.dN _)⟩
    · have hkl : k = r.cls.length := by omega
      subst hkl
      have HV := As.mk (vRules_end hn.out)
      clear hn hlt hk
      cases i1 : inR r.steps 0 300 <;> cases i2 : inR r.nodes 0 300 <;> cases i3 : inR r.deep 0 300
      all_goals
        have I := As.mk (And.intro i1 (And.intro i2 i3))
        go_wp2_with (go_at_call 85; refine (inRange_c _ _ _ _).mono ?_; simp only [i1, i2, i3]; rintro e w2 ⟨rfl, rfl⟩)
        go_ret
        refine ⟨ret_bool ?_, HE.out.trans hew.out⟩
        rw [HV.out]
        show _ = (inR r.steps 0 300 && inR r.nodes 0 300 && inR r.deep 0 300)
        rw [I.out.1, I.out.2.1, I.out.2.2]; rfl
end Go.Proofs.Ytcodbpjaamggeaa.C
