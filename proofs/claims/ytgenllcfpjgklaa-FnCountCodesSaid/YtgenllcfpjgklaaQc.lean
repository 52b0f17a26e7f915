/- Validity of nodes, as the reference checks it. -/
import Derived.Test.YtgenllcfpjgklaaQk
import Derived.Test.YtgenllcfpjgklaaQb
import Derived.Test.YtgenllcfpjgklaaQp
import Derived.Test.YtgenllcfpjgklaaPv
set_option linter.unusedVariables false
set_option linter.unusedSimpArgs false
namespace Go.Proofs.Ytgenllcfpjgklaa.P
theorem range_all_mono {p : Nat → Bool} {n m : Nat} (h : n ≤ m) (ha : (List.range m).all p = true) : (List.range n).all p = true := by
  rw [List.all_eq_true] at ha ⊢
  intro x hx
  exact ha x (by rw [List.mem_range] at hx ⊢; omega)
theorem range_all_two {p : Nat → Bool} {n : Nat} (ha : (List.range n).all p = true) (h1 : p n = true) (h2 : p (n + 1) = true) : (List.range (n + 2)).all p = true := by
  rw [List.all_eq_true] at ha ⊢
  intro x hx
  rw [List.mem_range] at hx
  rcases Nat.lt_or_ge x n with h | h
  · exact ha x (by rw [List.mem_range]; exact h)
  · rcases Nat.lt_or_ge x (n + 1) with h3 | h3
    · rw [show x = n by omega]; exact h1
    · rw [show x = n + 1 by omega]; exact h2
theorem range_all_no {p : Nat → Bool} {n k : Nat} (hk : k < n) (h : p k = false) : (List.range n).all p = false := by
  rw [List.all_eq_false]; exact ⟨k, by rw [List.mem_range]; exact hk, by simp [h]⟩
end Go.Proofs.Ytgenllcfpjgklaa.P
namespace Go.Proofs.Ytgenllcfpjgklaa.C
open Go.RowKit Go.Proofs.Ytgenllcfpjgklaa.W Go.Proofs.Ytgenllcfpjgklaa.P

theorem getD_at (l : List Int) (k : Nat) (h : k < l.length) : l.getD k 0 = l[k] := by rw [List.getD_eq_getElem?_getD, List.getElem?_eq_getElem h]; rfl
theorem allIn_c (A : Option Addr) (c : Nat) (l : List Int) (lo hi : Int) (w : World) (hr : RdI w A l) : Calls Try.prog 109 #[.slice A l.length c, .int .i64 lo, .int .i64 hi] w fun e w' => e = .returned (.bool (allIn l lo hi)) ∧ w = w' := by
  have hlen := hr.1
  have HR := As.mk hr
  clear hr
  go_enter Try.func109, Try.ntmps109
  go_wp2_with fail
  go_loop [7] (fun i => ∃ k : Nat, k ≤ l.length ∧ i = .int .i64 k ∧ As ((l.take k).all (fun x => decide (lo ≤ x ∧ x ≤ hi)) = true)) (fun i => l.length - (intOf i).toNat)
  case atStart => exact ⟨0, Nat.zero_le _, rfl, ⟨by simp⟩⟩
  case round =>
    obtain ⟨k, hk, rfl, hal⟩ := hrel
    by_cases hlt : k < l.length
    · obtain ⟨ad, rfl, hc⟩ := HR.out.2 k hlt
      obtain ⟨x, hx⟩ : ∃ x, x = l[k] := ⟨_, rfl⟩
      rw [← hx] at hc
      have HX := As.mk hx
      have HLT := As.mk hlt
      have q1 : (k : Int) < l.length := by omega
      obtain ⟨b, hb⟩ : ∃ b, b = inR x lo hi := ⟨_, rfl⟩
      have HB := As.mk hb
      clear hx hb
      cases b with
      | true =>
        go_wp2_with (go_at_call 89; refine (inRange_c _ _ _ _).mono ?_; rw [← HB.out]; rintro e w1 ⟨rfl, rfl⟩)
        go_round
        case measure => simp only [intOf]; omega
        case rel => exact ⟨k + 1, by omega, by go_num, ⟨all_step HLT.out hal.out (by rw [← HX.out]; exact HB.out.symm)⟩⟩
      | false =>
        go_wp2_with (go_at_call 89; refine (inRange_c _ _ _ _).mono ?_; rw [← HB.out]; rintro e w1 ⟨rfl, rfl⟩)
        go_ret
        exact ⟨ret_bool (by unfold allIn; rw [all_stop HLT.out (by rw [← HX.out]; exact HB.out.symm)]), rfl⟩
    · have q1 : ¬ (k : Int) < l.length := by omega
      have HA := As.mk (all_end (by omega) hal.out)
      go_wp2_with fail
      go_ret
      exact ⟨ret_bool (by unfold allIn; rw [HA.out]), rfl⟩
set_option maxRecDepth 100000 in
set_option maxHeartbeats 4000000 in
theorem validDict_c (A : Option Addr) (cA : Nat) (ns : List Nd) (r : Int) (K : Option Addr) (cK : Nat) (kids : List Int) (kd vl : Int) (w : World) (hN : RdN w A ns) (hK : RdI w K kids) (hin : ∀ x ∈ kids, 0 ≤ x ∧ x < ns.length) (hl : kids.length ≤ 6) :
    Calls Try.prog 151 #[.agg #[.slice A ns.length cA, .int .i64 r], .agg #[.int .i64 kd, .int .i64 vl, .slice K kids.length cK]] w fun e w' => e = .returned (.bool (dictB ns kids)) ∧ Ext w w' := by
  have hx : Ext w ((w.alloc (.cells #[.slice A ns.length cA, .int .i64 r] 105)).alloc (.cells #[.int .i64 kd, .int .i64 vl, .slice K kids.length cK] 73)) := ((Ext.rf w).al _).al _
  have ha : GB ((w.alloc (.cells #[.slice A ns.length cA, .int .i64 r] 105)).alloc (.cells #[.int .i64 kd, .int .i64 vl, .slice K kids.length cK] 73)) w.heap.size (.slice A ns.length cA) (.int .i64 r) := ((Ext.rf _).al _).blk (al_new w _)
  have hb : NB ((w.alloc (.cells #[.slice A ns.length cA, .int .i64 r] 105)).alloc (.cells #[.int .i64 kd, .int .i64 vl, .slice K kids.length cK] 73)) (w.heap.size + 1) (.int .i64 kd) (.int .i64 vl) (.slice K kids.length cK) := by have := al_new (w.alloc (.cells #[.slice A ns.length cA, .int .i64 r] 105)) (.cells #[.int .i64 kd, .int .i64 vl, .slice K kids.length cK] 73); rw [al_size] at this; exact this
  have HX := As.mk hx
  have HA := As.mk ha
  have HB := As.mk hb
  have HN := As.mk (hN.ext hx)
  have HK := As.mk (hK.ext hx)
  have HIN := As.mk hin
  clear hN hK hin hx ha hb
  go_enter Try.func151, Try.ntmps151
  go_upto_region 1 with fail
  generalize (w.alloc (.cells #[.slice A ns.length cA, .int .i64 r] 105)).alloc (.cells #[.int .i64 kd, .int .i64 vl, .slice K kids.length cK] 73) = w0 at HX HA HB HN HK ⊢
  generalize w.heap.size = g at HA HB ⊢
  go_wp2_with fail
  go_loopw [5] (fun i wr => ∃ k : Nat, k ≤ kids.length + 1 ∧ k % 2 = 0 ∧ i = .int .i64 k ∧ As ((List.range k).all (fun i => i % 2 == 1 || keyAt ns kids i) = true) ∧ As (Ext w0 wr)) (fun i _ => kids.length + 2 - (intOf i).toNat)
  case atStart => exact ⟨0, Nat.zero_le _, rfl, rfl, ⟨rfl⟩, ⟨Ext.rf _⟩⟩
  case round =>
    obtain ⟨k, hk, hk2, rfl, hal, he⟩ := hrel
    have HK2 := As.mk hk2
    clear hk2
    have c0 := gb_c0 (he.out.blk HA.out)
    have n2 := NB.c2 (he.out.blk HB.out)
    by_cases hlt : k < kids.length
    · obtain ⟨aK, rfl, x0⟩ := (HK.out.ext he.out).2 k hlt
      have hxm := HIN.out _ (List.getElem_mem hlt)
      obtain ⟨x, hxx⟩ : ∃ x, x = kids[k] := ⟨_, rfl⟩
      rw [← hxx] at x0 hxm
      obtain ⟨j, rfl⟩ := Int.eq_ofNat_of_zero_le hxm.1
      have hj : j < ns.length := by omega
      obtain ⟨aN, K1, c1, rfl, y0, y1, y2, -, -⟩ := (HN.out.ext he.out).2 j hj
      have HXX := As.mk (show kids.getD k 0 = (j : Int) by rw [getD_at _ _ hlt, ← hxx])
      have HND := As.mk (show atN ns (kids.getD k 0) = ns[j] by rw [HXX.out, atN_get j hj])
      obtain ⟨kj, hkj⟩ : ∃ kj, kj = ns[j].kind := ⟨_, rfl⟩
      obtain ⟨vj, hvj⟩ : ∃ vj, vj = ns[j].val := ⟨_, rfl⟩
      obtain ⟨lj, hlj⟩ : ∃ lj, lj = ns[j].kids.length := ⟨_, rfl⟩
      rw [← hkj] at y0
      rw [← hvj] at y1
      rw [← hlj] at y2
      have HKJ := As.mk hkj
      have HVJ := As.mk hvj
      have q1 : (k : Int) < kids.length := by omega
      have q2 : (j : Int) < ns.length := by omega
      clear hxx hkj hvj hlj hxm
      have HLT := As.mk hlt
      go_upto_region 4 with fail
      refine region_perm (fun w' => w'.cell? ⟨g, 0, none⟩ = some (.slice (some aN) ns.length cA) ∧ w'.cell? ⟨g + 1, 2, none⟩ = some (.slice (some aK) kids.length cK) ∧ w'.cell? (aK.add k) = some (.int .i64 j) ∧ w'.cell? (aN.add (j * 3)) = some (.int .i64 kj) ∧ w'.cell? ⟨(aN.add (j * 3)).block, (aN.add (j * 3)).off + 1, none⟩ = some (.int .i64 vj) ∧ w'.cell? ⟨(aN.add (j * 3)).block, (aN.add (j * 3)).off + 2, none⟩ = some (.slice K1 lj c1)) [] [(0, 0), (1, 1), (2, 0), (3, 1), (4, 0), (5, 0), (6, 1), (7, 0), (8, 1), (9, 2), (10, 0)] (by kernel_rfl) (by kernel_rfl) rfl (by kernel_rfl) (fun _ _ _ _ h => h) ?_
      have hS := And.intro c0 (And.intro n2 (And.intro x0 (And.intro y0 (And.intro y1 y2))))
      repeat (first | refine wpP.c0 (h := ?_) | refine wpP.c1 (w := wr.drew) hS (h := ?_))
      refine wpP.ev (h := fun Kv hKv => ?_)
      have HD := As.mk ((Ext.rf wr).dr)
      generalize wr.drew = wd at HD ⊢
      obtain ⟨b, hbb⟩ : ∃ b, b = decide (kj = 0 ∨ kj = 1) := ⟨_, rfl⟩
      have HBB := As.mk hbb
      clear hbb
      go_wp2_with (go_at_call 110; refine (sisKey_c _ _ _ _).mono ?_; rw [← HBB.out]; rintro e w3 ⟨rfl, hx⟩; have HX3 := As.mk (HD.out.trans hx); clear hx)
      refine hKv.out _ _ ⟨HX3.out.cellOf c0, HX3.out.cellOf n2, HX3.out.cellOf x0, HX3.out.cellOf y0, HX3.out.cellOf y1, HX3.out.cellOf y2⟩ ?_
      clear hKv Kv hS
      repeat (first | refine wpP.c0 (h := ?_))
      refine wpP.done ?_
      have HE3 := As.mk (he.out.trans HX3.out)
      replace c0 := HX3.out.cellOf c0; replace n2 := HX3.out.cellOf n2; replace x0 := HX3.out.cellOf x0; replace y0 := HX3.out.cellOf y0; replace y1 := HX3.out.cellOf y1; replace y2 := HX3.out.cellOf y2
      cases b with
      | false =>
        have HF : As (dictB ns kids = false) := ⟨by
          unfold dictB
          rw [range_all_no HLT.out (show (k % 2 == 1 || keyAt ns kids k) = false by
            unfold keyAt keyB
            rw [HND.out, ← HKJ.out, ← HBB.out]
            have := HK2.out
            simp; omega)]; rfl⟩
        clear c0 n2 x0 y0 y1 y2
        go_wp2_with fail
        go_ret
        exact ⟨ret_bool HF.out.symm, HX.out.trans HE3.out⟩
      | true =>
        simp only [Bool.not_true]
        go_wp2_with fail
        go_loopw [6] (fun i wi => ∃ m : Nat, m ≤ k + 1 ∧ m % 2 = 0 ∧ i = .int .i64 m ∧ As ((List.range m).all (fun i => i % 2 == 1 || !sameB (atN ns (kids.getD k 0)) (atN ns (kids.getD i 0))) = true) ∧ As (Ext w3 wi)) (fun i _ => k + 2 - (intOf i).toNat)
        case atStart => exact ⟨0, Nat.zero_le _, rfl, rfl, ⟨rfl⟩, ⟨Ext.rf _⟩⟩
        case round =>
          obtain ⟨m, hm, hm2, rfl, hal2, he2⟩ := hrel
          have HM2 := As.mk hm2
          clear hm2
          by_cases hlm : m < k
          · have hlm2 : m < kids.length := by omega
            obtain ⟨_, hA, z0⟩ := ((HK.out.ext HE3.out).ext he2.out).2 m hlm2
            cases hA
            have hxm := HIN.out _ (List.getElem_mem hlm2)
            obtain ⟨y, hyy⟩ : ∃ y, y = kids[m] := ⟨_, rfl⟩
            rw [← hyy] at z0 hxm
            obtain ⟨i, rfl⟩ := Int.eq_ofNat_of_zero_le hxm.1
            have hi : i < ns.length := by omega
            obtain ⟨_, K2, c2, hA, u0, u1, u2, -, -⟩ := ((HN.out.ext HE3.out).ext he2.out).2 i hi
            cases hA
            have HYY := As.mk (show kids.getD m 0 = (i : Int) by rw [getD_at _ _ hlm2, ← hyy])
            have HNI := As.mk (show atN ns (kids.getD m 0) = ns[i] by rw [HYY.out, atN_get i hi])
            obtain ⟨ki, hki⟩ : ∃ ki, ki = ns[i].kind := ⟨_, rfl⟩
            obtain ⟨vi, hvi⟩ : ∃ vi, vi = ns[i].val := ⟨_, rfl⟩
            obtain ⟨li, hli⟩ : ∃ li, li = ns[i].kids.length := ⟨_, rfl⟩
            rw [← hki] at u0
            rw [← hvi] at u1
            rw [← hli] at u2
            have HKI := As.mk hki
            have HVI := As.mk hvi
            have q3 : (m : Int) < kids.length := by omega
            have q4 : (i : Int) < ns.length := by omega
            have q5 : (m : Int) < k := by omega
            have HLM := As.mk hlm
            have t0 := he2.out.cellOf c0; have t1 := he2.out.cellOf n2; have t2 := he2.out.cellOf x0; have t3 := he2.out.cellOf y0; have t4 := he2.out.cellOf y1; have t5 := he2.out.cellOf y2
            clear hyy hki hvi hli hxm
            obtain ⟨b, hbb⟩ : ∃ b, b = decide (kj = ki ∧ vj = vi) := ⟨_, rfl⟩
            have HBB2 := As.mk hbb
            clear hbb
            go_upto_region 9 with fail
            refine region_perm (fun w' => w'.cell? ⟨g, 0, none⟩ = some (.slice (some aN) ns.length cA) ∧ w'.cell? ⟨g + 1, 2, none⟩ = some (.slice (some aK) kids.length cK) ∧ w'.cell? (aK.add k) = some (.int .i64 j) ∧ w'.cell? (aN.add (j * 3)) = some (.int .i64 kj) ∧ w'.cell? ⟨(aN.add (j * 3)).block, (aN.add (j * 3)).off + 1, none⟩ = some (.int .i64 vj) ∧ w'.cell? ⟨(aN.add (j * 3)).block, (aN.add (j * 3)).off + 2, none⟩ = some (.slice K1 lj c1) ∧ w'.cell? (aK.add m) = some (.int .i64 i) ∧ w'.cell? (aN.add (i * 3)) = some (.int .i64 ki) ∧ w'.cell? ⟨(aN.add (i * 3)).block, (aN.add (i * 3)).off + 1, none⟩ = some (.int .i64 vi) ∧ w'.cell? ⟨(aN.add (i * 3)).block, (aN.add (i * 3)).off + 2, none⟩ = some (.slice K2 li c2)) [] [(0, 0), (1, 1), (2, 0), (3, 1), (4, 0), (5, 0), (6, 1), (7, 0), (8, 1), (9, 0), (10, 1), (11, 0), (12, 1), (13, 0), (14, 0), (15, 1), (16, 0), (17, 1), (18, 2)] (by kernel_rfl) (by kernel_rfl) rfl (by kernel_rfl) (fun _ _ _ _ h => h) ?_
            have hS := And.intro t0 (And.intro t1 (And.intro t2 (And.intro t3 (And.intro t4 (And.intro t5 (And.intro z0 (And.intro u0 (And.intro u1 u2))))))))
            repeat (first | refine wpP.c0 (h := ?_) | refine wpP.c1 (w := wr.drew) hS (h := ?_))
            refine wpP.ev (h := fun Kv hKv => ?_)
            have HD2 := As.mk ((Ext.rf wr).dr)
            generalize wr.drew = wd at HD2 ⊢
            go_wp2_with (go_at_call 152; refine (ssameKey_c _ _ _ _ _ _ _).mono ?_; rw [← HBB2.out]; rintro e w4 ⟨rfl, hx⟩; have HX4 := As.mk (HD2.out.trans hx); clear hx)
            refine hKv.out _ _ ⟨HX4.out.cellOf t0, HX4.out.cellOf t1, HX4.out.cellOf t2, HX4.out.cellOf t3, HX4.out.cellOf t4, HX4.out.cellOf t5, HX4.out.cellOf z0, HX4.out.cellOf u0, HX4.out.cellOf u1, HX4.out.cellOf u2⟩ ?_
            clear hKv Kv hS t0 t1 t2 t3 t4 t5 z0 u0 u1 u2
            refine wpP.done ?_
            have HS : As (sameB (atN ns (kids.getD k 0)) (atN ns (kids.getD m 0)) = b) := ⟨by rw [HND.out, HNI.out]; unfold sameB; rw [← HKJ.out, ← HVJ.out, ← HKI.out, ← HVI.out, HBB2.out]⟩
            have HE4 := As.mk (he2.out.trans HX4.out)
            cases b with
            | true =>
              have HF : As (dictB ns kids = false) := ⟨by
                unfold dictB
                rw [range_all_no HLT.out (show (k % 2 == 1 || keyAt ns kids k) = false by
                  unfold keyAt
                  rw [range_all_no HLM.out (show (m % 2 == 1 || !sameB (atN ns (kids.getD k 0)) (atN ns (kids.getD m 0))) = false by rw [HS.out]; have := HM2.out; simp; omega)]
                  have := HK2.out
                  simp; omega)]; rfl⟩
              go_wp2_with fail
              go_ret
              exact ⟨ret_bool HF.out.symm, HX.out.trans (HE3.out.trans HE4.out)⟩
            | false =>
              go_wp2_with fail
              go_roundw
              case measure => simp only [intOf]; omega
              case rel => exact ⟨m + 2, by have := HM2.out; have := HK2.out; omega, by have := HM2.out; omega, by go_num, ⟨range_all_two hal2.out (by rw [HS.out]; simp) (by have := HM2.out; simp; omega)⟩, HE4⟩
          · have q5 : ¬ (m : Int) < k := by omega
            have HKA : As (keyAt ns kids k = true) := ⟨by
              unfold keyAt
              rw [range_all_mono (show k ≤ m by omega) hal2.out, HND.out]
              unfold keyB
              rw [← HKJ.out, ← HBB.out]; rfl⟩
            have HE4 := As.mk (HE3.out.trans he2.out)
            clear c0 n2 x0 y0 y1 y2
            go_wp2_with fail
            go_roundw
            case measure => simp only [intOf]; omega
            case rel => exact ⟨k + 2, by have := HLT.out; omega, by have := HK2.out; omega, by go_num, ⟨range_all_two hal.out (by rw [HKA.out]; simp) (by have := HK2.out; simp; omega)⟩, HE4⟩
    · have q1 : ¬ (k : Int) < kids.length := by omega
      have HA1 := As.mk (range_all_mono (show kids.length ≤ k by omega) hal.out)
      go_wp2_with fail
      go_ret
      refine ⟨ret_bool ?_, HX.out.trans he.out⟩
      unfold dictB
      rw [HA1.out]
      rw [Bool.true_and, Bool.eq_iff_iff]
      simp only [beq_iff_eq]
      omega
end Go.Proofs.Ytgenllcfpjgklaa.C
