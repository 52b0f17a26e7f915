/- spec.EndOps. -/
import Derived.Test.YtgenllcfpjgklaaIj
import Derived.Deep.DeepCutAuto
import Derived.Deep.CutBlock
set_option linter.unusedVariables false
set_option linter.unusedSimpArgs false
namespace Go.Proofs.Ytgenllcfpjgklaa.C
open Go.RowKit Go.Proofs.Ytgenllcfpjgklaa.W Go.Proofs.Ytgenllcfpjgklaa.P

theorem runP_take : ∀ (l : List Opr) (m : Mc), runP m (l.take (runP m l).2) = ((runP m l).1, (runP m l).2)
  | [], m => rfl
  | o :: l, m => by
    simp only [runP]
    cases hs : stepP m o with
    | none => rfl
    | some m1 =>
      simp only [List.take_succ_cons, runP, hs]
      rw [runP_take l m1]
theorem firstMark_no {s : List Int} {k : Nat} (hk : k < s.length) (h0 : cntN (s.take k) = 0) (h : s[k] < 0) : firstMark s = k := by
  have e : s = s.take k ++ s[k] :: s.drop (k + 1) := by rw [← List.drop_eq_getElem_cons hk, List.take_append_drop]
  have h1 := firstMark_none h0 s[k] h (s.drop (k + 1))
  rw [← e] at h1
  rw [h1, List.length_take]
  omega
theorem firstMark_end {s : List Int} (h0 : cntN s = 0) : firstMark s = s.length := firstMark_all (cntN_pos h0)
/-- Shapes in their variable, and two rows of orders of our own. -/
structure EJ (w W : World) (g : Nat) (sh : Sh) (vK vF vS vM : Value) (v : Value) (x : List Opr) (u : Value) (y : List Opr) : Prop where
  b : SB W g vK vF vS vM sh.done
  s : SV W vK vF vS vM sh
  ov : OR W v x
  ou : OR W u y
  e : Ext w W
  fv : Fresh v w
  fu : Fresh u w
  a : Apart v u
theorem EJ.ext {w W W' g sh vK vF vS vM v x u y} (h : EJ w W g sh vK vF vS vM v x u y) (e : Ext W W') : EJ w W' g sh vK vF vS vM v x u y :=
  ⟨e.blk h.b, h.s.ext e, h.ov.ext e, h.ou.ext e, h.e.trans e, h.fv, h.fu, h.a⟩
theorem EJ.swap {w W g sh vK vF vS vM v x u y} (h : EJ w W g sh vK vF vS vM v x u y) : EJ w W g sh vK vF vS vM u y v x :=
  ⟨h.b, h.s, h.ou, h.ov, h.e, h.fu, h.fv, h.a.symm⟩
theorem EJ.put {w W W' g sh vK vF vS vM v x u y} {u' : Value} {y' : List Opr} (h : EJ w W g sh vK vF vS vM v x u y) (ho : OR W' u' y') (hf : Fr (fun k => u.ownBlock = some k) W W') (hb : FreshOr u u' W) : EJ w W' g sh vK vF vS vM v x u' y' := by
  have hfr : Fresh u' w := fun k hk => by
    rcases hb with e | ⟨b, e1, e2⟩
    · exact h.fu k (by rw [← e]; exact hk)
    · rw [hk] at e1; injection e1 with e1; subst e1; exact Nat.le_trans h.e.size e2
  refine ⟨hf.blk h.b (fun e => own_ne_blk h.ou h.b (by decide) e), h.s.fr hf (fun k hk e => ?_), h.ov.fr hf (fun k hk e => h.a k hk e), ho, fr_ext h.e hf h.fu, h.fv, hfr, ?_⟩
  · rcases hk with hk | hk | hk | hk
    · exact own_ne_type h.s.k h.ou (by decide) hk e
    · exact own_ne_type h.s.f h.ou (by decide) hk e
    · exact own_ne_type h.s.t h.ou (by decide) hk e
    · exact own_ne_type h.s.m h.ou (by decide) hk e
  · intro k hk hk2
    rcases hb with e | ⟨b, e1, e2⟩
    · exact h.a k hk (by rw [← e]; exact hk2)
    · rw [hk2] at e1; injection e1 with e1; subst e1
      have := own_lt h.ov hk
      omega
theorem EJ.app {w W W' g sh vK vF vS vM v x u y} {o : Opr} {gP cP : Nat} (h : EJ w W g sh vK vF vS vM v x u y) (hap : AppO u y (y ++ [o]) W gP cP W') : EJ w W' g sh vK vF vS vM v x (.slice (some ⟨gP, 0, none⟩) (y.length + 1) cP) (y ++ [o]) := by
  obtain ⟨a1, a2, a3, _, _⟩ := hap
  have hs : (y ++ [o]).length = y.length + 1 := by simp
  rw [hs] at a1
  exact h.put a1 a2 (a3.imp (fun e => by rw [e]; rfl) (fun e => ⟨gP, rfl, e⟩))
theorem EJ.lit {w W g sh vK vF vS vM v x} (h : EJ w W g sh vK vF vS vM v x (.slice none 0 0) []) : EJ w (W.alloc (.cells #[] 52)) g sh vK vF vS vM v x (.slice (some ⟨W.heap.size, 0, none⟩) 0 0) [] :=
  h.put (own_zero (World.ownsRow_lit (base := 0) (size := 2) W #[] 0 (Nat.zero_le _) (by simp) rfl)) (Fr.ofExt ((Ext.rf _).al _)) (.inr ⟨W.heap.size, rfl, Nat.le_refl _⟩)
theorem EJ.make {w W g sh vK vF vS vM} (b : SB W g vK vF vS vM sh.done) (s : SV W vK vF vS vM sh) (e : Ext w W) : EJ w W g sh vK vF vS vM (.slice none 0 0) [] (.slice none 0 0) [] :=
  ⟨b, s, nilO W, nilO W, e, fun k hk => (nil_own hk).elim, fun k hk => (nil_own hk).elim, fun k hk => (nil_own hk).elim⟩
/-- The row is x and some equal orders. -/
def OutJ (w : World) (g : Nat) (sh : Sh) (vK vF vS vM : Value) (y : List Opr) (o : Value) (W : World) : Prop := ∃ A' n c', o = .slice A' n c' ∧ n = y.length ∧ EJ w W g sh vK vF vS vM (.slice none 0 0) [] (.slice A' n c') y
theorem outJ_next {w W W' : World} {g : Nat} {sh : Sh} {vK vF vS vM : Value} {y y2 : List Opr} {o : Opr} {n : Nat} {A' : Option Addr} {c' gP cP : Nat} (h : EJ w W g sh vK vF vS vM (.slice none 0 0) [] (.slice A' n c') y) (hn : n = y.length)
    (hap : AppO (.slice A' n c') y (y ++ [o]) W gP cP W') (hy : y2 = y ++ [o]) : OutJ w g sh vK vF vS vM y2 (.slice (some ⟨gP, 0, none⟩) (n + 1) cP) W' := by
  have := h.app hap
  subst hn hy
  exact ⟨_, _, _, rfl, by simp, this⟩
theorem endRun {ops out : List Opr} (hv : vOps ops = true) (ho : out.all okO = true) {nn : Nat} (hn : nn = (runP newM ops).2) : (ops.take nn ++ out).all okO = true ∧ (ops.take nn).length = nn ∧ (runS newS (ops.take nn ++ out)).2 = nn + (runP (runP newM ops).1 out).2 ∧ vOps (ops.take nn ++ out) = decide (nn + out.length ≤ 300) := by
  have hall := vOps_all hv
  have hle : nn ≤ ops.length := by rw [hn]; exact runP_le ops newM
  have h1 : (ops.take nn).all okO = true := by
    rw [List.all_eq_true]
    intro x hx
    exact List.all_eq_true.1 hall.1 x (List.mem_of_mem_take hx)
  have h2 : (ops.take nn ++ out).all okO = true := by rw [List.all_append, h1, ho]; rfl
  have h3 : (ops.take nn).length = nn := by rw [List.length_take]; omega
  refine ⟨h2, h3, ?_, ?_⟩
  · rw [runS_new h2]
    have h4 := runP_take ops newM
    rw [← hn] at h4
    rw [runP_app _ _ newM (runP newM ops).1 (by rw [h3]; exact h4), h3]
  · unfold vOps
    rw [h2, List.length_append, h3]
    rfl
theorem endOk_def {ops out : List Opr} {nn : Nat} (hn : nn = (runP newM ops).2) (ho : out = endOut (runP newM ops).1.stack) : endOk ops = (decide ((runP (runP newM ops).1 out).2 = out.length) && decide (nn + out.length ≤ 300)) := by
  subst hn ho; rfl
theorem runShapes_k (A : Option Addr) (c n : Nat) (ops : List Opr) (w : World) (hr : RdO w A ops) (hops : ops.all okO = true) (hn : ops.length = n) :
    Calls Try.prog 122 #[.slice A n c] w fun e w' => ∃ vK vF vS vM, e = .returned (.tuple #[.agg #[vK, vF, vS, vM, .bool (runS newS ops).1.done], .int .i64 (runS newS ops).2]) ∧ SV w' vK vF vS vM (runS newS ops).1 ∧ Ext w w' ∧ (∀ k, SF vK vF vS vM k → w.heap.size ≤ k) ∧ okS (runS newS ops).1 := by
  subst hn; exact runShapes_c A c ops w hr hops
theorem validOps_k (A : Option Addr) (c n : Nat) (l : List Opr) (w : World) (hr : RdO w A l) (hn : l.length = n) : Calls Try.prog 72 #[.slice A n c] w fun e w' => e = .returned (.bool (vOps l)) ∧ Ext w w' := by
  subst hn; exact validOps_c A c l w hr
set_option maxRecDepth 100000 in
set_option maxHeartbeats 4000000 in
theorem sEndOps_c (ad : Addr) (c : Nat) (ops : List Opr) (w : World) (hr : RdO w (some ad) ops) (hc : ops.length ≤ c) :
    Calls Try.prog 98 #[.slice (some ad) ops.length c] w (OwnOB (endOps ops).1 (endOps ops).2 w) := by
  have hlen := hr.1
  have HR := As.mk hr
  clear hr
  cases hv : vOps ops with
  | false =>
    have HB : As (endOps ops = ([], false)) := ⟨by simp [endOps, hv]⟩
    have HV := As.mk hv
    clear hv
    go_enter Try.func98, Try.ntmps98
    go_wp2_with (go_at_call 72; refine (validOps_c _ _ _ _ HR.out).mono ?_; rw [HV.out]; rintro e w1 ⟨rfl, he⟩; have HE := As.mk he; clear he)
    go_ret2
    rw [HB.out]
    exact OwnOB.nil HE.out false
  | true =>
    have HV := As.mk hv
    have hx : endOps ops = (if (runP newM ops).1.done = true then ([], true) else if endOk ops = true then (endOut (runP newM ops).1.stack, true) else ([], false)) := by simp [endOps, hv]
    have HX := As.mk hx
    have hall := vOps_all hv
    have hrun := runS_new hall.1
    obtain ⟨nn, hnn⟩ : ∃ nn, nn = (runP newM ops).2 := ⟨_, rfl⟩
    have hnl : nn ≤ ops.length := by rw [hnn]; exact runP_le ops newM
    have hn3 : nn ≤ 300 := Nat.le_trans hnl hall.2
    rw [← hnn] at hrun
    have HRUN : As (runS newS ops = (shp (runP newM ops).1, nn)) := ⟨hrun⟩
    have HALL := As.mk hall
    have HNN := As.mk hnn
    have hs := slice_toO ad ops.length c nn hnl hc
    have HSL := As.mk hs
    clear hv hx hnn hall hrun hc hs
    go_enter Try.func98, Try.ntmps98
    go_upto_region 4 with (first | (go_at_call 72; refine (validOps_c _ _ _ _ HR.out).mono ?_; rw [HV.out]; rintro e w1 ⟨rfl, he⟩; have HE := As.mk he; clear he) | (go_at_call 122; refine (runShapes_c _ _ _ _ (HR.out.ext HE.out) HALL.out.1).mono ?_; rw [HRUN.out]; rintro e w2 ⟨vK, vF, vS, vM, rfl, hsv, he, _, hok⟩; obtain ⟨A1, c1, A2, c2, A3, c3, A4, c4, rfl, rfl, rfl, rfl⟩ := hsv.forms; have HE2 := As.mk (HE.out.trans he); have HSV := As.mk hsv; have HOK := As.mk hok; clear he hsv hok))
    have hei := EJ.make (w := w) (W := w2.alloc (.cells #[.slice A1 (shp (runP newM ops).1).kinds.length c1, .slice A2 (shp (runP newM ops).1).full.length c2, .slice A3 (shp (runP newM ops).1).stack.length c3, .slice A4 (shp (runP newM ops).1).memo.length c4, .bool (shp (runP newM ops).1).done] 91)) (al_new _ _) (HSV.out.ext ((Ext.rf _).al _)) (HE2.out.al _)
    have HEI := As.mk hei
    generalize w2.alloc (.cells #[.slice A1 (shp (runP newM ops).1).kinds.length c1, .slice A2 (shp (runP newM ops).1).full.length c2, .slice A3 (shp (runP newM ops).1).stack.length c3, .slice A4 (shp (runP newM ops).1).memo.length c4, .bool (shp (runP newM ops).1).done] 91) = w3 at HEI ⊢
    generalize w2.heap.size = g4 at HEI ⊢
    clear hei HSV HE2 HE
    obtain ⟨sh, hsh⟩ : ∃ sh, sh = shp (runP newM ops).1 := ⟨_, rfl⟩
    have HSH := As.mk hsh
    have hsl : sh.stack.length ≤ 300 := by rw [hsh]; exact HOK.out.sl
    rw [← hsh] at HEI ⊢
    have hst : (runP newM ops).1.stack = sh.stack := by rw [hsh]; rfl
    have hdn : (runP newM ops).1.done = sh.done := by rw [hsh]; rfl
    have HST := As.mk hst
    rw [hst, hdn] at HX
    clear hsh hst hdn HOK
    go_upto_region 5 with fail
    have HL := As.mk HEI.out.lit
    generalize w3.alloc (.cells #[] 52) = w4 at HL ⊢
    generalize w3.heap.size = b0 at HL ⊢
    clear HEI
    have d4 := SB.c4 HL.out.b
    cases hd : sh.done with
    | true =>
      have HB : As (endOps ops = ([], true)) := ⟨by rw [HX.out, hd]; rfl⟩
      rw [hd] at d4
      clear hd
      go_wp2_with fail
      go_ret2
      rw [HB.out]
      exact ⟨_, _, rfl, HL.out.ou, HL.out.e, HL.out.fu⟩
    | false =>
      have HB : As (endOps ops = (if endOk ops = true then (endOut sh.stack, true) else ([], false))) := ⟨by rw [HX.out, hd]; rfl⟩
      rw [hd] at d4
      have HD := As.mk hd
      clear hd HX
      have d2 := SB.c2 HL.out.b
      have HST4 := As.mk (rdA_I HL.out.s.t (by omega))
      obtain ⟨s, hss⟩ : ∃ s, s = sh.stack := ⟨_, rfl⟩
      rw [← hss] at d2 HST4 hsl HB HST
      have HSS := As.mk hss
      clear hss
      go_upto_region 9 with fail
      go_loop [7, 8] (fun a i => ∃ k : Nat, k ≤ s.length ∧ i = .int .i64 k ∧ ∃ q : Nat, a = .int .i64 q ∧ q ≤ k ∧ As (q = cntN (s.take k))) (fun _ i => s.length - (intOf i).toNat)
      case atStart => exact ⟨0, Nat.zero_le _, rfl, 0, rfl, Nat.le_refl _, ⟨rfl⟩⟩
      case round =>
        obtain ⟨k, hk, rfl, q, rfl, hqk, hq⟩ := hrel
        by_cases hlt : k < s.length
        · obtain ⟨a3, rfl, h1⟩ := HST4.out.2 k hlt
          obtain ⟨z, hz⟩ : ∃ z, z = s[k] := ⟨_, rfl⟩
          rw [← hz] at h1
          have q1 : (k : Int) < s.length := by omega
          rcases bcase (z < 0) with hneg | hneg
          · have HN : As (q + 1 = cntN (s.take (k + 1))) := ⟨by rw [cntN_y s k hlt (by rw [← hz]; exact hneg), ← hq.out]⟩
            clear hz
            go_wp2_with fail
            go_round
            case measure => simp only [intOf]; omega
            case rel => exact ⟨k + 1, by omega, by go_num, q + 1, by go_num, by omega, HN⟩
          · have HN : As (q = cntN (s.take (k + 1))) := ⟨by rw [cntN_n s k hlt (by rw [← hz]; simpa using hneg), ← hq.out]⟩
            clear hz
            go_wp2_with fail
            go_round
            case measure => simp only [intOf]; omega
            case rel => exact ⟨k + 1, by omega, by go_num, q, rfl, by omega, HN⟩
        · have hkl : k = s.length := by omega
          subst hkl
          have hq2 := hq.out
          rw [List.take_length] at hq2
          have HCN := As.mk hq2
          clear hq hq2 hlt hk
          go_upto_region 14 with fail
          go_loopw [6, 9] (fun o i wr => ∃ k : Nat, k ≤ q ∧ i = .int .i64 k ∧ As (OutJ w g4 sh (.slice A1 sh.kinds.length c1) (.slice A2 sh.full.length c2) (.slice A3 sh.stack.length c3) (.slice A4 sh.memo.length c4) (List.replicate k tupO) o wr)) (fun _ i _ => q - (intOf i).toNat)
          case atStart => exact ⟨0, Nat.zero_le _, rfl, ⟨⟨_, _, _, rfl, rfl, HL.out⟩⟩⟩
          case round =>
            obtain ⟨k, hk, rfl, ho⟩ := hrel
            obtain ⟨A', n, c', rfl, hn, hei⟩ := ho.out
            have HE6 := As.mk hei
            have hkn : k = n := by rw [hn]; simp
            clear hn hei ho
            subst hkn
            by_cases hlt : k < q
            · have q1 : (k : Int) < q := by omega
              go_wp2_with ((at_builtin; refine app_op rfl _ _ rfl (.slice A' k c') (List.replicate k tupO) tupO rfl rfl HE6.out.ou (by simp; omega) ?_; intro gP cP w6 hap; have HO := As.mk (outJ_next HE6.out (by simp) hap List.replicate_succ'); clear hap))
              go_roundw
              case measure => simp only [intOf]; omega
              case rel => exact ⟨k + 1, by omega, by go_num, HO⟩
            · have hkq : k = q := by omega
              subst hkq
              clear d2 d4 HL HST4 hlt hk
              have d2 := SB.c2 HE6.out.b
              have HST6 := As.mk (rdA_I HE6.out.s.t (by rw [← HSS.out]; omega))
              rw [← HSS.out] at d2 HST6
              obtain ⟨fm, hfm⟩ : ∃ fm, fm = firstMark s := ⟨_, rfl⟩
              have HFM := As.mk hfm
              have hfl : fm ≤ s.length := by rw [hfm]; exact (List.takeWhile_sublist _).length_le
              clear hfm
              go_upto_block 4 with fail
              go_cut [10] (fun r wx => r = .int .i64 fm ∧ As (wx = wr))
              case first =>
                go_wp2_with fail
                go_loop [10] (fun r => ∃ j : Nat, j ≤ s.length ∧ r = .int .i64 j ∧ As (cntN (s.take j) = 0)) (fun r => s.length - (intOf r).toNat)
                case atStart => exact ⟨0, Nat.zero_le _, rfl, ⟨rfl⟩⟩
                case round =>
                  obtain ⟨j, hj, rfl, hz0⟩ := hrel
                  by_cases hlt : j < s.length
                  · obtain ⟨a3, rfl, h1⟩ := HST6.out.2 j hlt
                    obtain ⟨z, hz⟩ : ∃ z, z = s[j] := ⟨_, rfl⟩
                    rw [← hz] at h1
                    have HZ := As.mk hz
                    clear hz
                    have q1 : (j : Int) < s.length := by omega
                    rcases bcase (0 ≤ z) with hp | hp
                    · go_wp2_with fail
                      go_round
                      case measure => simp only [intOf]; omega
                      case rel => exact ⟨j + 1, by omega, by go_num, ⟨by rw [cntN_n s j hlt (by rw [← HZ.out]; omega)]; exact hz0.out⟩⟩
                    · have hjf : j = fm := by rw [HFM.out]; exact (firstMark_no hlt hz0.out (by rw [← HZ.out]; simp at hp; omega)).symm
                      subst hjf
                      go_wp2_with fail
                      go_meet
                      exact ⟨rfl, ⟨rfl⟩⟩
                  · have hjl : j = s.length := by omega
                    have hjf : j = fm := by
                      have h0 := hz0.out
                      rw [hjl, List.take_length] at h0
                      rw [HFM.out, firstMark_end h0, hjl]
                    have q1 : ¬ (j : Int) < s.length := by omega
                    clear hjl
                    subst hjf
                    go_wp2_with fail
                    go_meet
                    exact ⟨rfl, ⟨rfl⟩⟩
              case rest =>
                obtain ⟨rfl, hw⟩ := hcut
                have hw := hw.out
                subst hw
                obtain ⟨rl, hrl⟩ : ∃ rl, rl = restLen s := ⟨_, rfl⟩
                have HRL : As (rl = fm + if 0 < k then 1 else 0) := ⟨by rw [hrl]; unfold restLen; rw [← HFM.out, ← HCN.out]⟩
                have HRL2 := As.mk hrl
                have hrl3 : rl ≤ 301 := by rw [HRL.out]; split <;> omega
                clear hrl
                go_upto_if 67 with fail
                go_cut [10] (fun r wx => r = .int .i64 rl ∧ As (wx = wc))
                case first =>
                  by_cases h0 : 0 < k
                  · have hr1 : rl = fm + 1 := by rw [HRL.out, if_pos h0]
                    subst hr1
                    have q2 : (0 : Int) < k := by omega
                    go_wp2_with fail
                    go_meet
                    exact ⟨by go_num, ⟨rfl⟩⟩
                  · have hr1 : rl = fm := by rw [HRL.out, if_neg h0]; rfl
                    subst hr1
                    have q2 : ¬ (0 : Int) < k := by omega
                    go_wp2_with fail
                    go_meet
                    exact ⟨rfl, ⟨rfl⟩⟩
                case rest =>
                  obtain ⟨rfl, hw⟩ := hcut
                  have hw := hw.out
                  subst hw
                  clear d2 HST6
                  go_upto_region 23 with fail
                  go_loopw [6, 11] (fun o i wr => ∃ j : Nat, j ≤ rl - 1 ∧ i = .int .i64 ((j : Int) + 1) ∧ As (OutJ w g4 sh (.slice A1 sh.kinds.length c1) (.slice A2 sh.full.length c2) (.slice A3 sh.stack.length c3) (.slice A4 sh.memo.length c4) (List.replicate k tupO ++ List.replicate j ⟨6, 0⟩) o wr)) (fun _ i _ => rl - (intOf i - 1).toNat)
                  case atStart => exact ⟨0, Nat.zero_le _, rfl, ⟨⟨_, _, _, rfl, by simp, by simpa using HE6.out⟩⟩⟩
                  case round =>
                    obtain ⟨j, hj, rfl, ho⟩ := hrel
                    obtain ⟨A5, n, c5, rfl, hn, hei⟩ := ho.out
                    have HE7 := As.mk hei
                    have HN7 := As.mk hn
                    clear hei hn ho HE6
                    by_cases hlt : j + 1 < rl
                    · have q1 : (j : Int) + 1 < rl := by omega
                      go_wp2_with ((at_builtin; refine app_op rfl _ _ rfl (.slice A5 n c5) (List.replicate k tupO ++ List.replicate j ⟨6, 0⟩) ⟨6, 0⟩ rfl rfl HE7.out.ou (by simp; omega) ?_; rw [← HN7.out]; intro gP cP w6 hap; have HO := As.mk (outJ_next HE7.out HN7.out hap (show List.replicate k tupO ++ List.replicate (j + 1) ⟨6, 0⟩ = _ by rw [List.replicate_succ', List.append_assoc])); clear hap))
                      go_roundw
                      case measure => simp only [intOf]; omega
                      case rel => exact ⟨j + 1, by omega, by go_num, HO⟩
                    · have q1 : ¬ (j : Int) + 1 < rl := by omega
                      have hjr : j = rl - 1 := by omega
                      have HJR := As.mk hjr
                      clear hjr hlt hj
                      go_upto_if 80 with fail
                      obtain ⟨y1, hy1⟩ : ∃ y1, y1 = List.replicate k tupO ++ (List.replicate (rl - 1) (⟨6, 0⟩ : Opr) ++ (if rl = 0 then [⟨4, 0⟩] else [])) := ⟨_, rfl⟩
                      have HY := As.mk hy1
                      clear hy1
                      go_cut [6] (fun s6 wx => As (OutJ w g4 sh (.slice A1 sh.kinds.length c1) (.slice A2 sh.full.length c2) (.slice A3 sh.stack.length c3) (.slice A4 sh.memo.length c4) y1 s6 wx))
                      case first =>
                        by_cases h0 : rl = 0
                        · subst h0
                          have hj0 : j = 0 := HJR.out
                          subst hj0
                          go_wp2_with ((at_builtin; refine app_op rfl _ _ rfl (.slice A5 n c5) (List.replicate k tupO ++ List.replicate 0 ⟨6, 0⟩) ⟨4, 0⟩ rfl rfl HE7.out.ou (by simp; omega) ?_; rw [← HN7.out]; intro gP cP w6 hap; have HO := As.mk (outJ_next HE7.out HN7.out hap rfl); clear hap))
                          go_meet
                          have hyy : y1 = List.replicate k tupO ++ List.replicate 0 ⟨6, 0⟩ ++ [⟨4, 0⟩] := by rw [HY.out]; simp
                          rw [hyy]
                          exact HO
                        · have q3 : ¬ (rl : Int) = 0 := by omega
                          have q4 : ((rl : Int) == 0) = false := by simpa using q3
                          go_wp2_with fail
                          go_meet
                          rw [HY.out, if_neg h0, List.append_nil, ← HJR.out]
                          exact ⟨⟨_, _, _, rfl, HN7.out, HE7.out⟩⟩
                      case rest =>
                        obtain ⟨A6, n6, c6, rfl, hn6, hei⟩ := hcut.out
                        have HE8 := As.mk hei
                        have HN6 := As.mk hn6
                        have hnl6 : n6 ≤ 1000 := by rw [hn6, HY.out]; simp; split <;> simp <;> omega
                        clear hei hn6 hcut HE7 HN7
                        go_upto_region 29 with ((at_builtin; refine app_op rfl _ _ rfl (.slice A6 n6 c6) y1 ⟨19, 0⟩ rfl rfl HE8.out.ou (by rw [← HN6.out]; omega) ?_; rw [← HN6.out]; intro gP cP w10 hap; have HS := As.mk (HE8.out.app hap); clear hap))
                        obtain ⟨l, hl⟩ : ∃ l, l = y1 ++ [(⟨19, 0⟩ : Opr)] := ⟨_, rfl⟩
                        have hs2 := HS.out
                        have HLE : As (l = endOut s) := ⟨by rw [hl, HY.out]; unfold endOut endRest; rw [← HCN.out, ← HRL2.out]; simp only [List.append_assoc]⟩
                        have HLL : As (l.length = n6 + 1) := ⟨by rw [hl, List.length_append, ← HN6.out]; rfl⟩
                        rw [← hl, ← HN6.out] at hs2
                        have HE9 := As.mk hs2
                        clear hs2 HS hl HE8
                        have hlok : l.all okO = true := by
                          rw [HLE.out]; unfold endOut
                          rw [List.all_append, endRest_ok, Bool.and_true, List.all_eq_true]
                          intro x hx
                          rw [List.mem_replicate] at hx
                          rw [hx.2]; decide
                        have HED := As.mk (endRun HV.out hlok HNN.out)
                        have HOKD : As (endOk ops = (decide ((runP (runP newM ops).1 l).2 = l.length) && decide (nn + l.length ≤ 300))) := ⟨endOk_def HNN.out (by rw [HLE.out, HST.out])⟩
                        clear hlok
                        have HLIT := As.mk HE9.out.swap.lit
                        clear HE9
                        have hs := HSL.out
                        go_upto_region 30 with (first | (at_builtin; refine app_ops rfl _ _ rfl (.slice (some ⟨w10.heap.size, 0, none⟩) 0 0) [] ad nn c (ops.take nn) rfl rfl HED.out.2.1 (rdO_take (HR.out.ext HLIT.out.e) nn) HLIT.out.ou (by simp; omega) ?_; simp only [List.length_nil, Nat.zero_add, List.nil_append]; intro A7 c7 w11 ho hf hfr; have HE11 := As.mk (HLIT.out.put ho hf hfr); clear ho hf hfr) | (at_builtin; refine app_ops rfl _ _ rfl (.slice A7 nn c7) (ops.take nn) ⟨gP, 0, none⟩ (n6 + 1) cP l rfl rfl HLL.out (rdA_O HE11.out.ov (by rw [HLL.out]; omega)) HE11.out.ou (by rw [HED.out.2.1]; omega) ?_; rw [HED.out.2.1]; intro A8 c8 w12 ho hf hfr; have HE12 := As.mk (HE11.out.put ho hf hfr); clear ho hf hfr))
                        clear HLIT HE11 hs
                        obtain ⟨al, hal⟩ : ∃ al, al = ops.take nn ++ l := ⟨_, rfl⟩
                        rw [← hal] at HE12 HED
                        have HALL2 : As (al.length = nn + (n6 + 1)) := ⟨by rw [hal, List.length_append, HED.out.2.1, HLL.out]⟩
                        have HRD := As.mk (rdA_O HE12.out.ou (by rw [HALL2.out]; omega))
                        obtain ⟨kk, hkk⟩ : ∃ kk, kk = (runS newS al).2 := ⟨_, rfl⟩
                        have HKK := As.mk hkk
                        clear hal hkk
                        go_upto_region 31 with (go_at_call 122; refine (runShapes_k _ _ _ _ _ HRD.out HED.out.1 HALL2.out).mono ?_; rw [← HKK.out]; rintro e w13 ⟨vK, vF, vS, vM, rfl, hsv, he, _, _⟩; obtain ⟨D1, e1, D2, e2, D3, e3, D4, e4, rfl, rfl, rfl, rfl⟩ := hsv.forms; have HX13 := As.mk he; clear he hsv)
                        have hx := HX13.out.al (.cells #[.slice D1 (runS newS al).1.kinds.length e1, .slice D2 (runS newS al).1.full.length e2, .slice D3 (runS newS al).1.stack.length e3, .slice D4 (runS newS al).1.memo.length e4, .bool (runS newS al).1.done] 91)
                        generalize (w13.alloc (.cells #[.slice D1 (runS newS al).1.kinds.length e1, .slice D2 (runS newS al).1.full.length e2, .slice D3 (runS newS al).1.stack.length e3, .slice D4 (runS newS al).1.memo.length e4, .bool (runS newS al).1.done] 91)) = w14 at hx ⊢
                        have HE14 := As.mk (HE12.out.ext hx)
                        have HRD14 := As.mk (HRD.out.ext hx)
                        clear hx HX13 HRD HE12
                        have hkr : kk = nn + (runP (runP newM ops).1 l).2 := by rw [HKK.out]; exact HED.out.2.2.1
                        have hrl : (runP (runP newM ops).1 l).2 ≤ l.length := runP_le _ _
                        rw [HLL.out] at hrl
                        by_cases hle : nn + (n6 + 1) ≤ 300
                        · have HVA : As (vOps al = true) := ⟨by rw [HED.out.2.2.2, HLL.out]; simpa using hle⟩
                          by_cases hlt : kk < nn + (n6 + 1)
                          · have q3 : (kk : Int) < (nn : Int) + ((n6 : Int) + 1) := by omega
                            have HBT : As (endOps ops = ([], false)) := ⟨by
                              rw [HB.out, if_neg]
                              rw [HOKD.out, HLL.out, Bool.and_eq_true, decide_eq_true_eq]
                              intro h
                              omega⟩
                            clear hkr hrl hlt
                            go_wp2_with (go_at_call 72; refine (validOps_k _ _ _ _ _ HRD14.out HALL2.out).mono ?_; rw [HVA.out]; rintro e w15 ⟨rfl, he⟩; have HE15 := As.mk (HE14.out.ext he); clear he)
                            go_ret2
                            rw [HBT.out]
                            exact OwnOB.nil HE15.out.e false
                          · have q3 : ¬ (kk : Int) < (nn : Int) + ((n6 : Int) + 1) := by omega
                            have HBT : As (endOps ops = (l, true)) := ⟨by
                              rw [HB.out, if_pos, HLE.out]
                              rw [HOKD.out, HLL.out, Bool.and_eq_true, decide_eq_true_eq, decide_eq_true_eq]
                              omega⟩
                            clear hkr hrl hlt
                            go_wp2_with (go_at_call 72; refine (validOps_k _ _ _ _ _ HRD14.out HALL2.out).mono ?_; rw [HVA.out]; rintro e w15 ⟨rfl, he⟩; have HE15 := As.mk (HE14.out.ext he); clear he)
                            go_ret2
                            rw [HBT.out]
                            exact ⟨_, cP, by rw [HLL.out]; rfl, by rw [HLL.out]; exact HE15.out.ov, HE15.out.e, by rw [HLL.out]; exact HE15.out.fv⟩
                        · have HVA : As (vOps al = false) := ⟨by rw [HED.out.2.2.2, HLL.out]; simpa using hle⟩
                          have HBT : As (endOps ops = ([], false)) := ⟨by
                            rw [HB.out, if_neg]
                            rw [HOKD.out, HLL.out, Bool.and_eq_true, decide_eq_true_eq, decide_eq_true_eq]
                            intro h
                            omega⟩
                          clear hkr hrl hle
                          go_wp2_with (go_at_call 72; refine (validOps_k _ _ _ _ _ HRD14.out HALL2.out).mono ?_; rw [HVA.out]; rintro e w15 ⟨rfl, he⟩; have HE15 := As.mk (HE14.out.ext he); clear he)
                          go_ret2
                          rw [HBT.out]
                          exact OwnOB.nil HE15.out.e false
end Go.Proofs.Ytgenllcfpjgklaa.C
