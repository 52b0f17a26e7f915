/- The reference's DepthsOf and MarksOf. -/
import Derived.Test.YtcodbpjaamggeaaId
import Derived.Test.YtcodbpjaamggeaaIb
import Derived.Test.YtcodbpjaamggeaaHd
set_option linter.unusedVariables false
set_option linter.unusedSimpArgs false
namespace Go.Proofs.Ytcodbpjaamggeaa.P
theorem trace_len : ∀ (l : List Opr) (m : Mc), (trace m l).length = (runP m l).2
  | [], _ => rfl
  | o :: r, m => by
    simp only [trace, runP]
    cases stepP m o with
    | none => rfl
    | some m' => simp [trace_len r m']
theorem trace_at? : ∀ (l : List Opr) (m : Mc) (k : Nat), k < (runP m l).2 → (trace m l)[k]? = some (runP m (l.take (k + 1))).1
  | [], _, k, h => by simp [runP] at h
  | o :: r, m, k, h => by
    simp only [trace, runP] at h ⊢
    cases hs : stepP m o with
    | none => simp [hs] at h
    | some m' =>
      simp only [hs] at h ⊢
      cases k with
      | zero => simp [runP, hs]
      | succ k =>
        have := trace_at? r m' k (by omega)
        simp [runP, hs, this]
theorem trace_at (l : List Opr) (m : Mc) (k : Nat) (h : k < (trace m l).length) : (trace m l)[k] = (runP m (l.take (k + 1))).1 := by
  have := trace_at? l m k (by rw [← trace_len]; exact h)
  rw [List.getElem?_eq_getElem h] at this
  exact Option.some.inj this
end Go.Proofs.Ytcodbpjaamggeaa.P
namespace Go.Proofs.Ytcodbpjaamggeaa.C
open Go.RowKit Go.Proofs.Ytcodbpjaamggeaa.W Go.Proofs.Ytcodbpjaamggeaa.P

theorem runShapes_k (A : Option Addr) (c k : Nat) (ops : List Opr) (w : World) (hk : ops.length = k) (hr : RdO w A ops) (hops : ops.all okO = true) :
    Calls Try.prog 75 #[.slice A k c] w fun e w' => ∃ vK vF vS vM, e = .returned (.tuple #[.agg #[vK, vF, vS, vM, .bool (runS newS ops).1.done], .int .i64 (runS newS ops).2]) ∧ SV w' vK vF vS vM (runS newS ops).1 ∧ Ext w w' ∧ (∀ k, SF vK vF vS vM k → w.heap.size ≤ k) ∧ okS (runS newS ops).1 := by
  subst hk
  exact runShapes_c A c ops w hr hops
/-- What was told of the first k orders. -/
def pre (f : Mc → Int) (ops : List Opr) (k : Nat) : List Int := ((trace newM ops).take k).map f
theorem pre_len (f : Mc → Int) (ops : List Opr) {k : Nat} (hk : k ≤ (runP newM ops).2) : (pre f ops k).length = k := by
  have := trace_len ops newM
  simp [pre]; omega
theorem pre_succ (f : Mc → Int) (ops : List Opr) {k : Nat} (hk : k < (runP newM ops).2) : pre f ops (k + 1) = pre f ops k ++ [f (runP newM (ops.take (k + 1))).1] := by
  have hl : k < (trace newM ops).length := by rw [trace_len]; exact hk
  unfold pre
  rw [List.take_succ_eq_append_getElem hl, List.map_append, trace_at ops newM k hl]
  rfl
theorem pre_all (f : Mc → Int) (ops : List Opr) : pre f ops (runP newM ops).2 = (trace newM ops).map f := by
  unfold pre
  rw [← trace_len, List.take_length]
def OutAt (f : Mc → Int) (ops : List Opr) (w : World) (k : Nat) (o : Value) (wr : World) : Prop :=
  ∃ Ao co, o = .slice Ao k co ∧ IR wr (.slice Ao k co) (pre f ops k) ∧ Ext w wr ∧ Fresh (.slice Ao k co) w
theorem fr_ext' {a b c : World} {v : Value} (h : Ext a b) (hf : Fr (fun k => v.ownBlock = some k) b c) (hv : Fresh v a) : Ext a c :=
  (Fr.then (S := fun _ => False) (Fr.ofExt h) hf (fun k hk => .inr (hv k hk))).ext (fun _ h => h.elim)
theorem outAt_next {f : Mc → Int} {ops : List Opr} {w w2 W : World} {k : Nat} {Ao : Option Addr} {co g c' : Nat} (hk : k < (runP newM ops).2) (he : Ext w W)
    (hf : Fresh (.slice Ao k co) w) (hap : AppI (.slice Ao k co) (pre f ops k) (pre f ops k ++ [f (runP newM (ops.take (k + 1))).1]) W g c' w2) : OutAt f ops w (k + 1) (.slice (some ⟨g, 0, none⟩) ((pre f ops k).length + 1) c') w2 := by
  obtain ⟨a1, a2, a3, a4, a5⟩ := hap
  have hl := pre_len f ops (Nat.le_of_lt hk)
  have hl2 := pre_len f ops (k := k + 1) hk
  rw [← pre_succ f ops hk, hl2] at a1
  rw [hl]
  refine ⟨_, _, rfl, a1, fr_ext' he a2 hf, fun q hq => ?_⟩
  rcases a3 with e | e
  · exact hf q (by rw [e]; exact hq)
  · simp [Value.ownBlock] at hq
    have := he.size
    omega
set_option maxRecDepth 100000 in
set_option maxHeartbeats 1000000 in
theorem sDepthsOf_c (ad : Addr) (c : Nat) (ops : List Opr) (w : World) (hr : RdO w (some ad) ops) (hc : ops.length ≤ c) :
    Calls Try.prog 30 #[.slice (some ad) ops.length c] w (ClonePost (tellOf depthF ops) w) := by
  have hlen := hr.1
  have HR := As.mk hr
  clear hr
  cases hv : vOps ops with
  | false =>
    have HB : As (tellOf depthF ops = []) := ⟨by simp [tellOf, hv]⟩
    have HV := As.mk hv
    clear hv
    go_enter Try.func30, Try.ntmps30
    go_wp2_with (go_at_call 74; refine (validOps_c _ _ _ _ HR.out).mono ?_; rw [HV.out]; rintro e w1 ⟨rfl, he⟩; have HE := As.mk he; clear he)
    go_ret
    rw [HB.out]
    exact ⟨none, 0, rfl, IR.nil _, HE.out, by simp [Fresh, Value.ownBlock]⟩
  | true =>
    have HV := As.mk hv
    have hle : (runP newM ops).2 ≤ ops.length := runP_le ops newM
    have hb : tellOf depthF ops = pre depthF ops (runP newM ops).2 := by rw [pre_all]; simp [tellOf, hv]
    have hall := vOps_all hv
    have hrun := runS_new hall.1
    obtain ⟨n, hn⟩ : ∃ n, n = (runP newM ops).2 := ⟨_, rfl⟩
    have HNN := As.mk hn
    rw [← hn] at hle hb hrun
    have HRUN : As (runS newS ops = (shp (runP newM ops).1, n)) := ⟨hrun⟩
    have HALL := As.mk hall
    have hn3 : n ≤ 300 := by have := hall.2; omega
    have HB := As.mk hb
    have HLE := As.mk hle
    clear hn hle hb hv hall hrun
    go_enter Try.func30, Try.ntmps30
    go_upto_region 4 with (go_at_call 74; refine (validOps_c _ _ _ _ HR.out).mono ?_; rw [HV.out]; rintro e w1 ⟨rfl, he⟩; have HE := As.mk he; clear he)
    have HO : As (OutAt depthF ops w 0 (.slice (some ⟨w1.heap.size, 0, none⟩) 0 0) (w1.alloc (.cells #[] 3))) := ⟨⟨_, _, rfl, own_zero (World.ownsRow_lit (base := 0) (size := 1) w1 #[] 0 (Nat.zero_le _) (by simp) rfl), HE.out.al _, fun k hk => by simp [Value.ownBlock] at hk; have := HE.out.size; omega⟩⟩
    generalize w1.alloc (.cells #[] 3) = w2 at HO ⊢
    generalize w1.heap.size = b0 at HO ⊢
    clear HE
    go_upto_region 5 with (go_at_call 75; refine (runShapes_c _ _ _ _ (HR.out.ext (let ⟨_, _, _, _, h, _⟩ := HO.out; h)) HALL.out.1).mono ?_; rw [HRUN.out]; rintro e w3 ⟨vK, vF, vS, vM, rfl, hsv, he, _, _⟩; obtain ⟨A1, c1, A2, c2, A3, c3, A4, c4, rfl, rfl, rfl, rfl⟩ := hsv.forms; have HE3 := As.mk he; clear he hsv)
    have HO4 : As (OutAt depthF ops w 0 (.slice (some ⟨b0, 0, none⟩) 0 0) (w3.alloc (.cells #[.slice A1 (shp (runP newM ops).1).kinds.length c1, .slice A2 (shp (runP newM ops).1).full.length c2, .slice A3 (shp (runP newM ops).1).stack.length c3, .slice A4 (shp (runP newM ops).1).memo.length c4, .bool (shp (runP newM ops).1).done] 51))) := by
      have he := HE3.out.al (.cells #[.slice A1 (shp (runP newM ops).1).kinds.length c1, .slice A2 (shp (runP newM ops).1).full.length c2, .slice A3 (shp (runP newM ops).1).stack.length c3, .slice A4 (shp (runP newM ops).1).memo.length c4, .bool (shp (runP newM ops).1).done] 51)
      obtain ⟨_, _, h1, h2, h3, h4⟩ := HO.out
      exact ⟨⟨_, _, h1, h2.ext he, h3.trans he, h4⟩⟩
    generalize w3.alloc (.cells #[.slice A1 (shp (runP newM ops).1).kinds.length c1, .slice A2 (shp (runP newM ops).1).full.length c2, .slice A3 (shp (runP newM ops).1).stack.length c3, .slice A4 (shp (runP newM ops).1).memo.length c4, .bool (shp (runP newM ops).1).done] 51) = w4 at HO4 ⊢
    clear HO HE3
    go_wp2_with fail
    go_loopw [3, 6] (fun o i wr => ∃ k : Nat, k ≤ n ∧ i = .int .i64 ((k : Int) + 1) ∧ As (OutAt depthF ops w k o wr)) (fun _ i _ => n + 1 - (intOf i).toNat)
    case atStart => exact ⟨0, Nat.zero_le _, rfl, HO4⟩
    case round =>
      obtain ⟨k, hk, rfl, HO⟩ := hrel
      obtain ⟨Ao, co, rfl, h1, h2, h3⟩ := HO.out
      have HI := As.mk h1
      have HE := As.mk h2
      have HF := As.mk h3
      clear HO h1 h2 h3
      by_cases hlt : k < n
      · have q1 : (k : Int) + 1 ≤ n := by omega
        have hs : ∀ W : World, (Instr.slice 25 (.slice (some ad) ops.length c) none (some (.int .i64 ((k : Int) + 1))) none).run Try.prog W = .ok (.slice (some ad) (k + 1) c) W := slice_toO ad ops.length c (k + 1) (by have := HLE.out; omega) hc
        have htl : (ops.take (k + 1)).length = k + 1 := by have := HLE.out; simp; omega
        have HT := As.mk htl
        have hok : (ops.take (k + 1)).all okO = true := List.all_eq_true.2 (fun x hx => List.all_eq_true.1 HALL.out.1 x (List.mem_of_mem_take hx))
        have HOK := As.mk hok
        have hrun := runS_new hok
        obtain ⟨m1, hm1⟩ : ∃ m1, m1 = (runP newM (ops.take (k + 1))).1 := ⟨_, rfl⟩
        obtain ⟨n1, hn1⟩ : ∃ n1, n1 = (runP newM (ops.take (k + 1))).2 := ⟨_, rfl⟩
        rw [← hm1, ← hn1] at hrun
        have HRN := As.mk hrun
        have HM1 := As.mk hm1
        have hpl := pre_len depthF ops (k := k) (by rw [← HNN.out]; omega)
        have HPL := As.mk hpl
        have HLT : As (k < (runP newM ops).2) := ⟨by rw [← HNN.out]; exact hlt⟩
        clear htl hok hrun hm1 hn1 hpl
        go_upto_region 9 with (go_at_call 75; refine (runShapes_k _ _ _ (ops.take (k + 1)) _ HT.out (rdO_take (HR.out.ext HE.out) (k + 1)) HOK.out).mono ?_; rw [HRN.out]; rintro e w5 ⟨vK, vF, vS, vM, rfl, hsv, he, _, hoks⟩; obtain ⟨A1, c1, A2, c2, A3, c3, A4, c4, rfl, rfl, rfl, rfl⟩ := hsv.forms; have HE5 := As.mk he; have HSV := As.mk hsv; have HOS := As.mk hoks; clear he hsv hoks)
        have HE6 := As.mk (HE5.out.al (.cells #[.slice A1 (shp m1).kinds.length c1, .slice A2 (shp m1).full.length c2, .slice A3 (shp m1).stack.length c3, .slice A4 (shp m1).memo.length c4, .bool (shp m1).done] 51))
        have HS6 := As.mk (rdA_J (HSV.out.t.ext ((Ext.rf _).al (.cells #[.slice A1 (shp m1).kinds.length c1, .slice A2 (shp m1).full.length c2, .slice A3 (shp m1).stack.length c3, .slice A4 (shp m1).memo.length c4, .bool (shp m1).done] 51))) (by have := HOS.out.sl; omega))
        have hsb : SB (w5.alloc (.cells #[.slice A1 (shp m1).kinds.length c1, .slice A2 (shp m1).full.length c2, .slice A3 (shp m1).stack.length c3, .slice A4 (shp m1).memo.length c4, .bool (shp m1).done] 51)) w5.heap.size _ _ _ _ _ := al_new w5 (.cells #[.slice A1 (shp m1).kinds.length c1, .slice A2 (shp m1).full.length c2, .slice A3 (shp m1).stack.length c3, .slice A4 (shp m1).memo.length c4, .bool (shp m1).done] 51)
        generalize w5.alloc (.cells #[.slice A1 (shp m1).kinds.length c1, .slice A2 (shp m1).full.length c2, .slice A3 (shp m1).stack.length c3, .slice A4 (shp m1).memo.length c4, .bool (shp m1).done] 51) = w6 at HE6 HS6 hsb ⊢
        generalize w5.heap.size = gS at hsb ⊢
        have s2 := SB.c2 hsb
        have hsl := HOS.out.sl
        have HSB := As.mk hsb
        clear hsb HE5 HSV
        have hi6 := HI.out.ext HE6.out
        have hpl6 : (pre depthF ops k).length ≤ 2000000000000 := by have := HPL.out; omega
        have HT3 : As (∀ gP cP w7, AppI (.slice Ao k co) (pre depthF ops k) (pre depthF ops k ++ [((shp m1).stack.length : Int)]) w6 gP cP w7 → OutAt depthF ops w (k + 1) (.slice (some ⟨gP, 0, none⟩) ((pre depthF ops k).length + 1) cP) w7) := ⟨fun gP cP w7 hap => outAt_next (f := depthF) HLT.out (HE.out.trans HE6.out) HF.out (by rw [← HM1.out]; exact hap)⟩
        go_wp2_with ((at_builtin; go_loud (refine app_int rfl _ _ rfl (.slice Ao k co) (pre depthF ops k) ((shp m1).stack.length) rfl rfl hi6 hpl6 ?_; intro gP cP w7 hap; have HOUT := As.mk (HT3.out _ _ _ hap); clear hap)))
        go_roundw
        case measure => simp only [intOf]; omega
        case rel => exact ⟨k + 1, by omega, by go_num, HOUT⟩
      · have hkl : k = n := by omega
        subst hkl
        have q1 : ¬ ((k : Int) + 1 ≤ k) := by omega
        go_wp2_with fail
        go_ret
        rw [HB.out]
        exact ⟨Ao, co, by rw [pre_len _ _ (by rw [← HNN.out]; omega)]; rfl, by rw [pre_len _ _ (by rw [← HNN.out]; omega)]; exact HI.out, HE.out, by rw [pre_len _ _ (by rw [← HNN.out]; omega)]; exact HF.out⟩
set_option maxRecDepth 100000 in
set_option maxHeartbeats 1000000 in
theorem sMarksOf_c (ad : Addr) (c : Nat) (ops : List Opr) (w : World) (hr : RdO w (some ad) ops) (hc : ops.length ≤ c) :
    Calls Try.prog 35 #[.slice (some ad) ops.length c] w (ClonePost (tellOf markF ops) w) := by
  have hlen := hr.1
  have HR := As.mk hr
  clear hr
  cases hv : vOps ops with
  | false =>
    have HB : As (tellOf markF ops = []) := ⟨by simp [tellOf, hv]⟩
    have HV := As.mk hv
    clear hv
    go_enter Try.func35, Try.ntmps35
    go_wp2_with (go_at_call 74; refine (validOps_c _ _ _ _ HR.out).mono ?_; rw [HV.out]; rintro e w1 ⟨rfl, he⟩; have HE := As.mk he; clear he)
    go_ret
    rw [HB.out]
    exact ⟨none, 0, rfl, IR.nil _, HE.out, by simp [Fresh, Value.ownBlock]⟩
  | true =>
    have HV := As.mk hv
    have hle : (runP newM ops).2 ≤ ops.length := runP_le ops newM
    have hb : tellOf markF ops = pre markF ops (runP newM ops).2 := by rw [pre_all]; simp [tellOf, hv]
    have hall := vOps_all hv
    have hrun := runS_new hall.1
    obtain ⟨n, hn⟩ : ∃ n, n = (runP newM ops).2 := ⟨_, rfl⟩
    have HNN := As.mk hn
    rw [← hn] at hle hb hrun
    have HRUN : As (runS newS ops = (shp (runP newM ops).1, n)) := ⟨hrun⟩
    have HALL := As.mk hall
    have hn3 : n ≤ 300 := by have := hall.2; omega
    have HB := As.mk hb
    have HLE := As.mk hle
    clear hn hle hb hv hall hrun
    go_enter Try.func35, Try.ntmps35
    go_upto_region 4 with (go_at_call 74; refine (validOps_c _ _ _ _ HR.out).mono ?_; rw [HV.out]; rintro e w1 ⟨rfl, he⟩; have HE := As.mk he; clear he)
    have HO : As (OutAt markF ops w 0 (.slice (some ⟨w1.heap.size, 0, none⟩) 0 0) (w1.alloc (.cells #[] 3))) := ⟨⟨_, _, rfl, own_zero (World.ownsRow_lit (base := 0) (size := 1) w1 #[] 0 (Nat.zero_le _) (by simp) rfl), HE.out.al _, fun k hk => by simp [Value.ownBlock] at hk; have := HE.out.size; omega⟩⟩
    generalize w1.alloc (.cells #[] 3) = w2 at HO ⊢
    generalize w1.heap.size = b0 at HO ⊢
    clear HE
    go_upto_region 5 with (go_at_call 75; refine (runShapes_c _ _ _ _ (HR.out.ext (let ⟨_, _, _, _, h, _⟩ := HO.out; h)) HALL.out.1).mono ?_; rw [HRUN.out]; rintro e w3 ⟨vK, vF, vS, vM, rfl, hsv, he, _, _⟩; obtain ⟨A1, c1, A2, c2, A3, c3, A4, c4, rfl, rfl, rfl, rfl⟩ := hsv.forms; have HE3 := As.mk he; clear he hsv)
    have HO4 : As (OutAt markF ops w 0 (.slice (some ⟨b0, 0, none⟩) 0 0) (w3.alloc (.cells #[.slice A1 (shp (runP newM ops).1).kinds.length c1, .slice A2 (shp (runP newM ops).1).full.length c2, .slice A3 (shp (runP newM ops).1).stack.length c3, .slice A4 (shp (runP newM ops).1).memo.length c4, .bool (shp (runP newM ops).1).done] 51))) := by
      have he := HE3.out.al (.cells #[.slice A1 (shp (runP newM ops).1).kinds.length c1, .slice A2 (shp (runP newM ops).1).full.length c2, .slice A3 (shp (runP newM ops).1).stack.length c3, .slice A4 (shp (runP newM ops).1).memo.length c4, .bool (shp (runP newM ops).1).done] 51)
      obtain ⟨_, _, h1, h2, h3, h4⟩ := HO.out
      exact ⟨⟨_, _, h1, h2.ext he, h3.trans he, h4⟩⟩
    generalize w3.alloc (.cells #[.slice A1 (shp (runP newM ops).1).kinds.length c1, .slice A2 (shp (runP newM ops).1).full.length c2, .slice A3 (shp (runP newM ops).1).stack.length c3, .slice A4 (shp (runP newM ops).1).memo.length c4, .bool (shp (runP newM ops).1).done] 51) = w4 at HO4 ⊢
    clear HO HE3
    go_wp2_with fail
    go_loopw [3, 6] (fun o i wr => ∃ k : Nat, k ≤ n ∧ i = .int .i64 ((k : Int) + 1) ∧ As (OutAt markF ops w k o wr)) (fun _ i _ => n + 1 - (intOf i).toNat)
    case atStart => exact ⟨0, Nat.zero_le _, rfl, HO4⟩
    case round =>
      obtain ⟨k, hk, rfl, HO⟩ := hrel
      obtain ⟨Ao, co, rfl, h1, h2, h3⟩ := HO.out
      have HI := As.mk h1
      have HE := As.mk h2
      have HF := As.mk h3
      clear HO h1 h2 h3
      by_cases hlt : k < n
      · have q1 : (k : Int) + 1 ≤ n := by omega
        have hs : ∀ W : World, (Instr.slice 25 (.slice (some ad) ops.length c) none (some (.int .i64 ((k : Int) + 1))) none).run Try.prog W = .ok (.slice (some ad) (k + 1) c) W := slice_toO ad ops.length c (k + 1) (by have := HLE.out; omega) hc
        have htl : (ops.take (k + 1)).length = k + 1 := by have := HLE.out; simp; omega
        have HT := As.mk htl
        have hok : (ops.take (k + 1)).all okO = true := List.all_eq_true.2 (fun x hx => List.all_eq_true.1 HALL.out.1 x (List.mem_of_mem_take hx))
        have HOK := As.mk hok
        have hrun := runS_new hok
        obtain ⟨m1, hm1⟩ : ∃ m1, m1 = (runP newM (ops.take (k + 1))).1 := ⟨_, rfl⟩
        obtain ⟨n1, hn1⟩ : ∃ n1, n1 = (runP newM (ops.take (k + 1))).2 := ⟨_, rfl⟩
        rw [← hm1, ← hn1] at hrun
        have HRN := As.mk hrun
        have HM1 := As.mk hm1
        have hpl := pre_len markF ops (k := k) (by rw [← HNN.out]; omega)
        have HPL := As.mk hpl
        have HLT : As (k < (runP newM ops).2) := ⟨by rw [← HNN.out]; exact hlt⟩
        clear htl hok hrun hm1 hn1 hpl
        go_upto_region 9 with (go_at_call 75; refine (runShapes_k _ _ _ (ops.take (k + 1)) _ HT.out (rdO_take (HR.out.ext HE.out) (k + 1)) HOK.out).mono ?_; rw [HRN.out]; rintro e w5 ⟨vK, vF, vS, vM, rfl, hsv, he, _, hoks⟩; obtain ⟨A1, c1, A2, c2, A3, c3, A4, c4, rfl, rfl, rfl, rfl⟩ := hsv.forms; have HE5 := As.mk he; have HSV := As.mk hsv; have HOS := As.mk hoks; clear he hsv hoks)
        have HE6 := As.mk (HE5.out.al (.cells #[.slice A1 (shp m1).kinds.length c1, .slice A2 (shp m1).full.length c2, .slice A3 (shp m1).stack.length c3, .slice A4 (shp m1).memo.length c4, .bool (shp m1).done] 51))
        have HS6 := As.mk (rdA_J (HSV.out.t.ext ((Ext.rf _).al (.cells #[.slice A1 (shp m1).kinds.length c1, .slice A2 (shp m1).full.length c2, .slice A3 (shp m1).stack.length c3, .slice A4 (shp m1).memo.length c4, .bool (shp m1).done] 51))) (by have := HOS.out.sl; omega))
        have hsb : SB (w5.alloc (.cells #[.slice A1 (shp m1).kinds.length c1, .slice A2 (shp m1).full.length c2, .slice A3 (shp m1).stack.length c3, .slice A4 (shp m1).memo.length c4, .bool (shp m1).done] 51)) w5.heap.size _ _ _ _ _ := al_new w5 (.cells #[.slice A1 (shp m1).kinds.length c1, .slice A2 (shp m1).full.length c2, .slice A3 (shp m1).stack.length c3, .slice A4 (shp m1).memo.length c4, .bool (shp m1).done] 51)
        generalize w5.alloc (.cells #[.slice A1 (shp m1).kinds.length c1, .slice A2 (shp m1).full.length c2, .slice A3 (shp m1).stack.length c3, .slice A4 (shp m1).memo.length c4, .bool (shp m1).done] 51) = w6 at HE6 HS6 hsb ⊢
        generalize w5.heap.size = gS at hsb ⊢
        have s2 := SB.c2 hsb
        have hsl := HOS.out.sl
        have HSB := As.mk hsb
        clear hsb HE5 HSV
        obtain ⟨ss, hss⟩ : ∃ ss, ss = m1.stack := ⟨_, rfl⟩
        have hse : (shp m1).stack = ss := by rw [hss]; rfl
        rw [hse] at HS6 s2 hsl HSB
        have HSS := As.mk hss
        clear hss hse
        have hi6 := HI.out.ext HE6.out
        have hpl6 : (pre markF ops k).length ≤ 2000000000000 := by have := HPL.out; omega
        have HT3 : As (∀ gP cP w7, AppI (.slice Ao k co) (pre markF ops k) (pre markF ops k ++ [((cntN ss : Int) : Int)]) w6 gP cP w7 → OutAt markF ops w (k + 1) (.slice (some ⟨gP, 0, none⟩) ((pre markF ops k).length + 1) cP) w7) := ⟨fun gP cP w7 hap => outAt_next (f := markF) HLT.out (HE.out.trans HE6.out) HF.out (by rw [← HM1.out]; exact (show markF m1 = (cntN ss : Int) from by rw [HSS.out]; rfl) ▸ hap)⟩
        go_wp2_with fail
        go_loopw [9, 10] (fun s j wr => ∃ q : Nat, q ≤ ss.length ∧ j = .int .i64 q ∧ s = .int .i64 (cntN (ss.take q)) ∧ As (wr = w6)) (fun _ j _ => ss.length - (intOf j).toNat)
        case atStart => exact ⟨0, Nat.zero_le _, rfl, rfl, ⟨rfl⟩⟩
        case round =>
          obtain ⟨q, hq, rfl, rfl, ⟨rfl⟩⟩ := hrel
          obtain ⟨t, ht⟩ : ∃ t, t = cntN (ss.take q) := ⟨_, rfl⟩
          have htq : t ≤ q := by rw [ht]; have := cntN_le (ss.take q); simp at this; omega
          rw [← ht]
          by_cases hl2 : q < ss.length
          · obtain ⟨ad2, rfl, x1⟩ := HS6.out.2 q hl2
            obtain ⟨x, hx⟩ : ∃ x, x = ss[q] := ⟨_, rfl⟩
            rw [← hx] at x1
            have HQ := As.mk ht
            have HXX := As.mk hx
            have q2 : (q : Int) < ss.length := by omega
            by_cases hneg : x < 0
            · have HN := As.mk (cntN_y ss q hl2 (by rw [← HXX.out]; exact hneg))
              clear ht hx
              go_wp2_with fail
              go_roundw
              case measure => simp only [intOf]; omega
              case rel => exact ⟨q + 1, by omega, by go_num, by rw [HN.out, ← HQ.out]; go_num, ⟨by trivial⟩⟩
            · have HN := As.mk (cntN_n ss q hl2 (by rw [← HXX.out]; exact hneg))
              clear ht hx
              go_wp2_with fail
              go_roundw
              case measure => simp only [intOf]; omega
              case rel => exact ⟨q + 1, by omega, by go_num, by rw [HN.out, ← HQ.out], ⟨by trivial⟩⟩
          · have hkl : q = ss.length := by omega
            subst hkl
            have hte : cntN ss = t := by rw [ht, List.take_length]
            rw [hte] at HT3
            clear ht
            go_wp2_with ((at_builtin; go_loud (refine app_int rfl _ _ rfl (.slice Ao k co) (pre markF ops k) ((t : Int)) rfl rfl hi6 hpl6 ?_; intro gP cP w7 hap; have HOUT := As.mk (HT3.out _ _ _ hap); clear hap)))
            go_roundw
            case measure => simp only [intOf]; omega
            case rel => exact ⟨k + 1, by omega, by go_num, HOUT⟩
      · have hkl : k = n := by omega
        subst hkl
        have q1 : ¬ ((k : Int) + 1 ≤ k) := by omega
        go_wp2_with fail
        go_ret
        rw [HB.out]
        exact ⟨Ao, co, by rw [pre_len _ _ (by rw [← HNN.out]; omega)]; rfl, by rw [pre_len _ _ (by rw [← HNN.out]; omega)]; exact HI.out, HE.out, by rw [pre_len _ _ (by rw [← HNN.out]; omega)]; exact HF.out⟩
end Go.Proofs.Ytcodbpjaamggeaa.C
