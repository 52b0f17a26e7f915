/- CutOps, both sides. -/
import Derived.Test.YtcodbpjaamggeaaDa
import Derived.Test.YtcodbpjaamggeaaHd
set_option linter.unusedVariables false
set_option linter.unusedSimpArgs false
namespace Go.Proofs.Ytcodbpjaamggeaa.C
open Go.RowKit Go.Proofs.Ytcodbpjaamggeaa.W Go.Proofs.Ytcodbpjaamggeaa.P

theorem rdO_cell {w : World} {ad : Addr} {l : List Opr} (h : RdO w (some ad) l) (j : Nat) (u : Value) (hu : (ocs l)[j]? = some u) : w.cell? (ad.add j) = some u := by
  have hj : j < l.length * 2 := by
    have := (List.getElem?_eq_some_iff.1 hu).1
    rwa [ocs_len] at this
  obtain ⟨ad', h1, h2, h3⟩ := h.2 (j / 2) (by omega)
  cases h1
  obtain ⟨h4, h5⟩ := ocs_at l (j / 2) (by omega)
  rcases Nat.mod_two_eq_zero_or_one j with hm | hm
  · have e : j / 2 * 2 = j := by omega
    rw [e] at h4 h2
    rw [hu] at h4
    injection h4 with h4
    rw [h2, h4]
  · have e : j / 2 * 2 + 1 = j := by omega
    have e2 : j / 2 * 2 = j - 1 := by omega
    rw [e, hu] at h5
    injection h5 with h5
    have e3 : ad.add j = ⟨(ad.add (j / 2 * 2)).block, (ad.add (j / 2 * 2)).off + 1, none⟩ := by
      rw [e2]
      have hj0 : j ≠ 0 := by omega
      unfold Addr.add
      rw [if_neg hj0]
      by_cases h0 : j - 1 = 0
      · simp only [h0, if_true]
        have : j = 1 := by omega
        subst this
        rfl
      · simp only [h0, if_false]
        rw [Addr.mk.injEq]
        exact ⟨rfl, by omega, rfl⟩
    rw [e3, h3, h5]
theorem rdO_take {w : World} {A : Option Addr} {l : List Opr} (h : RdO w A l) (n : Nat) : RdO w A (l.take n) :=
  ⟨by have := h.1; simp; omega, fun k hk => by
    have hk' : k < l.length := by simp at hk; omega
    obtain ⟨ad, ha, hc, hd⟩ := h.2 k hk'
    exact ⟨ad, ha, by simpa using hc, by simpa using hd⟩⟩
theorem slice_toO (ad : Addr) (n c k : Nat) (hk : k ≤ n) (hc : n ≤ c) : ∀ W : World, (Instr.slice 25 (.slice (some ad) n c) none (some (.int .i64 (k : Int))) none).run Try.prog W = .ok (.slice (some ad) k c) W := by
  intro W
  have ht : Try.prog.underlying 25 = some (.slice 82) := by kernel_rfl
  obtain ⟨inf, hi, hsz⟩ := Option.map_eq_some_iff.1 infoOb
  have hel : Try.prog.elem 25 = 82 := by simp [Program.elem, ht]
  have hu : Try.prog.underlying 25 = some (.slice (Try.prog.elem 25)) := by rw [hel]; exact ht
  rw [run_slice_h W 25 (some ad) n c hu .i64 (k : Int) (by omega) (by omega), hel]
  simp [sizeOf, typeInfo, hi, hsz, sliced, Result.andThen, Addr.add]
/-- A fresh row of orders is returned. -/
def OwnO (l : List Opr) (w : World) (e : Ending) (w' : World) : Prop := ∃ A' c', e = .returned (.slice A' l.length c') ∧ OR w' (.slice A' l.length c') l ∧ Ext w w' ∧ Fresh (.slice A' l.length c') w
theorem OwnO.nil (w : World) : OwnO [] w (.returned (.slice none 0 0)) w := ⟨none, 0, rfl, World.ownsRow_nil _ _ _ _, Ext.rf _, by simp [Fresh, Value.ownBlock]⟩
theorem cloneO_c (ad : Addr) (c : Nat) (l : List Opr) (w : World) (hr : RdO w (some ad) l) : Calls Try.prog 81 #[.slice (some ad) l.length c] w (OwnO l w) := by
  have he := Lib.run_eql_slice_nil (P := Try.prog)
  have hlen := hr.1
  have HC := As.mk (fun j u => rdO_cell hr j u)
  clear hr
  go_enter Try.func81, Try.ntmps81
  go_wp2_with ((at_builtin; refine app_own (t := 25) (e := 82) (z := .agg #[.int .i64 0, .int .i64 0]) (size := 2) (bytes := 16) (by kernel_rfl) infoO rfl (by omega) rfl _ _ rfl (.slice (some ⟨w.heap.size, 0, none⟩) 0 0) 0 [] rfl ad l.length c (ocs l) rfl (ocs_len l) (fun j u hu => (((Ext.rf w).al _).cellOf (HC.out j u hu))) (ocs_one l) (World.ownsRow_lit (base := 0) (size := 2) w #[] 0 (Nat.zero_le _) (by simp) rfl) (by omega) (by omega) ?_; intro A' c' w1 hown hf hat _; have HO := As.mk hown; have HF := As.mk hf; have HA := As.mk hat; clear hown hf hat))
  go_ret
  have e0 : Ext w w1 := (Fr.then (S := fun _ => False) (Fr.ofExt ((Ext.rf w).al (.cells #[] 82))) HF.out (fun i hi => .inr (by simp [Value.ownBlock] at hi; omega))).ext (fun _ h => h.elim)
  refine ⟨A', c', by simp, by unfold OR; simpa using HO.out, e0, fun k hk => ?_⟩
  rcases HA.out with h1 | ⟨b, h1, h2⟩
  · rw [Nat.zero_add] at h1; rw [hk] at h1; simp [Value.ownBlock] at h1; omega
  · rw [Nat.zero_add] at h1; rw [hk] at h1; injection h1 with h1; subst h1; simp at h2; omega
theorem cloneO_k (ad : Addr) (c : Nat) (l : List Opr) (k : Nat) (w : World) (hk : l.length = k) (hr : RdO w (some ad) l) : Calls Try.prog 81 #[.slice (some ad) k c] w (OwnO l w) := by
  subst hk
  exact cloneO_c ad c l w hr
theorem CutOps1_c (vN vS vM : Value) (d : Bool) (w : World) : Calls Try.prog 80 #[.agg #[vN, vS, vM, .bool d]] w fun e w' => (∃ v, e = .returned v) ∧ Ext w w' := by
  go_enter Try.func80, Try.ntmps80
  go_wp2_with fail
  go_end0
  exact ⟨⟨_, rfl⟩, (Ext.rf w).al _⟩
theorem CutOps1_e (args : Array Value) (w : World) : (callFunc 80 args).run Try.prog w = .ok (.enter 80 args) w :=
  call_enter Try.func80 (by kernel_rfl) (by kernel_rfl) args w
def cutOps (ops : List Opr) : List Opr := if vOps ops = true then ops.take (runP newM ops).2 else []
theorem OwnO.ext {l : List Opr} {w w1 w' : World} {e : Ending} (h : OwnO l w1 e w') (he : Ext w w1) : OwnO l w e w' := by
  obtain ⟨A, c, h1, h2, h3, h4⟩ := h
  exact ⟨A, c, h1, h2, he.trans h3, fun k hk => Nat.le_trans he.size (h4 k hk)⟩
theorem CutOps_c (ad : Addr) (c : Nat) (ops : List Opr) (w : World) (hr : RdO w (some ad) ops) (hc : ops.length ≤ c) :
    Calls Try.prog 27 #[.slice (some ad) ops.length c] w (OwnO (cutOps ops) w) := by
  have hlen := hr.1
  have HR := As.mk hr
  clear hr
  cases hv : vOps ops with
  | false =>
    have HB : As (cutOps ops = []) := ⟨by simp [cutOps, hv]⟩
    have HV := As.mk hv
    clear hv
    go_enter Try.func27, Try.ntmps27
    go_wp2_with (go_at_call 76; refine (ValidOps_c _ _ _ _ HR.out).mono ?_; rw [HV.out]; rintro e w1 ⟨rfl, he⟩; have HE := As.mk he; clear he)
    go_ret
    rw [HB.out]
    exact (OwnO.nil _).ext HE.out
  | true =>
    have HV := As.mk hv
    have hle : (runP newM ops).2 ≤ ops.length := runP_le ops newM
    have hb : cutOps ops = ops.take (runP newM ops).2 := by simp [cutOps, hv]
    obtain ⟨k, hk⟩ : ∃ k, k = (runP newM ops).2 := ⟨_, rfl⟩
    have HK := As.mk hk
    rw [← hk] at hle hb
    have hs := slice_toO ad ops.length c k hle hc
    have htl : (ops.take k).length = k := by simp; omega
    have HB := As.mk hb
    have HT := As.mk htl
    clear hk hle hb htl hc hv
    go_enter Try.func27, Try.ntmps27
    go_upto_region 4 with (first | (go_at_call 76; refine (ValidOps_c _ _ _ _ HR.out).mono ?_; rw [HV.out]; rintro e w1 ⟨rfl, he⟩; have HE := As.mk he; clear he) | (go_at_call 77; refine (running_q CutOps1_e CutOps1_c _ _ _ _ (HR.out.ext HE.out) HV.out).mono ?_; rw [← HK.out]; rintro e w2 ⟨l, vN, vS, vM, rfl, hmv, _, he⟩; obtain ⟨B3, c3, rfl, _, _⟩ := own_form hmv.nr.1; obtain ⟨B4, c4, rfl, _, _⟩ := own_form hmv.sr; obtain ⟨B5, c5, rfl, _, _⟩ := own_form hmv.me; have HE2 := As.mk (HE.out.trans he); clear he hmv))
    have hx := HE2.out.al (.cells #[.slice B3 l.length c3, .slice B4 (runP newM ops).1.stack.length c4, .slice B5 (runP newM ops).1.memo.length c5, .bool (runP newM ops).1.done] 64)
    generalize (w2.alloc (.cells #[.slice B3 l.length c3, .slice B4 (runP newM ops).1.stack.length c4, .slice B5 (runP newM ops).1.memo.length c5, .bool (runP newM ops).1.done] 64)) = w3 at hx ⊢
    clear HE2
    have HE3 := As.mk hx
    clear hx
    go_wp2_with (go_at_call 81; refine (cloneO_k ad c (ops.take k) k _ HT.out ((rdO_take HR.out k).ext HE3.out)).mono ?_; rintro e w4 ⟨A', c', rfl, ho, he, hf⟩; have HO := As.mk (And.intro ho (And.intro he hf)); clear ho he hf)
    go_ret
    rw [HB.out]
    exact OwnO.ext ⟨A', c', by rw [List.length_take]; rfl, HO.out⟩ HE3.out
set_option maxRecDepth 100000 in
set_option maxHeartbeats 1000000 in
theorem sCutOps_c (ad : Addr) (c : Nat) (ops : List Opr) (w : World) (hr : RdO w (some ad) ops) (hc : ops.length ≤ c) :
    Calls Try.prog 26 #[.slice (some ad) ops.length c] w (OwnO (cutOps ops) w) := by
  have hlen := hr.1
  have HR := As.mk hr
  clear hr
  cases hv : vOps ops with
  | false =>
    have HB : As (cutOps ops = []) := ⟨by simp [cutOps, hv]⟩
    have HV := As.mk hv
    clear hv
    go_enter Try.func26, Try.ntmps26
    go_wp2_with (go_at_call 74; refine (validOps_c _ _ _ _ HR.out).mono ?_; rw [HV.out]; rintro e w1 ⟨rfl, he⟩; have HE := As.mk he; clear he)
    go_ret
    rw [HB.out]
    exact (OwnO.nil _).ext HE.out
  | true =>
    have HV := As.mk hv
    have hle : (runP newM ops).2 ≤ ops.length := runP_le ops newM
    have hb : cutOps ops = ops.take (runP newM ops).2 := by simp [cutOps, hv]
    have hall := vOps_all hv
    have hrun := runS_new hall.1
    obtain ⟨k, hk⟩ : ∃ k, k = (runP newM ops).2 := ⟨_, rfl⟩
    rw [← hk] at hle hb hrun
    have HRUN : As (runS newS ops = (shp (runP newM ops).1, k)) := ⟨hrun⟩
    have HALL := As.mk hall
    have hs := slice_toO ad ops.length c k hle hc
    have htl : (ops.take k).length = k := by simp; omega
    have hkl : k ≤ 1000000000000 := by omega
    have HB := As.mk hb
    have HT := As.mk htl
    clear hk hle hb htl hc hv hall hrun
    go_enter Try.func26, Try.ntmps26
    go_upto_region 4 with (first | (go_at_call 74; refine (validOps_c _ _ _ _ HR.out).mono ?_; rw [HV.out]; rintro e w1 ⟨rfl, he⟩; have HE := As.mk he; clear he) | (go_at_call 75; refine (runShapes_c _ _ _ _ (HR.out.ext HE.out) HALL.out.1).mono ?_; rw [HRUN.out]; rintro e w2 ⟨vK, vF, vS, vM, rfl, hsv, he, _, _⟩; obtain ⟨A1, c1, A2, c2, A3, c3, A4, c4, rfl, rfl, rfl, rfl⟩ := hsv.forms; have HE2 := As.mk (HE.out.trans he); clear he hsv))
    have hx := HE2.out.al (.cells #[.slice A1 (shp (runP newM ops).1).kinds.length c1, .slice A2 (shp (runP newM ops).1).full.length c2, .slice A3 (shp (runP newM ops).1).stack.length c3, .slice A4 (shp (runP newM ops).1).memo.length c4, .bool (shp (runP newM ops).1).done] 51)
    generalize (w2.alloc (.cells #[.slice A1 (shp (runP newM ops).1).kinds.length c1, .slice A2 (shp (runP newM ops).1).full.length c2, .slice A3 (shp (runP newM ops).1).stack.length c3, .slice A4 (shp (runP newM ops).1).memo.length c4, .bool (shp (runP newM ops).1).done] 51)) = w3 at hx ⊢
    clear HE2
    have HE3 := As.mk hx
    have HC := As.mk (fun j u => rdO_cell ((rdO_take HR.out k).ext hx) j u)
    clear hx
    go_wp2_with ((at_builtin; refine app_own (t := 25) (e := 82) (z := .agg #[.int .i64 0, .int .i64 0]) (size := 2) (bytes := 16) (by kernel_rfl) infoO rfl (by omega) rfl _ _ rfl (.slice (some ⟨w3.heap.size, 0, none⟩) 0 0) 0 [] rfl ad k c (ocs (ops.take k)) rfl (by rw [ocs_len, HT.out]) (fun j u hu => (((Ext.rf w3).al _).cellOf (HC.out j u hu))) (ocs_one _) (World.ownsRow_lit (base := 0) (size := 2) w3 #[] 0 (Nat.zero_le _) (by simp) rfl) (by omega) (by omega) ?_; intro A' c' w4 hown hf hat _; have HO := As.mk hown; have HF := As.mk hf; have HA := As.mk hat; clear hown hf hat))
    go_ret
    have e0 : Ext w3 w4 := (Fr.then (S := fun _ => False) (Fr.ofExt ((Ext.rf w3).al (.cells #[] 82))) HF.out (fun i hi => .inr (by simp [Value.ownBlock] at hi; omega))).ext (fun _ h => h.elim)
    rw [HB.out]
    refine OwnO.ext ⟨A', c', by rw [HT.out]; simp, by unfold OR; rw [HT.out]; simpa using HO.out, e0, fun q hq => ?_⟩ HE3.out
    have hq2 : (Value.slice A' (0 + k) c').ownBlock = some q := by rw [Nat.zero_add, ← HT.out]; exact hq
    rcases HA.out with h1 | ⟨b, h1, h2⟩
    · rw [hq2] at h1; simp [Value.ownBlock] at h1; omega
    · rw [hq2] at h1; injection h1 with h1; subst h1; simp at h2; omega
end Go.Proofs.Ytcodbpjaamggeaa.C
