/- spec.CutOps. -/
import Derived.Test.YtgenllcfpjgklaaCz
import Derived.Test.YtgenllcfpjgklaaSa
import Derived.Test.YtgenllcfpjgklaaHo
import Derived.Test.YtgenllcfpjgklaaPe
set_option linter.unusedVariables false
set_option linter.unusedSimpArgs false
namespace Go.Proofs.Ytgenllcfpjgklaa.C
open Go.RowKit Go.Proofs.Ytgenllcfpjgklaa.W Go.Proofs.Ytgenllcfpjgklaa.P

def cutOps (ops : List Opr) : List Opr := if vOps ops = true then ops.take (runP newM ops).2 else []
set_option maxRecDepth 100000 in
set_option maxHeartbeats 1000000 in
theorem sCutOps_c (ad : Addr) (c : Nat) (ops : List Opr) (w : World) (hr : RdO w (some ad) ops) (hc : ops.length ≤ c) :
    Calls Try.prog 99 #[.slice (some ad) ops.length c] w (OwnO (cutOps ops) w) := by
  have hlen := hr.1
  have HR := As.mk hr
  clear hr
  cases hv : vOps ops with
  | false =>
    have HB : As (cutOps ops = []) := ⟨by simp [cutOps, hv]⟩
    have HV := As.mk hv
    clear hv
    go_enter Try.func99, Try.ntmps99
    go_wp2_with (go_at_call 72; refine (validOps_c _ _ _ _ HR.out).mono ?_; rw [HV.out]; rintro e w1 ⟨rfl, he⟩; have HE := As.mk he; clear he)
    go_ret
    rw [HB.out]
    exact (OwnO.nil _).ext HE.out
  | true =>
    have HV := As.mk hv
    have hle : (runP newM ops).2 ≤ ops.length := runP_le ops newM
    have hb : cutOps ops = ops.take (runP newM ops).2 := by simp [cutOps, hv]
    have hall := vOps_all hv
    have hrun := runS_new hall.1
    obtain ⟨k, hk⟩ : ∃ k, k = (runP newM ops).2 := ⟨_, rfl⟩
    rw [← hk] at hle hb hrun
    have HRUN : As (runS newS ops = (shp (runP newM ops).1, k)) := ⟨hrun⟩
    have HALL := As.mk hall
    have hs := slice_toO ad ops.length c k hle hc
    have htl : (ops.take k).length = k := by simp; omega
    have hkl : k ≤ 1000000000000 := by omega
    have HB := As.mk hb
    have HT := As.mk htl
    clear hk hle hb htl hc hv hall hrun
    go_enter Try.func99, Try.ntmps99
    go_upto_region 4 with (first | (go_at_call 72; refine (validOps_c _ _ _ _ HR.out).mono ?_; rw [HV.out]; rintro e w1 ⟨rfl, he⟩; have HE := As.mk he; clear he) | (go_at_call 122; refine (runShapes_c _ _ _ _ (HR.out.ext HE.out) HALL.out.1).mono ?_; rw [HRUN.out]; rintro e w2 ⟨vK, vF, vS, vM, rfl, hsv, he, _, _⟩; obtain ⟨A1, c1, A2, c2, A3, c3, A4, c4, rfl, rfl, rfl, rfl⟩ := hsv.forms; have HE2 := As.mk (HE.out.trans he); clear he hsv))
    have hx := HE2.out.al (.cells #[.slice A1 (shp (runP newM ops).1).kinds.length c1, .slice A2 (shp (runP newM ops).1).full.length c2, .slice A3 (shp (runP newM ops).1).stack.length c3, .slice A4 (shp (runP newM ops).1).memo.length c4, .bool (shp (runP newM ops).1).done] 91)
    generalize (w2.alloc (.cells #[.slice A1 (shp (runP newM ops).1).kinds.length c1, .slice A2 (shp (runP newM ops).1).full.length c2, .slice A3 (shp (runP newM ops).1).stack.length c3, .slice A4 (shp (runP newM ops).1).memo.length c4, .bool (shp (runP newM ops).1).done] 91)) = w3 at hx ⊢
    clear HE2
    have HE3 := As.mk hx
    have HC := As.mk (fun j u => rdO_cell ((rdO_take HR.out k).ext hx) j u)
    clear hx
    go_wp2_with ((at_builtin; refine app_own (t := 30) (e := 52) (z := .agg #[.int .i64 0, .int .i64 0]) (size := 2) (bytes := 16) (by kernel_rfl) infoO rfl (by omega) rfl _ _ rfl (.slice (some ⟨w3.heap.size, 0, none⟩) 0 0) 0 [] rfl ad k c (ocs (ops.take k)) rfl (by rw [ocs_len, HT.out]) (fun j u hu => (((Ext.rf w3).al _).cellOf (HC.out j u hu))) (ocs_one _) (World.ownsRow_lit (base := 0) (size := 2) w3 #[] 0 (Nat.zero_le _) (by simp) rfl) (by omega) (by omega) ?_; intro A' c' w4 hown hf hat _; have HO := As.mk hown; have HF := As.mk hf; have HA := As.mk hat; clear hown hf hat))
    go_ret
    have e0 : Ext w3 w4 := (Fr.then (S := fun _ => False) (Fr.ofExt ((Ext.rf w3).al (.cells #[] 52))) HF.out (fun i hi => .inr (by simp [Value.ownBlock] at hi; omega))).ext (fun _ h => h.elim)
    rw [HB.out]
    refine OwnO.ext ⟨A', c', by rw [HT.out]; simp, by unfold OR; rw [HT.out]; simpa using HO.out, e0, fun q hq => ?_⟩ HE3.out
    have hq2 : (Value.slice A' (0 + k) c').ownBlock = some q := by rw [Nat.zero_add, ← HT.out]; exact hq
    rcases HA.out with h1 | ⟨b, h1, h2⟩
    · rw [hq2] at h1; simp [Value.ownBlock] at h1; omega
    · rw [hq2] at h1; injection h1 with h1; subst h1; simp at h2; omega
end Go.Proofs.Ytgenllcfpjgklaa.C
