/- The reference's FirstBad, and its law. -/
import Derived.Test.YtcodbpjaamggeaaCz
import Derived.Test.YtcodbpjaamggeaaSa
import Derived.Test.YtcodbpjaamggeaaPt
import Derived.Test.YtcodbpjaamggeaaCr
import Derived.Test.YtcodbpjaamggeaaHc
set_option linter.unusedVariables false
set_option linter.unusedSimpArgs false
namespace Go.Proofs.Ytcodbpjaamggeaa.C
open Go.RowKit Go.Proofs.Ytcodbpjaamggeaa.W Go.Proofs.Ytcodbpjaamggeaa.P

set_option maxRecDepth 100000 in
set_option maxHeartbeats 1000000 in
theorem sFirstBad_c (A : Option Addr) (c : Nat) (ops : List Opr) (w : World) (hr : RdO w A ops) :
    Calls Try.prog 20 #[.slice A ops.length c] w fun e w' => e = .returned (.int .i64 (firstBad ops)) ∧ Ext w w' := by
  have hlen := hr.1
  have HR := As.mk hr
  clear hr
  cases hv : vOps ops with
  | false =>
    have hb : firstBad ops = -2 := by simp [firstBad, hv]
    have HV := As.mk hv
    have HB := As.mk hb
    clear hv hb
    go_enter Try.func20, Try.ntmps20
    go_wp2_with (go_at_call 74; refine (validOps_c _ _ _ _ HR.out).mono ?_; rw [HV.out]; rintro e w1 ⟨rfl, he⟩; have HE := As.mk he; clear he)
    go_ret
    exact ⟨by rw [HB.out]; rfl, HE.out⟩
  | true =>
    have HV := As.mk hv
    have hall := vOps_all hv
    have hrun := runS_new hall.1
    have HRUN : As ((runS newS ops).2 = (runP newM ops).2) := ⟨by rw [hrun]⟩
    have HALL := As.mk hall
    clear hv hrun hall
    rcases bceq ((runP newM ops).2 : Int) ops.length with hn | hn
    · have HB : As (firstBad ops = -1) := ⟨by simp [firstBad, HV.out]; omega⟩
      have HNN := As.mk hn
      clear hn
      go_enter Try.func20, Try.ntmps20
      go_wp2_with (first | (go_at_call 74; refine (validOps_c _ _ _ _ HR.out).mono ?_; rw [HV.out]; rintro e w1 ⟨rfl, he⟩; have HE := As.mk he; clear he) | (go_at_call 75; refine (runShapes_c _ _ _ _ (HR.out.ext HE.out) HALL.out.1).mono ?_; rw [HRUN.out, HNN.out]; rintro e w2 ⟨vK, vF, vS, vM, rfl, hsv, he, _, _⟩; obtain ⟨A1, c1, A2, c2, A3, c3, A4, c4, rfl, rfl, rfl, rfl⟩ := hsv.forms; have HE2 := As.mk (HE.out.trans he); clear he hsv))
      go_ret
      exact ⟨by rw [HB.out]; rfl, HE2.out.al _⟩
    · have HB : As (firstBad ops = (runP newM ops).2) := ⟨by simp at hn; simp [firstBad, HV.out]; omega⟩
      have hle : ((runP newM ops).2 : Nat) ≤ 9000000000000 := by have := runP_le ops newM; omega
      obtain ⟨k, hk⟩ : ∃ k, k = (runP newM ops).2 := ⟨_, rfl⟩
      rw [← hk] at hn HRUN HB hle
      clear hk
      go_enter Try.func20, Try.ntmps20
      go_wp2_with (first | (go_at_call 74; refine (validOps_c _ _ _ _ HR.out).mono ?_; rw [HV.out]; rintro e w1 ⟨rfl, he⟩; have HE := As.mk he; clear he) | (go_at_call 75; refine (runShapes_c _ _ _ _ (HR.out.ext HE.out) HALL.out.1).mono ?_; rw [HRUN.out]; rintro e w2 ⟨vK, vF, vS, vM, rfl, hsv, he, _, _⟩; obtain ⟨A1, c1, A2, c2, A3, c3, A4, c4, rfl, rfl, rfl, rfl⟩ := hsv.forms; have HE2 := As.mk (HE.out.trans he); clear he hsv))
      go_ret
      exact ⟨by rw [HB.out]; rfl, HE2.out.al _⟩

/-- What the law is given: orders that can be read. -/
def GivenO (w : World) (A : Option Addr) (l : List Opr) : Prop := l.length ≤ 9223372036854775807 ∧ ∀ k (h : k < l.length), ∃ ad, A = some ad ∧ w.cell? (ad.add (k * 2)) = some (.int .i64 l[k].code) ∧
    w.cell? ⟨(ad.add (k * 2)).block, (ad.add (k * 2)).off + 1, none⟩ = some (.int .i64 l[k].arg)
theorem GivenO.rd {w A l} (h : GivenO w A l) (hl : l.length ≤ 1048576) : RdO w A l := ⟨by omega, h.2⟩
set_option maxRecDepth 100000 in
set_option maxHeartbeats 1000000 in
theorem FnExactFirstBad_c (A : Option Addr) (c : Nat) (l : List Opr) (w : World) (hg : GivenO w A l) :
    Calls Try.prog 3 #[.slice A l.length c] w fun e w' => e = .returned (.bool true) ∧ Ext w w' := by
  have hln := hg.1
  have HG := As.mk hg
  clear hg
  by_cases hl : (l.length : Int) ≤ 1048576
  · obtain ⟨lf, hlf⟩ : ∃ lf, lf = (1048576 : Int) - l.length := ⟨_, rfl⟩
    have e1 : (if (l.length : Int) ≤ 1048576 then (1048576 : Int) - l.length else -1) = lf := by rw [hlf]; exact if_pos hl
    have h2 : 0 ≤ lf := by omega
    have E1 := As.mk e1
    have HR := As.mk (HG.out.rd (by omega))
    have HL := As.mk (show l.length ≤ 1048576 by omega)
    clear e1 hlf hl hln
    go_enter Try.func3, Try.ntmps3
    go_upto_region 3 with (go_at_call 19; refine (szOpS_c _ _ _ _ _ (by omega) (by omega) (by have := HL.out; omega)).mono ?_; rw [E1.out]; rintro e w1 ⟨rfl, rfl⟩)
    obtain ⟨fb, hfb⟩ : ∃ fb, firstBad l = fb := ⟨_, rfl⟩
    have HFB := As.mk hfb
    clear hfb
    go_upto_region 6 with (first | (go_at_call 21; refine (toOpS_c _ _ _ _ HR.out HL.out).mono ?_; rintro e w1 ⟨ad1, rfl, ho, he, _⟩; have HO1 := As.mk (rdA_O ho (by have := HL.out; omega)); have HE1 := As.mk he; clear ho he) | (go_at_call 20; refine (sFirstBad_c _ _ _ _ HO1.out).mono ?_; rw [HFB.out]; rintro e w2 ⟨rfl, he⟩; have HE2 := As.mk (HE1.out.trans he); clear he))
    go_upto_region 7 with (go_at_call 21; refine (toOpS_c _ _ _ _ (HR.out.ext HE2.out) HL.out).mono ?_; rintro e w3 ⟨ad2, rfl, ho, he, _⟩; have HO2 := As.mk (rdA_O ho (by have := HL.out; omega)); have HE3 := As.mk (HE2.out.trans he); clear ho he)
    go_wp2_with (first | (go_at_call 22; refine (FirstBad_c _ _ _ _ HO2.out).mono ?_; rw [HFB.out]; rintro e w4 ⟨rfl, he⟩; have HX4 := As.mk he; have HE4 := As.mk (HE3.out.trans he); clear he) | (go_at_call 21; refine (toOpS_c _ _ _ _ (HR.out.ext HE4.out) HL.out).mono ?_; rintro e w5 ⟨ad3, rfl, ho, he, _⟩; have HO3 := As.mk (rdA_O ho (by have := HL.out; omega)); have HX5 := As.mk (HX4.out.trans he); have HE5 := As.mk (HE4.out.trans he); clear ho he) | (go_at_call 23; refine (eqOpS_t _ _ _ _ _ _ (HO2.out.ext HX5.out) HO3.out).mono ?_; rintro e w6 ⟨rfl, he⟩; have HE6 := As.mk (HE5.out.trans he); clear he))
    go_ret
    exact ⟨rfl, HE6.out⟩
  · have e1 : (if (l.length : Int) ≤ 1048576 then (1048576 : Int) - l.length else -1) = -1 := if_neg hl
    have E1 := As.mk e1
    have HL := As.mk hln
    clear e1 hl hln
    go_enter Try.func3, Try.ntmps3
    go_wp2_with (go_at_call 19; refine (szOpS_c _ _ _ _ _ (by omega) (by omega) (by have := HL.out; omega)).mono ?_; rw [E1.out]; rintro e w1 ⟨rfl, rfl⟩)
    go_ret
    exact ⟨rfl, Ext.rf _⟩
end Go.Proofs.Ytcodbpjaamggeaa.C
