/- The law FnExactSafeRun. -/
import Derived.Test.YtcodbpjaamggeaaJd
import Derived.Test.YtcodbpjaamggeaaHd
set_option linter.unusedVariables false
set_option linter.unusedSimpArgs false
namespace Go.Proofs.Ytcodbpjaamggeaa.C
open Go.RowKit Go.Proofs.Ytcodbpjaamggeaa.W Go.Proofs.Ytcodbpjaamggeaa.P

theorem szIntS_c (A : Option Addr) (n c : Nat) (left : Int) (w : World) (h0 : 0 ≤ left) (h1 : left ≤ 1048576) (hn : n ≤ 9223372036854775807) :
    Calls Try.prog 96 #[.slice A n c, .int .i64 left] w fun e w' => e = .returned (.int .i64 (if (n : Int) ≤ left then left - n else -1)) ∧ w = w' := by
  by_cases hl : (n : Int) ≤ left
  · have e : (if (n : Int) ≤ left then left - n else -1) = left - n := if_pos hl
    rw [e]
    have h2 : 0 ≤ left - n := by omega
    clear e
    go_enter Try.func96, Try.ntmps96
    go_wp2_with fail
    go_ret
    exact ⟨rfl, rfl⟩
  · have e : (if (n : Int) ≤ left then left - n else -1) = -1 := if_neg hl
    rw [e]
    have h2 : left - n < 0 := by omega
    have h3 : -9223372036854775808 ≤ left - n := by omega
    clear e hl
    go_enter Try.func96, Try.ntmps96
    go_wp2_with fail
    go_ret
    exact ⟨rfl, rfl⟩
theorem make_ints (n : Nat) (hn : n ≤ 1048576) (w : World) : ∃ w', (Instr.makeSlice 32 (.int .i64 (n : Int)) (.int .i64 (n : Int))).run Try.prog w = .ok (.slice (some ⟨w.heap.size, 0, none⟩) n n) w' ∧ IR w' (.slice (some ⟨w.heap.size, 0, none⟩) n n) (List.replicate n 0) ∧ Ext w w' := by
  refine ⟨_, run_make_row' 32 3 (.int .i64 0) 8 (by kernel_rfl) infoI rfl .i64 .i64 n (by omega) (by omega) w, ?_, (Ext.rf w).al _⟩
  have := World.rowIs_made w (.int .i64 0) n 3
  exact IR.ofRow this (List.replicate n 0) (by simp) (fun i hi => by simp) (by omega)
/-- The copy of a row of numbers. -/
def CopyI (l : List Int) (w : World) (e : Ending) (w' : World) : Prop := ∃ ad, e = .returned (.slice (some ad) l.length l.length) ∧ IR w' (.slice (some ad) l.length l.length) l ∧ Ext w w' ∧ w.heap.size ≤ ad.block
set_option maxRecDepth 100000 in
theorem toIntS_c (A : Option Addr) (c : Nat) (l : List Int) (w : World) (hr : RdI w A l) (hl : l.length ≤ 1048576) : Calls Try.prog 99 #[.slice A l.length c] w (CopyI l w) := by
  obtain ⟨w0, hm, hO, hE⟩ := make_ints l.length hl w
  obtain ⟨ad, had⟩ : ∃ ad : Addr, ad = ⟨w.heap.size, 0, none⟩ := ⟨_, rfl⟩
  rw [← had] at hm hO
  have HB : As (w.heap.size ≤ ad.block) := ⟨by rw [had]; exact Nat.le_refl _⟩
  have HR := As.mk hr
  have HO := As.mk hO
  have HE := As.mk hE
  clear hr had hO hE
  go_enter Try.func99, Try.ntmps99
  go_wp2_with fail
  go_loopw [4] (fun i wr => ∃ k : Nat, k ≤ l.length ∧ i = .int .i64 k ∧ As (IR wr (.slice (some ad) l.length l.length) (l.take k ++ List.replicate (l.length - k) 0)) ∧ As (Ext w wr)) (fun i _ => l.length - (intOf i).toNat)
  case atStart => exact ⟨0, Nat.zero_le _, rfl, ⟨by simpa using HO.out⟩, HE⟩
  case round =>
    obtain ⟨k, hk, rfl, hO, he⟩ := hrel
    by_cases hlt : k < l.length
    · obtain ⟨a, rfl, h1⟩ := (HR.out.ext he.out).2 k hlt
      obtain ⟨z, hz⟩ : ∃ z, z = l[k] := ⟨_, rfl⟩
      rw [← hz] at h1
      have HZ := As.mk hz
      clear hz
      have q1 : (k : Int) < l.length := by omega
      have hkl : k < (l.take k ++ List.replicate (l.length - k) (0 : Int)).length := by simp; omega
      obtain ⟨_, hA, g1⟩ := (rdA_J hO.out (by simp; omega)).2 k hkl
      cases hA
      have g3 := (IR.fzA hO.out k).1
      have hab := (IR.fzA hO.out k).2
      have HAB := As.mk hab
      obtain ⟨z0, hz0⟩ : ∃ z0, z0 = (l.take k ++ List.replicate (l.length - k) (0 : Int))[k] := ⟨_, rfl⟩
      rw [← hz0] at g1
      clear hab hz0 hkl
      go_wp2_with fail
      go_roundw
      case measure => simp only [intOf]; omega
      case rel =>
        have h1 := IR.setA hO.out k z
        rw [HZ.out, fill_step l _ k hlt] at h1
        exact ⟨k + 1, by omega, by go_num, ⟨by simpa only [HZ.out] using h1⟩, ⟨he.out.st (by rw [add_block]; exact HB.out) _⟩⟩
    · have hkl : k = l.length := by omega
      subst hkl
      go_wp2_with fail
      go_ret
      exact ⟨ad, rfl, by simpa using hO.out, he.out, HB.out⟩
theorem szRules_c (r : Rl) (A2 : Option Addr) (c2 : Nat) (left : Int) (w : World) (h0 : 0 ≤ left) (h1 : left ≤ 1048576) (hn : r.cls.length ≤ 9223372036854775807) :
    Calls Try.prog 43 #[.agg #[.int .i64 r.steps, .int .i64 r.nodes, .int .i64 r.deep, .slice A2 r.cls.length c2], .int .i64 left] w fun e w' => e = .returned (.int .i64 (if (r.cls.length : Int) ≤ left then left - r.cls.length else -1)) ∧ Ext w w' := by
  obtain ⟨z, hz⟩ : ∃ z, z = (if (r.cls.length : Int) ≤ left then left - r.cls.length else -1) := ⟨_, rfl⟩
  have hc := szIntS_c A2 r.cls.length c2 left (w.alloc (.cells #[.int .i64 r.steps, .int .i64 r.nodes, .int .i64 r.deep, .slice A2 r.cls.length c2] 41)) h0 h1 hn
  rw [← hz] at hc ⊢
  have hz2 : z = -1 ∨ 0 ≤ z := by rw [hz]; split <;> omega
  have HC := As.mk hc
  clear hz hc
  rcases hz2 with rfl | hz0
  all_goals
    go_enter Try.func43, Try.ntmps43
    go_wp2_with (go_at_call 96; refine HC.out.mono ?_; rintro e w2 ⟨rfl, rfl⟩)
    go_ret
    exact ⟨rfl, (Ext.rf _).al _⟩
/-- A block of four cells. -/
abbrev C4 (w : World) (g : Nat) (a b c d : Value) (t : TypeId) : Prop := w.heap[g]? = some (.cells #[a, b, c, d] t (0, 0))
section
variable {w : World} {g : Nat} {a b c d : Value} {t : TypeId}
theorem C4.c0 (h : C4 w g a b c d t) : w.cell? ⟨g, 0, none⟩ = some a := by simp [World.cell?, h]
theorem C4.c1 (h : C4 w g a b c d t) : w.cell? ⟨g, 1, none⟩ = some b := by simp [World.cell?, h]
theorem C4.c2 (h : C4 w g a b c d t) : w.cell? ⟨g, 2, none⟩ = some c := by simp [World.cell?, h]
theorem C4.c3 (h : C4 w g a b c d t) : w.cell? ⟨g, 3, none⟩ = some d := by simp [World.cell?, h]
theorem C4.fz (h : C4 w g a b c d t) (j : Nat) : w.frozen? ⟨g, j, none⟩ = false := by simp [World.frozen?, h]
theorem C4.all (x y z u : Value) (h : C4 w g a b c d t) : C4 ((((w.setCell ⟨g, 0, none⟩ x).setCell ⟨g, 1, none⟩ y).setCell ⟨g, 2, none⟩ z).setCell ⟨g, 3, none⟩ u) g x y z u t := by
  have hlt := (Array.getElem?_eq_some_iff.1 h).1
  have h' : w.heap[g]? = _ := h
  simp [C4, World.setCell, Array.getElem?_modify, h']
end
theorem infoR : (Try.prog.info? 45).map (·.size) = some 4 := by kernel_rfl
theorem loadR {w : World} {g : Nat} {v0 v1 v2 v3 : Value} (h : w.heap[g]? = some (.cells #[v0, v1, v2, v3] 45 (0, 0))) : (loadVar 45 ⟨g, 0, none⟩).run Try.prog w = .ok (.agg #[v0, v1, v2, v3]) w := by
  have hm : (Try.prog.underlying 45).map (fun d => match d with | .struct _ => true | _ => false) = some true := by kernel_rfl
  obtain ⟨d, hu, hd⟩ := Option.map_eq_some_iff.1 hm
  refine run_loadVar_row w g _ _ _ _ d h hu ?_ infoR
  cases d <;> first | rfl | exact absurd hd (by simp)
set_option maxRecDepth 100000 in
theorem toRules_c (r : Rl) (A2 : Option Addr) (c2 : Nat) (w : World) (hr : RdI w A2 r.cls) (hl : r.cls.length ≤ 1048576) :
    Calls Try.prog 45 #[.agg #[.int .i64 r.steps, .int .i64 r.nodes, .int .i64 r.deep, .slice A2 r.cls.length c2]] w fun e w' => ∃ ad, e = .returned (.agg #[.int .i64 r.steps, .int .i64 r.nodes, .int .i64 r.deep, .slice (some ad) r.cls.length r.cls.length]) ∧ RdI w' (some ad) r.cls ∧ Ext w w' := by
  have HR := As.mk hr
  have HL := As.mk hl
  clear hr hl
  go_enter Try.func45, Try.ntmps45
  go_upto_region 5 with fail
  have hb := al_new ((w.alloc (.cells #[.int .i64 r.steps, .int .i64 r.nodes, .int .i64 r.deep, .slice A2 r.cls.length c2] 41)).alloc (.cells #[.int .i64 0, .int .i64 0, .int .i64 0, .slice none 0 0] 45)) (.cells #[.int .i64 r.steps, .int .i64 r.nodes, .int .i64 r.deep, .slice none 0 0] 45)
  rw [al_size, al_size] at hb
  have hz := ((Ext.rf _).al (.cells #[.int .i64 r.steps, .int .i64 r.nodes, .int .i64 r.deep, .slice none 0 0] 45)).blk (al_new (w.alloc (.cells #[.int .i64 r.steps, .int .i64 r.nodes, .int .i64 r.deep, .slice A2 r.cls.length c2] 41)) (.cells #[.int .i64 0, .int .i64 0, .int .i64 0, .slice none 0 0] 45))
  rw [al_size] at hz
  have hl0 := (((Ext.rf _).al (.cells #[.int .i64 0, .int .i64 0, .int .i64 0, .slice none 0 0] 45)).al (.cells #[.int .i64 r.steps, .int .i64 r.nodes, .int .i64 r.deep, .slice none 0 0] 45)).blk (al_new w (.cells #[.int .i64 r.steps, .int .i64 r.nodes, .int .i64 r.deep, .slice A2 r.cls.length c2] 41))
  have HX := As.mk ((((Ext.rf w).al (.cells #[.int .i64 r.steps, .int .i64 r.nodes, .int .i64 r.deep, .slice A2 r.cls.length c2] 41)).al (.cells #[.int .i64 0, .int .i64 0, .int .i64 0, .slice none 0 0] 45)).al (.cells #[.int .i64 r.steps, .int .i64 r.nodes, .int .i64 r.deep, .slice none 0 0] 45))
  generalize ((w.alloc (.cells #[.int .i64 r.steps, .int .i64 r.nodes, .int .i64 r.deep, .slice A2 r.cls.length c2] 41)).alloc (.cells #[.int .i64 0, .int .i64 0, .int .i64 0, .slice none 0 0] 45)).alloc (.cells #[.int .i64 r.steps, .int .i64 r.nodes, .int .i64 r.deep, .slice none 0 0] 45) = w1 at hb hz hl0 HX ⊢
  obtain ⟨g, hg⟩ : ∃ g, g = w.heap.size := ⟨_, rfl⟩
  rw [← hg] at hb hz hl0 ⊢
  have hgw : w.heap.size ≤ g := by omega
  have l3 : w1.cell? ⟨g, 3, none⟩ = some (.slice A2 r.cls.length c2) := by simp [World.cell?, hl0]
  have HB := As.mk hb
  have HZ := As.mk hz
  clear hb hz hl0 hg
  go_wp2_with (go_at_call 99; refine (toIntS_c _ _ _ _ (HR.out.ext HX.out) HL.out).mono ?_; rintro e w2 ⟨ad, rfl, ho, he, hbk⟩; have HO := As.mk ho; have HE := As.mk he; have HK := As.mk hbk; have hb2 := he.blk HB.out; have hz2 := he.blk HZ.out; have HZ2 := As.mk hz2; have d0 := C4.c0 hb2; have d1 := C4.c1 hb2; have d2 := C4.c2 hb2; have d3 := C4.c3 hb2; have f3 := C4.fz hb2 3; have e0 := C4.c0 hz2; have e1 := C4.c1 hz2; have e2 := C4.c2 hz2; have e3 := C4.c3 hz2; have g0 := C4.fz hz2 0; have g1 := C4.fz hz2 1; have g2 := C4.fz hz2 2; have g3 := C4.fz hz2 3; clear ho he hbk hb2 hz2)
  have hz4 : (w2.setCell ⟨g + 1 + 1, 3, none⟩ (.slice (some ad) r.cls.length r.cls.length)).heap[g + 1]? = _ := (Below.heap_setCell _ _ _ _ (by show g + 1 ≠ g + 1 + 1; omega)).trans HZ2.out
  refine bodyPost_ret (results_cell rfl _ _ (g + 1) _ rfl (loadR (C4.all _ _ _ _ hz4))) rfl ?_
  have hs1 : w1.heap.size ≤ ad.block := HK.out
  have hgb : g + 1 + 1 < w1.heap.size := (Array.getElem?_eq_some_iff.1 HB.out).1
  refine ⟨ad, rfl, rdA_J (HO.out.keep (fun k hk => ?_)) (by have := HL.out; omega), ?_⟩
  · have hk2 : k = ad.block := by
      have := (IR.fzA HO.out 0).2
      rw [this, add_block] at hk
      injection hk with hk
      exact hk.symm
    subst hk2
    rw [Below.heap_setCell _ _ _ _ (by show ad.block ≠ g + 1; omega), Below.heap_setCell _ _ _ _ (by show ad.block ≠ g + 1; omega), Below.heap_setCell _ _ _ _ (by show ad.block ≠ g + 1; omega), Below.heap_setCell _ _ _ _ (by show ad.block ≠ g + 1; omega), Below.heap_setCell _ _ _ _ (by show ad.block ≠ g + 1 + 1; omega)]
  · exact (((((HX.out.trans HE.out).st (by show w.heap.size ≤ g + 1 + 1; omega) _).st (by show w.heap.size ≤ g + 1; omega) _).st (by show w.heap.size ≤ g + 1; omega) _).st (by show w.heap.size ≤ g + 1; omega) _).st (by show w.heap.size ≤ g + 1; omega) _
set_option maxRecDepth 100000 in
theorem eqRules_t (r : Rl) (A A2 : Option Addr) (c c2 : Nat) (w : World) (h1 : RdI w A r.cls) (h2 : RdI w A2 r.cls) :
    Calls Try.prog 47 #[.agg #[.int .i64 r.steps, .int .i64 r.nodes, .int .i64 r.deep, .slice A r.cls.length c], .agg #[.int .i64 r.steps, .int .i64 r.nodes, .int .i64 r.deep, .slice A2 r.cls.length c2]] w fun e w' => e = .returned (.bool true) ∧ Ext w w' := by
  have H1 := As.mk h1
  have H2 := As.mk h2
  clear h1 h2
  go_enter Try.func47, Try.ntmps47
  go_wp2_with (go_at_call 32; refine (eqIntS_t _ _ _ _ _ _ (H1.out.ext (((Ext.rf _).al _).al _)) (H2.out.ext (((Ext.rf _).al _).al _))).mono ?_; rintro e w2 ⟨rfl, he⟩; have HE := As.mk he; clear he)
  go_ret
  exact ⟨rfl, (((Ext.rf _).al _).al _).trans HE.out⟩
set_option maxRecDepth 100000 in
set_option maxHeartbeats 2000000 in
theorem sSafeRun_c (ad : Addr) (c0 : Nat) (ops : List Opr) (A : Option Addr) (c : Nat) (r : Rl) (w : World) (hr : RdO w (some ad) ops) (hcl : RdI w A r.cls) (hc : r.cls.length ≤ c) :
    Calls Try.prog 44 #[.slice (some ad) ops.length c0, .agg #[.int .i64 r.steps, .int .i64 r.nodes, .int .i64 r.deep, .slice A r.cls.length c]] w fun e w' => e = .returned (.tuple #[.int .i64 (safeR ops r).1, .int .i64 (safeR ops r).2]) ∧ Ext w w' := by
  have hlen := hr.1
  have HR := As.mk hr
  have HCL := As.mk hcl
  have HC := As.mk hc
  clear hr hcl hc
  go_enter Try.func44, Try.ntmps44
  go_upto_region 1 with fail
  have hb := al_new w (.cells #[.int .i64 r.steps, .int .i64 r.nodes, .int .i64 r.deep, .slice A r.cls.length c] 45)
  have HE1 := As.mk ((Ext.rf w).al (.cells #[.int .i64 r.steps, .int .i64 r.nodes, .int .i64 r.deep, .slice A r.cls.length c] 45))
  generalize w.alloc (.cells #[.int .i64 r.steps, .int .i64 r.nodes, .int .i64 r.deep, .slice A r.cls.length c] 45) = w0 at hb HE1 ⊢
  generalize w.heap.size = gr at hb ⊢
  have b0 := RuB.c0 hb; have b1 := RuB.c1 hb; have b2 := RuB.c2 hb; have b3 := RuB.c3 hb
  clear hb
  cases hv : vOps ops with
  | false =>
    have HS : As (safeR ops r = (-1, -1)) := ⟨by unfold safeR; rw [if_neg (by rw [hv]; simp)]⟩
    have HV := As.mk hv
    clear hv
    go_wp2_with (go_at_call 74; refine (validOps_c _ _ _ _ (HR.out.ext HE1.out)).mono ?_; rw [HV.out]; rintro e w1 ⟨rfl, he⟩; have HE := As.mk he; clear he)
    go_ret2
    rw [HS.out]
    exact ⟨rfl, HE1.out.trans HE.out⟩
  | true =>
    have HV := As.mk hv
    clear hv
    cases hvr : vRules r with
    | false =>
      have HS : As (safeR ops r = (-1, -1)) := ⟨by unfold safeR; rw [if_neg (by rw [hvr]; simp)]⟩
      have HVR := As.mk hvr
      clear hvr
      go_wp2_with (first | (go_at_call 74; refine (validOps_c _ _ _ _ (HR.out.ext HE1.out)).mono ?_; rw [HV.out]; rintro e w1 ⟨rfl, he⟩; have HE := As.mk he; have b0 := he.cellOf b0; have b1 := he.cellOf b1; have b2 := he.cellOf b2; have b3 := he.cellOf b3; clear he) | (go_at_call 97; refine (validRules_c _ _ _ _ (HCL.out.ext (HE1.out.trans HE.out)) HC.out).mono ?_; rw [HVR.out]; rintro e w2 ⟨rfl, he⟩; have HE2 := As.mk he; clear he))
      go_ret2
      rw [HS.out]
      exact ⟨rfl, HE1.out.trans (HE.out.trans HE2.out)⟩
    | true =>
      have HS : As (safeR ops r = (((safeP r newM 0 ops).1 : Int), (safeP r newM 0 ops).2)) := ⟨by unfold safeR; rw [if_pos ⟨HV.out, hvr⟩]⟩
      have HVR := As.mk hvr
      have HALL := As.mk (vOps_all HV.out)
      clear hvr
      go_wp2_with (first | (go_at_call 74; refine (validOps_c _ _ _ _ (HR.out.ext HE1.out)).mono ?_; rw [HV.out]; rintro e w1 ⟨rfl, he⟩; have HE := As.mk he; have b0 := he.cellOf b0; have b1 := he.cellOf b1; have b2 := he.cellOf b2; have b3 := he.cellOf b3; clear he) | (go_at_call 97; refine (validRules_c _ _ _ _ (HCL.out.ext (HE1.out.trans HE.out)) HC.out).mono ?_; rw [HVR.out]; rintro e w2 ⟨rfl, he⟩; have HE2 := As.mk (HE1.out.trans (HE.out.trans he)); have b0 := he.cellOf b0; have b1 := he.cellOf b1; have b2 := he.cellOf b2; have b3 := he.cellOf b3; clear he) | (go_at_call 98; refine (safe_c _ _ _ _ _ _ _ (HR.out.ext HE2.out) HALL.out.1 (HCL.out.ext HE2.out)).mono ?_; rintro e w3 ⟨rfl, he⟩; have HE3 := As.mk he; clear he))
      go_ret2
      rw [HS.out]
      exact ⟨rfl, HE2.out.trans HE3.out⟩
end Go.Proofs.Ytcodbpjaamggeaa.C
