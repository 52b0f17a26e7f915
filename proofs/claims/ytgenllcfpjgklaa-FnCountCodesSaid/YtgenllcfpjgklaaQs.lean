/- An order is drawn; a reader is made. -/
import Derived.Test.YtgenllcfpjgklaaCu
import Derived.Test.YtgenllcfpjgklaaQb
import Derived.Test.YtgenllcfpjgklaaHo
set_option linter.unusedVariables false
set_option linter.unusedSimpArgs false
namespace Go.Proofs.Ytgenllcfpjgklaa.C
open Go.RowKit Go.Proofs.Ytgenllcfpjgklaa.W Go.Proofs.Ytgenllcfpjgklaa.P

theorem OB.fz' {w g c a} (h : OB w g c a) (j : Nat) : w.frozen? ⟨g, j, none⟩ = false := by
  have h' : w.heap[g]? = _ := h
  simp [World.frozen?, h']
theorem OB.set1 {w g c a} (h : OB w g c a) (b : Int) : OB (w.setCell ⟨g, 1, none⟩ (.int .i64 b)) g c b := by
  have h' : w.heap[g]? = _ := h
  simp [OB, World.setCell, Array.getElem?_modify, h']
theorem OB.both {w g c a} (h : OB w g c a) (x y : Int) : OB ((w.setCell ⟨g, 0, none⟩ (.int .i64 x)).setCell ⟨g, 1, none⟩ (.int .i64 y)) g x y := by
  have h' : w.heap[g]? = _ := h
  simp [OB, World.setCell, Array.getElem?_modify, h']
/-- An order that is valid. -/
def SoV (w : World) (g p : Nat) (e : Ending) (w' : World) : Prop := ∃ a b, e = .returned (.agg #[.int .i64 a, .int .i64 b]) ∧ okO ⟨a, b⟩ = true ∧ Drew w g p 3 w'
theorem so_end {w W : World} {g p q : Nat} {a b x y : Int} (ho : okO ⟨a, b⟩ = true) (hf : Fr (fun k => k = g) w W) (hr : Rdr W g q) (hq : q ≤ p + 3) (hg : g < w.heap.size) (hb : OB W w.heap.size x y) :
    SoV w g p (.returned (.agg #[.int .i64 a, .int .i64 b])) ((W.setCell ⟨w.heap.size, 0, none⟩ (.int .i64 a)).setCell ⟨w.heap.size, 1, none⟩ (.int .i64 b)) := by
  have h3 : Fr (fun k => k = w.heap.size) W ((W.setCell ⟨w.heap.size, 0, none⟩ (.int .i64 a)).setCell ⟨w.heap.size, 1, none⟩ (.int .i64 b)) := (Fr.set (S := fun k => k = w.heap.size) W (.int .i64 a) (p := ⟨w.heap.size, 0, none⟩) rfl).trans (Fr.set _ (.int .i64 b) (p := ⟨w.heap.size, 1, none⟩) rfl)
  exact ⟨a, b, rfl, ho, ⟨q, hq, hr.fr h3 (fun k hk => by omega)⟩, Fr.then hf h3 (fun i hi => .inr (by omega))⟩
/-- Before the order comes back. -/
def SoA (w : World) (g p b2 b3 : Nat) (a : Int) (W : World) : Prop := ∃ b x y q, okO ⟨a, b⟩ = true ∧ OB W b3 a b ∧ OB W b2 x y ∧ Fr (fun k => k = g) w W ∧ Rdr W g q ∧ q ≤ p + 3
set_option maxRecDepth 100000 in
set_option maxHeartbeats 4000000 in
theorem someOp_c (w : World) (g p : Nat) (h : Rdr w g p) (hp : p + 3 ≤ 1000000) :
    Calls Try.prog 94 #[.pointer (some ⟨g, 0, none⟩)] w (SoV w g p) := by
  have hg := h.lt
  have hb0 : OB (w.alloc (.cells #[.int .i64 0, .int .i64 0] 52)) w.heap.size 0 0 := al_new _ _
  have hx0 : Ext w (w.alloc (.cells #[.int .i64 0, .int .i64 0] 52)) := (Ext.rf w).al _
  have HB0 := As.mk hb0
  have HX0 := As.mk hx0
  have HR0 := As.mk (h.ext hx0)
  clear h hb0 hx0
  go_enter Try.func94, Try.ntmps94
  go_upto_region 1 with fail
  generalize hw0 : (w.alloc (.cells #[.int .i64 0, .int .i64 0] 52)) = w0 at HB0 HX0 HR0 ⊢
  have hs0 : As (w.heap.size < w0.heap.size) := ⟨by rw [← hw0, al_size]; omega⟩
  clear hw0
  obtain ⟨b2, hb2⟩ : ∃ b2, b2 = w.heap.size := ⟨_, rfl⟩
  have HB2 := As.mk hb2
  rw [← hb2] at HB0 hs0 hg ⊢
  clear hb2
  go_upto_region 2 with (go_at_call 95; refine (pick_c _ _ _ _ HR0.out (by omega) (by omega)).mono ?_; rintro e w1 ⟨a, rfl, ha0, ha1, hrd, hf⟩; have HRD := As.mk hrd; have HF := As.mk hf; have HA := As.mk (show 0 ≤ a ∧ a ≤ 19 by omega); clear ha0 ha1 hrd hf)
  have hb3 : OB (w1.alloc (.cells #[.int .i64 a, .int .i64 0] 52)) w1.heap.size a 0 := al_new _ _
  have hx1 : Ext w1 (w1.alloc (.cells #[.int .i64 a, .int .i64 0] 52)) := (Ext.rf w1).al _
  have HB3 := As.mk hb3
  have HBB := As.mk (hx1.blk (HF.out.blk HB0.out (by omega)))
  have HF2 : As (Fr (fun k => k = g) w (w1.alloc (.cells #[.int .i64 a, .int .i64 0] 52))) := ⟨((Fr.ofExt HX0.out).trans HF.out).trans (Fr.ofExt hx1)⟩
  have HR2 := As.mk (HRD.out.ext hx1)
  have hlt3 : b2 < w1.heap.size := by have := HF.out.size; have := hs0.out; omega
  clear hb3 hx1 HRD HF HB0 HX0 HR0 hs0
  generalize (w1.alloc (.cells #[.int .i64 a, .int .i64 0] 52)) = w2 at HB3 HBB HF2 HR2 ⊢
  generalize w1.heap.size = b3 at HB3 hlt3 ⊢
  have c0 := OB.c0 HB3.out; have c1 := OB.c1 HB3.out; have f1 := OB.fz' HB3.out 1
  have hlast : As (∀ W, SoA w g p b2 b3 a W → SoA w g p b2 b3 a W) := ⟨fun _ h => h⟩
  rcases (show a = 0 ∨ (a = 1 ∨ a = 13 ∨ a = 15 ∨ a = 16) ∨ (¬ a = 0 ∧ ¬ a = 1 ∧ ¬ a = 13 ∧ ¬ a = 15 ∧ ¬ a = 16) by omega) with ha | ha | ha
  · subst ha
    go_upto_region 10 with (first | (go_at_call 95; refine (pick_c _ _ _ _ HR2.out (by omega) (by omega)).mono ?_; rintro e w3 ⟨y, rfl, hy0, hy1, hrd, hf⟩; have HRD3 := As.mk hrd; have HF3 := As.mk hf; have HY := As.mk (show 0 ≤ y ∧ y ≤ 249 by omega); clear hy0 hy1 hrd hf) | (go_at_call 87; refine (one_c _ _ _ (some ⟨w3.heap.size, 0, none⟩) 5 [5, 127, 128, 999, y] (HRD3.out.ext ((Ext.rf _).al _)) (by omega) (rdA_J5 (n := 5) (c := 5) (l := [5, 127, 128, 999, y]) (World.ownsRow_lit (base := 0) (e := 3) (size := 1) w3 #[.int .i64 5, .int .i64 127, .int .i64 128, .int .i64 999, .int .i64 y] 5 (Nat.zero_le _) (by decide) rfl) (by simp)) (fun ad e => by have h1 := HRD3.out.lt; injection e with e; subst e; show w3.heap.size ≠ g; omega) (by simp) (by simp)).mono ?_; rintro e w4 ⟨z, rfl, hz, hrd, hf⟩; have HRD4 := As.mk hrd; have HF4 := As.mk (HF3.out.trans ((Fr.ofExt ((Ext.rf w3).al (.cells #[.int .i64 5, .int .i64 127, .int .i64 128, .int .i64 999, .int .i64 y] 3))).trans hf)); have HZ := As.mk (show 0 ≤ z ∧ z ≤ 999 by have h1 := HY.out; simp only [List.mem_cons, List.mem_nil_iff, or_false] at hz; omega); have hB4 := HF4.out.blk HB3.out (by omega); have d0 := OB.c0 hB4; have d1 := OB.c1 hB4; have e1 := OB.fz' hB4 1; have HB4 := As.mk hB4; clear hz hrd hf hB4))
    have HQ : As (SoA w g p b2 b3 0 (w4.setCell ⟨b3, 1, none⟩ (.int .i64 z))) := ⟨by
      have hs : Fr (fun k => k = b3) w4 (w4.setCell ⟨b3, 1, none⟩ (.int .i64 z)) := Fr.set (S := fun k => k = b3) w4 _ rfl
      have hb := HB2.out
      refine ⟨z, 0, 0, p + 1 + 1 + 1, by have := HZ.out; simp [okO, mostA]; omega, OB.set1 HB4.out z, hs.blk (HF4.out.blk HBB.out (by omega)) (by omega), (HF2.out.trans HF4.out).then hs (fun i hi => .inr (by omega)), HRD4.out.fr hs (fun k hk => by omega), by omega⟩⟩
    clear c0 c1 f1 d0 d1 e1 HB4 HF4 HRD4
    generalize (w4.setCell ⟨b3, 1, none⟩ (.int .i64 z)) = W at HQ ⊢
    obtain ⟨b, x, y', q, ho, hob, hob2, hfr, hrd, hq⟩ := HQ.out
    have HO := As.mk ho
    have HOB := As.mk hob
    have HOB2 := As.mk hob2
    have HFR := As.mk hfr
    have HRDW := As.mk hrd
    have z0 := OB.c0 hob; have z1 := OB.c1 hob; have y0 := OB.c0 hob2; have y1 := OB.c1 hob2; have v0 := OB.fz' hob2 0; have v1 := OB.fz' hob2 1
    clear ho hob hob2 hfr hrd
    go_wp2_with fail
    refine bodyPost_ret (results_cell rfl _ _ b2 _ rfl (loadO (OB.both HOB2.out _ _))) rfl ?_
    have hb2 := HB2.out
    subst hb2
    exact so_end HO.out HFR.out HRDW.out hq hg HOB2.out
  · rcases ha with rfl | rfl | rfl | rfl
    · go_upto_region 10 with (go_at_call 95; refine (pick_c _ _ _ _ HR2.out (by omega) (by omega)).mono ?_; rintro e w4 ⟨z, rfl, hy0, hy1, hrd, hf⟩; have HRD4 := As.mk hrd; have HF4 := As.mk hf; have HZ := As.mk (show 0 ≤ z ∧ z ≤ 3 by omega); have hB4 := HF4.out.blk HB3.out (by omega); have d0 := OB.c0 hB4; have d1 := OB.c1 hB4; have e1 := OB.fz' hB4 1; have HB4 := As.mk hB4; clear hy0 hy1 hrd hf hB4)
      have HQ : As (SoA w g p b2 b3 1 (w4.setCell ⟨b3, 1, none⟩ (.int .i64 z))) := ⟨by
        have hs : Fr (fun k => k = b3) w4 (w4.setCell ⟨b3, 1, none⟩ (.int .i64 z)) := Fr.set (S := fun k => k = b3) w4 _ rfl
        have hb := HB2.out
        refine ⟨z, 0, 0, p + 1 + 1, by have := HZ.out; simp [okO, mostA]; omega, OB.set1 HB4.out z, hs.blk (HF4.out.blk HBB.out (by omega)) (by omega), (HF2.out.trans HF4.out).then hs (fun i hi => .inr (by omega)), HRD4.out.fr hs (fun k hk => by omega), by omega⟩⟩
      clear c0 c1 f1 d0 d1 e1 HB4 HF4 HRD4
      generalize (w4.setCell ⟨b3, 1, none⟩ (.int .i64 z)) = W at HQ ⊢
      obtain ⟨b, x, y', q, ho, hob, hob2, hfr, hrd, hq⟩ := HQ.out
      have HO := As.mk ho
      have HOB := As.mk hob
      have HOB2 := As.mk hob2
      have HFR := As.mk hfr
      have HRDW := As.mk hrd
      have z0 := OB.c0 hob; have z1 := OB.c1 hob; have y0 := OB.c0 hob2; have y1 := OB.c1 hob2; have v0 := OB.fz' hob2 0; have v1 := OB.fz' hob2 1
      clear ho hob hob2 hfr hrd
      go_wp2_with fail
      refine bodyPost_ret (results_cell rfl _ _ b2 _ rfl (loadO (OB.both HOB2.out _ _))) rfl ?_
      have hb2 := HB2.out
      subst hb2
      exact so_end HO.out HFR.out HRDW.out hq hg HOB2.out
    · go_upto_region 10 with (go_at_call 95; refine (pick_c _ _ _ _ HR2.out (by omega) (by omega)).mono ?_; rintro e w4 ⟨z, rfl, hy0, hy1, hrd, hf⟩; have HRD4 := As.mk hrd; have HF4 := As.mk hf; have HZ := As.mk (show 0 ≤ z ∧ z ≤ 3 by omega); have hB4 := HF4.out.blk HB3.out (by omega); have d0 := OB.c0 hB4; have d1 := OB.c1 hB4; have e1 := OB.fz' hB4 1; have HB4 := As.mk hB4; clear hy0 hy1 hrd hf hB4)
      have HQ : As (SoA w g p b2 b3 13 (w4.setCell ⟨b3, 1, none⟩ (.int .i64 z))) := ⟨by
        have hs : Fr (fun k => k = b3) w4 (w4.setCell ⟨b3, 1, none⟩ (.int .i64 z)) := Fr.set (S := fun k => k = b3) w4 _ rfl
        have hb := HB2.out
        refine ⟨z, 0, 0, p + 1 + 1, by have := HZ.out; simp [okO, mostA]; omega, OB.set1 HB4.out z, hs.blk (HF4.out.blk HBB.out (by omega)) (by omega), (HF2.out.trans HF4.out).then hs (fun i hi => .inr (by omega)), HRD4.out.fr hs (fun k hk => by omega), by omega⟩⟩
      clear c0 c1 f1 d0 d1 e1 HB4 HF4 HRD4
      generalize (w4.setCell ⟨b3, 1, none⟩ (.int .i64 z)) = W at HQ ⊢
      obtain ⟨b, x, y', q, ho, hob, hob2, hfr, hrd, hq⟩ := HQ.out
      have HO := As.mk ho
      have HOB := As.mk hob
      have HOB2 := As.mk hob2
      have HFR := As.mk hfr
      have HRDW := As.mk hrd
      have z0 := OB.c0 hob; have z1 := OB.c1 hob; have y0 := OB.c0 hob2; have y1 := OB.c1 hob2; have v0 := OB.fz' hob2 0; have v1 := OB.fz' hob2 1
      clear ho hob hob2 hfr hrd
      go_wp2_with fail
      refine bodyPost_ret (results_cell rfl _ _ b2 _ rfl (loadO (OB.both HOB2.out _ _))) rfl ?_
      have hb2 := HB2.out
      subst hb2
      exact so_end HO.out HFR.out HRDW.out hq hg HOB2.out
    · go_upto_region 10 with (go_at_call 95; refine (pick_c _ _ _ _ HR2.out (by omega) (by omega)).mono ?_; rintro e w4 ⟨z, rfl, hy0, hy1, hrd, hf⟩; have HRD4 := As.mk hrd; have HF4 := As.mk hf; have HZ := As.mk (show 0 ≤ z ∧ z ≤ 3 by omega); have hB4 := HF4.out.blk HB3.out (by omega); have d0 := OB.c0 hB4; have d1 := OB.c1 hB4; have e1 := OB.fz' hB4 1; have HB4 := As.mk hB4; clear hy0 hy1 hrd hf hB4)
      have HQ : As (SoA w g p b2 b3 15 (w4.setCell ⟨b3, 1, none⟩ (.int .i64 z))) := ⟨by
        have hs : Fr (fun k => k = b3) w4 (w4.setCell ⟨b3, 1, none⟩ (.int .i64 z)) := Fr.set (S := fun k => k = b3) w4 _ rfl
        have hb := HB2.out
        refine ⟨z, 0, 0, p + 1 + 1, by have := HZ.out; simp [okO, mostA]; omega, OB.set1 HB4.out z, hs.blk (HF4.out.blk HBB.out (by omega)) (by omega), (HF2.out.trans HF4.out).then hs (fun i hi => .inr (by omega)), HRD4.out.fr hs (fun k hk => by omega), by omega⟩⟩
      clear c0 c1 f1 d0 d1 e1 HB4 HF4 HRD4
      generalize (w4.setCell ⟨b3, 1, none⟩ (.int .i64 z)) = W at HQ ⊢
      obtain ⟨b, x, y', q, ho, hob, hob2, hfr, hrd, hq⟩ := HQ.out
      have HO := As.mk ho
      have HOB := As.mk hob
      have HOB2 := As.mk hob2
      have HFR := As.mk hfr
      have HRDW := As.mk hrd
      have z0 := OB.c0 hob; have z1 := OB.c1 hob; have y0 := OB.c0 hob2; have y1 := OB.c1 hob2; have v0 := OB.fz' hob2 0; have v1 := OB.fz' hob2 1
      clear ho hob hob2 hfr hrd
      go_wp2_with fail
      refine bodyPost_ret (results_cell rfl _ _ b2 _ rfl (loadO (OB.both HOB2.out _ _))) rfl ?_
      have hb2 := HB2.out
      subst hb2
      exact so_end HO.out HFR.out HRDW.out hq hg HOB2.out
    · go_upto_region 10 with (go_at_call 95; refine (pick_c _ _ _ _ HR2.out (by omega) (by omega)).mono ?_; rintro e w4 ⟨z, rfl, hy0, hy1, hrd, hf⟩; have HRD4 := As.mk hrd; have HF4 := As.mk hf; have HZ := As.mk (show 0 ≤ z ∧ z ≤ 3 by omega); have hB4 := HF4.out.blk HB3.out (by omega); have d0 := OB.c0 hB4; have d1 := OB.c1 hB4; have e1 := OB.fz' hB4 1; have HB4 := As.mk hB4; clear hy0 hy1 hrd hf hB4)
      have HQ : As (SoA w g p b2 b3 16 (w4.setCell ⟨b3, 1, none⟩ (.int .i64 z))) := ⟨by
        have hs : Fr (fun k => k = b3) w4 (w4.setCell ⟨b3, 1, none⟩ (.int .i64 z)) := Fr.set (S := fun k => k = b3) w4 _ rfl
        have hb := HB2.out
        refine ⟨z, 0, 0, p + 1 + 1, by have := HZ.out; simp [okO, mostA]; omega, OB.set1 HB4.out z, hs.blk (HF4.out.blk HBB.out (by omega)) (by omega), (HF2.out.trans HF4.out).then hs (fun i hi => .inr (by omega)), HRD4.out.fr hs (fun k hk => by omega), by omega⟩⟩
      clear c0 c1 f1 d0 d1 e1 HB4 HF4 HRD4
      generalize (w4.setCell ⟨b3, 1, none⟩ (.int .i64 z)) = W at HQ ⊢
      obtain ⟨b, x, y', q, ho, hob, hob2, hfr, hrd, hq⟩ := HQ.out
      have HO := As.mk ho
      have HOB := As.mk hob
      have HOB2 := As.mk hob2
      have HFR := As.mk hfr
      have HRDW := As.mk hrd
      have z0 := OB.c0 hob; have z1 := OB.c1 hob; have y0 := OB.c0 hob2; have y1 := OB.c1 hob2; have v0 := OB.fz' hob2 0; have v1 := OB.fz' hob2 1
      clear ho hob hob2 hfr hrd
      go_wp2_with fail
      refine bodyPost_ret (results_cell rfl _ _ b2 _ rfl (loadO (OB.both HOB2.out _ _))) rfl ?_
      have hb2 := HB2.out
      subst hb2
      exact so_end HO.out HFR.out HRDW.out hq hg HOB2.out
  · obtain ⟨h1, h2, h3, h4, h5⟩ := ha
    have HNE := As.mk (And.intro h1 (And.intro h2 (And.intro h3 (And.intro h4 h5))))
    go_upto_region 10 with fail
    have HQ : As (SoA w g p b2 b3 a w2) := ⟨0, 0, 0, p + 1, by have := HA.out; obtain ⟨h1, h2, h3, h4, h5⟩ := HNE.out; simp only [okO, mostA, h1, h2, h3, h4, h5, if_false, decide_eq_true_eq]; omega, HB3.out, HBB.out, HF2.out, HR2.out, by omega⟩
    clear c0 c1 f1
    generalize w2 = W at HQ ⊢
    obtain ⟨b, x, y', q, ho, hob, hob2, hfr, hrd, hq⟩ := HQ.out
    have HO := As.mk ho
    have HOB := As.mk hob
    have HOB2 := As.mk hob2
    have HFR := As.mk hfr
    have HRDW := As.mk hrd
    have z0 := OB.c0 hob; have z1 := OB.c1 hob; have y0 := OB.c0 hob2; have y1 := OB.c1 hob2; have v0 := OB.fz' hob2 0; have v1 := OB.fz' hob2 1
    clear ho hob hob2 hfr hrd
    go_wp2_with fail
    refine bodyPost_ret (results_cell rfl _ _ b2 _ rfl (loadO (OB.both HOB2.out _ _))) rfl ?_
    have hb2 := HB2.out
    subst hb2
    exact so_end HO.out HFR.out HRDW.out hq hg HOB2.out
end Go.Proofs.Ytgenllcfpjgklaa.C
