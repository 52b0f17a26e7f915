/- A node without kids is drawn. -/
import Derived.Test.YtgenllcfpjgklaaQa
set_option linter.unusedVariables false
set_option linter.unusedSimpArgs false
namespace Go.Proofs.Ytgenllcfpjgklaa.C
open Go.RowKit Go.Proofs.Ytgenllcfpjgklaa.W Go.Proofs.Ytgenllcfpjgklaa.P

/-- A node's variable. -/
abbrev NB (w : World) (g : Nat) (a b c : Value) : Prop := w.heap[g]? = some (.cells #[a, b, c] 73 (0, 0))
theorem NB.c0 {w g a b c} (h : NB w g a b c) : w.cell? ⟨g, 0, none⟩ = some a := by simp [World.cell?, h]
theorem NB.c1 {w g a b c} (h : NB w g a b c) : w.cell? ⟨g, 1, none⟩ = some b := by simp [World.cell?, h]
theorem NB.c2 {w g a b c} (h : NB w g a b c) : w.cell? ⟨g, 2, none⟩ = some c := by simp [World.cell?, h]
theorem NB.fz {w g a b c} (h : NB w g a b c) (j : Nat) : w.frozen? ⟨g, j, none⟩ = false := by simp [World.frozen?, h]
theorem NB.set2 {w g a b c} (h : NB w g a b c) (z : Value) : NB (w.setCell ⟨g, 2, none⟩ z) g a b z := by
  have h' : w.heap[g]? = _ := h
  simp [NB, World.setCell, Array.getElem?_modify, h']
theorem NB.all {w g a b c} (h : NB w g a b c) (x y z : Value) : NB (((w.setCell ⟨g, 0, none⟩ x).setCell ⟨g, 1, none⟩ y).setCell ⟨g, 2, none⟩ z) g x y z := by
  have h' : w.heap[g]? = _ := h
  simp [NB, World.setCell, Array.getElem?_modify, h']
theorem Fr.set3 {S : Nat → Prop} {w : World} {g : Nat} (hg : S g) (a b c : Value) : Fr S w (((w.setCell ⟨g, 0, none⟩ a).setCell ⟨g, 1, none⟩ b).setCell ⟨g, 2, none⟩ c) :=
  ((Fr.set (S := S) w a (p := ⟨g, 0, none⟩) hg).trans (Fr.set _ b (p := ⟨g, 1, none⟩) hg)).trans (Fr.set _ c (p := ⟨g, 2, none⟩) hg)
theorem infoNs : (Try.prog.info? 73).map (·.size) = some 3 := by kernel_rfl
theorem loadN {w : World} {g : Nat} {v0 v1 v2 : Value} (h : NB w g v0 v1 v2) : (loadVar 73 ⟨g, 0, none⟩).run Try.prog w = .ok (.agg #[v0, v1, v2]) w := by
  have hm : (Try.prog.underlying 73).map (fun d => match d with | .struct _ => true | _ => false) = some true := by kernel_rfl
  obtain ⟨d, hu, hd⟩ := Option.map_eq_some_iff.1 hm
  refine run_loadVar_row w g _ _ _ _ d h hu ?_ infoNs
  cases d <;> first | rfl | exact absurd hd (by simp)
theorem rdA_J5 {w : World} {A : Option Addr} {n c : Nat} {l : List Int} (h : IR w (.slice A n c) l) (hl : l.length ≤ 1000000000000 := by decide) : RdI w A l := by
  obtain ⟨A', c', hv, _, hr⟩ := IR.rd h hl
  injection hv with hv
  subst hv
  exact hr
/-- What a node without kids may be. -/
def SN (k v : Int) : Prop := (k = 0 ∧ 0 ≤ v ∧ v ≤ 999) ∨ (k = 1 ∧ 0 ≤ v ∧ v ≤ 9) ∨ ((k = 2 ∨ k = 3 ∨ k = 4) ∧ v = 0) ∨ (k = 5 ∧ 0 ≤ v ∧ v ≤ 9)
/-- The reader has picked some times more; it alone was written. -/
def Drew (w : World) (g p d : Nat) (w' : World) : Prop := (∃ q, q ≤ p + d ∧ Rdr w' g q) ∧ Fr (fun k => k = g) w w'
def SnV (w : World) (g p : Nat) (e : Ending) (w' : World) : Prop := ∃ k v, e = .returned (.agg #[.int .i64 k, .int .i64 v, .slice none 0 0]) ∧ SN k v ∧ Drew w g p 3 w'
theorem snv_end {w w0 w1 : World} {g p q : Nat} {k v : Int} {a b c : Value} (hs : SN k v) (hx : Ext w w0) (hf : Fr (fun k => k = g) w0 w1) (hr : Rdr w1 g q) (hq : q ≤ p + 3) (hg : g < w.heap.size) (hb : NB w1 w.heap.size a b c) :
    SnV w g p (.returned (.agg #[.int .i64 k, .int .i64 v, .slice none 0 0])) (((w1.setCell ⟨w.heap.size, 0, none⟩ (.int .i64 k)).setCell ⟨w.heap.size, 1, none⟩ (.int .i64 v)).setCell ⟨w.heap.size, 2, none⟩ (.slice none 0 0)) := by
  have h3 := Fr.set3 (S := fun k => k = w.heap.size) (w := w1) (g := w.heap.size) rfl (.int .i64 k) (.int .i64 v) (.slice none 0 0)
  exact ⟨k, v, rfl, hs, ⟨q, hq, hr.fr h3 (fun k hk => by omega)⟩, Fr.then ((Fr.ofExt hx).trans hf) h3 (fun i hi => .inr (by omega))⟩
set_option maxRecDepth 100000 in
set_option maxHeartbeats 4000000 in
theorem someNode_c (w : World) (g p : Nat) (h : Rdr w g p) (hp : p + 3 ≤ 1000000) :
    Calls Try.prog 128 #[.pointer (some ⟨g, 0, none⟩)] w (SnV w g p) := by
  have hg := h.lt
  have hb0 : NB (w.alloc (.cells #[.int .i64 0, .int .i64 0, .slice none 0 0] 73)) w.heap.size (.int .i64 0) (.int .i64 0) (.slice none 0 0) := al_new _ _
  have HB0 := As.mk hb0
  have HX0 := As.mk ((Ext.rf w).al (.cells #[.int .i64 0, .int .i64 0, .slice none 0 0] 73))
  have HR0 := As.mk (h.ext ((Ext.rf w).al (.cells #[.int .i64 0, .int .i64 0, .slice none 0 0] 73)))
  clear h hb0
  go_enter Try.func128, Try.ntmps128
  go_upto_region 1 with fail
  generalize (w.alloc (.cells #[.int .i64 0, .int .i64 0, .slice none 0 0] 73)) = w0 at HB0 HX0 HR0 ⊢
  have HG := As.mk hg
  have HW : As (∀ w1, Fr (fun k => k = g) w0 w1 → NB w1 w.heap.size (.int .i64 0) (.int .i64 0) (.slice none 0 0)) := ⟨fun w1 hf => hf.blk HB0.out (fun e => by omega)⟩
  obtain ⟨b, hb⟩ : ∃ b, b = w.heap.size := ⟨_, rfl⟩
  have HBW := As.mk hb
  rw [← hb] at HW hg ⊢
  clear hb HB0
  go_upto_region 2 with (go_at_call 95; refine (pick_c _ _ _ _ HR0.out (by omega) (by omega)).mono ?_; rintro e w1 ⟨x, rfl, hx0, hx1, hrd, hf⟩; have HRD := As.mk hrd; have HF := As.mk hf; have HX := As.mk (And.intro hx0 hx1); clear hx0 hx1 hrd hf)
  have hx : x = 0 ∨ x = 1 ∨ x = 2 ∨ x = 3 ∨ x = 4 ∨ x = 5 ∨ x = 6 ∨ x = 7 := by have := HX.out; omega
  clear HX
  rcases hx with rfl | rfl | rfl | rfl | rfl | rfl | rfl | rfl
  case inl =>
    go_upto_region 3 with fail
    go_wp2_with (first | (go_at_call 95; refine (pick_c _ _ _ _ HRD.out (by omega) (by omega)).mono ?_; rintro e w2 ⟨y, rfl, hy0, hy1, hrd, hf⟩; have HRD2 := As.mk hrd; have HF2 := As.mk (HF.out.trans hf); have HY := As.mk (show 0 ≤ y ∧ y ≤ 249 by omega); clear hy0 hy1 hrd hf) | (go_at_call 87; refine (one_c _ _ _ (some ⟨w2.heap.size, 0, none⟩) 5 [5, 127, 128, 999, y] (HRD2.out.ext ((Ext.rf _).al _)) (by omega) (rdA_J5 (n := 5) (c := 5) (l := [5, 127, 128, 999, y]) (World.ownsRow_lit (base := 0) (e := 3) (size := 1) w2 #[.int .i64 5, .int .i64 127, .int .i64 128, .int .i64 999, .int .i64 y] 5 (Nat.zero_le _) (by decide) rfl) (by simp)) (fun ad e => by have h1 := HRD2.out.lt; injection e with e; subst e; show w2.heap.size ≠ g; omega) (by simp) (by simp)).mono ?_; rintro e w3 ⟨z, rfl, hz, hrd, hf⟩; have HRD3 := As.mk hrd; have hf3 := Fr.then HF2.out ((Fr.ofExt ((Ext.rf w2).al (.cells #[.int .i64 5, .int .i64 127, .int .i64 128, .int .i64 999, .int .i64 y] 3))).trans hf) (fun _ h => .inl h); have HF3 := As.mk hf3; have hb3 := HW.out _ hf3; have b0 := NB.c0 hb3; have b1 := NB.c1 hb3; have b2 := NB.c2 hb3; have f0 := NB.fz hb3 0; have f1 := NB.fz hb3 1; have f2 := NB.fz hb3 2; have HB3 := As.mk hb3; have HZ := As.mk hz; clear hz hrd hf hf3 hb3))
    refine bodyPost_ret (results_cell rfl _ _ b _ rfl (loadN (NB.all HB3.out _ _ _))) rfl ?_
    have hbw := HBW.out
    subst hbw
    refine snv_end (.inl ⟨rfl, ?_⟩) HX0.out HF3.out HRD3.out (by omega) HG.out HB3.out
    have := HZ.out
    have := HY.out
    simp only [List.mem_cons, List.mem_nil_iff, or_false] at *
    omega
  case inr.inl =>
    go_wp2_with (go_at_call 95; refine (pick_c _ _ _ _ HRD.out (by omega) (by omega)).mono ?_; rintro e w2 ⟨y, rfl, hy0, hy1, hrd, hf⟩; have HRD2 := As.mk hrd; have HF2 := As.mk (HF.out.trans hf); have HY := As.mk (show 0 ≤ y ∧ y ≤ 2 by omega); have hb3 := HW.out _ HF2.out; have b0 := NB.c0 hb3; have b1 := NB.c1 hb3; have b2 := NB.c2 hb3; have f0 := NB.fz hb3 0; have f1 := NB.fz hb3 1; have f2 := NB.fz hb3 2; have HB3 := As.mk hb3; clear hy0 hy1 hrd hf hb3)
    refine bodyPost_ret (results_cell rfl _ _ b _ rfl (loadN (NB.all HB3.out _ _ _))) rfl ?_
    have hbw := HBW.out
    subst hbw
    exact snv_end (.inr (.inl ⟨rfl, by have := HY.out; omega⟩)) HX0.out HF2.out HRD2.out (by omega) HG.out HB3.out
  case inr.inr.inr.inr.inr.inr.inr =>
    go_wp2_with (go_at_call 95; refine (pick_c _ _ _ _ HRD.out (by omega) (by omega)).mono ?_; rintro e w2 ⟨y, rfl, hy0, hy1, hrd, hf⟩; have HRD2 := As.mk hrd; have HF2 := As.mk (HF.out.trans hf); have HY := As.mk (show 0 ≤ y ∧ y ≤ 2 by omega); have hb3 := HW.out _ HF2.out; have b0 := NB.c0 hb3; have b1 := NB.c1 hb3; have b2 := NB.c2 hb3; have f0 := NB.fz hb3 0; have f1 := NB.fz hb3 1; have f2 := NB.fz hb3 2; have HB3 := As.mk hb3; clear hy0 hy1 hrd hf hb3)
    refine bodyPost_ret (results_cell rfl _ _ b _ rfl (loadN (NB.all HB3.out _ _ _))) rfl ?_
    have hbw := HBW.out
    subst hbw
    exact snv_end (.inr (.inr (.inr ⟨rfl, by have := HY.out; omega⟩))) HX0.out HF2.out HRD2.out (by omega) HG.out HB3.out
  all_goals
    have hb3 := HW.out _ HF.out
    have b0 := NB.c0 hb3; have b1 := NB.c1 hb3; have b2 := NB.c2 hb3; have f0 := NB.fz hb3 0; have f1 := NB.fz hb3 1; have f2 := NB.fz hb3 2
    have HB3 := As.mk hb3
    clear hb3
    go_wp2_with fail
    refine bodyPost_ret (results_cell rfl _ _ b _ rfl (loadN (NB.all HB3.out _ _ _))) rfl ?_
    have hbw := HBW.out
    subst hbw
    exact snv_end (.inr (.inr (.inl ⟨by omega, rfl⟩))) HX0.out HF.out HRD.out (by omega) HG.out HB3.out
end Go.Proofs.Ytgenllcfpjgklaa.C
