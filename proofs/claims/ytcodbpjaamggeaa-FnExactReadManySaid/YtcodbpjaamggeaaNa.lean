/- The law's own functions on nodes and machines: equality. -/
import Derived.Test.YtcodbpjaamggeaaMj
import Derived.Test.YtcodbpjaamggeaaHd
set_option linter.unusedVariables false
set_option linter.unusedSimpArgs false
namespace Go.Proofs.Ytcodbpjaamggeaa.C
open Go.RowKit Go.Proofs.Ytcodbpjaamggeaa.W Go.Proofs.Ytcodbpjaamggeaa.P

set_option maxRecDepth 100000 in
set_option maxHeartbeats 1000000 in
theorem eqNode_t (k v : Int) (A B : Option Addr) (cA cB : Nat) (l : List Int) (w : World) (hA : RdI w A l) (hB : RdI w B l) :
    Calls Try.prog 140 #[.agg #[.int .i64 k, .int .i64 v, .slice A l.length cA], .agg #[.int .i64 k, .int .i64 v, .slice B l.length cB]] w fun e w' => e = .returned (.bool true) ∧ Ext w w' := by
  have HA := As.mk hA
  have HB := As.mk hB
  clear hA hB
  go_enter Try.func140, Try.ntmps140
  go_upto_region 1 with fail
  have hx : Ext w ((w.alloc (.cells #[.int .i64 k, .int .i64 v, .slice A l.length cA] 96)).alloc (.cells #[.int .i64 k, .int .i64 v, .slice B l.length cB] 96)) := ((Ext.rf w).al _).al _
  have ha := ((Ext.rf (w.alloc (.cells #[.int .i64 k, .int .i64 v, .slice A l.length cA] 96))).al (.cells #[.int .i64 k, .int .i64 v, .slice B l.length cB] 96)).blk (al_new w (.cells #[.int .i64 k, .int .i64 v, .slice A l.length cA] 96))
  have hb := al_new (w.alloc (.cells #[.int .i64 k, .int .i64 v, .slice A l.length cA] 96)) (.cells #[.int .i64 k, .int .i64 v, .slice B l.length cB] 96)
  rw [al_size] at hb
  have HX := As.mk hx
  generalize (w.alloc (.cells #[.int .i64 k, .int .i64 v, .slice A l.length cA] 96)).alloc (.cells #[.int .i64 k, .int .i64 v, .slice B l.length cB] 96) = w0 at HX ha hb ⊢
  generalize w.heap.size = g at ha hb ⊢
  have a0 : w0.cell? ⟨g, 0, none⟩ = some (.int .i64 k) := by simp [World.cell?, ha]
  have a1 : w0.cell? ⟨g, 1, none⟩ = some (.int .i64 v) := by simp [World.cell?, ha]
  have a2 : w0.cell? ⟨g, 2, none⟩ = some (.slice A l.length cA) := by simp [World.cell?, ha]
  have b0 : w0.cell? ⟨g + 1, 0, none⟩ = some (.int .i64 k) := by simp [World.cell?, hb]
  have b1 : w0.cell? ⟨g + 1, 1, none⟩ = some (.int .i64 v) := by simp [World.cell?, hb]
  have b2 : w0.cell? ⟨g + 1, 2, none⟩ = some (.slice B l.length cB) := by simp [World.cell?, hb]
  clear ha hb hx
  go_wp2_with (go_at_call 32; refine (eqIntS_t _ _ _ _ _ _ (HA.out.ext HX.out) (HB.out.ext HX.out)).mono ?_; rintro e w1 ⟨rfl, he⟩; have HE := As.mk he; clear he)
  go_ret
  exact ⟨rfl, HX.out.trans HE.out⟩
set_option maxRecDepth 100000 in
set_option maxHeartbeats 1000000 in
theorem eqNodeS_t (A B : Option Addr) (cA cB : Nat) (l : List Nd) (w : World) (hA : RdN w A l) (hB : RdN w B l) : Calls Try.prog 110 #[.slice A l.length cA, .slice B l.length cB] w fun e w' => e = .returned (.bool true) ∧ Ext w w' := by
  have hlen := hA.1
  have HA := As.mk hA
  have HB := As.mk hB
  clear hA hB
  go_enter Try.func110, Try.ntmps110
  go_wp2_with fail
  go_loopw [5] (fun i wr => ∃ k : Nat, k ≤ l.length ∧ i = .int .i64 k ∧ As (Ext w wr)) (fun i _ => l.length - (intOf i).toNat)
  case atStart => exact ⟨0, Nat.zero_le _, rfl, ⟨Ext.rf _⟩⟩
  case round =>
    obtain ⟨k, hk, rfl, he⟩ := hrel
    by_cases hlt : k < l.length
    · obtain ⟨a, KA, eA, rfl, x0, x1, x2, -, hkA⟩ := (HA.out.ext he.out).2 k hlt
      obtain ⟨b, KB, eB, rfl, y0, y1, y2, -, hkB⟩ := (HB.out.ext he.out).2 k hlt
      obtain ⟨kd, hkd⟩ : ∃ kd, kd = l[k].kind := ⟨_, rfl⟩
      obtain ⟨kv, hkv⟩ : ∃ kv, kv = l[k].val := ⟨_, rfl⟩
      obtain ⟨ks, hks⟩ : ∃ ks, ks = l[k].kids := ⟨_, rfl⟩
      rw [← hkd] at x0 y0
      rw [← hkv] at x1 y1
      rw [← hks] at x2 y2 hkA hkB
      have HKA := As.mk hkA
      have HKB := As.mk hkB
      clear hkd hkv hks hkA hkB
      have q1 : (k : Int) < l.length := by omega
      go_upto_region 6 with fail
      refine region_perm (fun w' => w'.cell? (a.add (k * 3)) = some (.int .i64 kd) ∧ w'.cell? ⟨(a.add (k * 3)).block, (a.add (k * 3)).off + 1, none⟩ = some (.int .i64 kv) ∧ w'.cell? ⟨(a.add (k * 3)).block, (a.add (k * 3)).off + 2, none⟩ = some (.slice KA ks.length eA) ∧
        w'.cell? (b.add (k * 3)) = some (.int .i64 kd) ∧ w'.cell? ⟨(b.add (k * 3)).block, (b.add (k * 3)).off + 1, none⟩ = some (.int .i64 kv) ∧ w'.cell? ⟨(b.add (k * 3)).block, (b.add (k * 3)).off + 2, none⟩ = some (.slice KB ks.length eB)) [] [(0, 0), (1, 0), (2, 0), (3, 1), (4, 0), (5, 0), (6, 0), (7, 1), (8, 2), (9, 0)] (by kernel_rfl) (by kernel_rfl) rfl (by kernel_rfl) (fun _ _ _ _ h => h) ?_
      have hS := And.intro x0 (And.intro x1 (And.intro x2 (And.intro y0 (And.intro y1 y2))))
      repeat (first | refine wpP.c0 (h := ?_) | refine wpP.c1 (w := wr.drew) hS (h := ?_))
      refine wpP.ev (h := fun Kv hKv => ?_)
      have HD : As (Ext wr wr.drew) := ⟨(Ext.rf _).dr⟩
      generalize wr.drew = wd at HD ⊢
      go_wp2_with (go_at_call 140; refine (eqNode_t _ _ _ _ _ _ _ _ (HKA.out.ext HD.out) (HKB.out.ext HD.out)).mono ?_; rintro e w3 ⟨rfl, hx⟩; have HX3 := As.mk (HD.out.trans hx); clear hx)
      refine hKv.out _ _ ⟨HX3.out.cellOf x0, HX3.out.cellOf x1, HX3.out.cellOf x2, HX3.out.cellOf y0, HX3.out.cellOf y1, HX3.out.cellOf y2⟩ ?_
      clear hKv Kv hS x0 x1 x2 y0 y1 y2
      repeat (first | refine wpP.c0 (h := ?_))
      refine wpP.done ?_
      have HX : As (Ext w w3) := ⟨he.out.trans HX3.out⟩
      go_wp2_with fail
      go_roundw
      case measure => simp only [intOf]; omega
      case rel => exact ⟨k + 1, by omega, by go_num, HX⟩
    · have hkl : k = l.length := by omega
      subst hkl
      go_wp2_with fail
      go_ret
      exact ⟨rfl, he.out⟩
set_option maxRecDepth 100000 in
set_option maxHeartbeats 1000000 in
theorem eqMachine_t (AN AS AM BN BS BM : Option Addr) (cN cS cM dN dS dM : Nat) (m : Mc) (w : World) (hA : RM w AN AS AM m) (hB : RM w BN BS BM m) :
    Calls Try.prog 60 #[.agg #[.slice AN m.nodes.length cN, .slice AS m.stack.length cS, .slice AM m.memo.length cM, .bool m.done], .agg #[.slice BN m.nodes.length dN, .slice BS m.stack.length dS, .slice BM m.memo.length dM, .bool m.done]] w fun e w' => e = .returned (.bool true) ∧ Ext w w' := by
  have HA := As.mk hA
  have HB := As.mk hB
  clear hA hB
  go_enter Try.func60, Try.ntmps60
  go_upto_region 1 with fail
  have hx : Ext w ((w.alloc (.cells #[.slice AN m.nodes.length cN, .slice AS m.stack.length cS, .slice AM m.memo.length cM, .bool m.done] 64)).alloc (.cells #[.slice BN m.nodes.length dN, .slice BS m.stack.length dS, .slice BM m.memo.length dM, .bool m.done] 64)) := ((Ext.rf w).al _).al _
  have ha : MB ((w.alloc (.cells #[.slice AN m.nodes.length cN, .slice AS m.stack.length cS, .slice AM m.memo.length cM, .bool m.done] 64)).alloc (.cells #[.slice BN m.nodes.length dN, .slice BS m.stack.length dS, .slice BM m.memo.length dM, .bool m.done] 64)) w.heap.size (.slice AN m.nodes.length cN) (.slice AS m.stack.length cS) (.slice AM m.memo.length cM) m.done := ((Ext.rf (w.alloc (.cells #[.slice AN m.nodes.length cN, .slice AS m.stack.length cS, .slice AM m.memo.length cM, .bool m.done] 64))).al (.cells #[.slice BN m.nodes.length dN, .slice BS m.stack.length dS, .slice BM m.memo.length dM, .bool m.done] 64)).blk (al_new w (.cells #[.slice AN m.nodes.length cN, .slice AS m.stack.length cS, .slice AM m.memo.length cM, .bool m.done] 64))
  have hb : MB ((w.alloc (.cells #[.slice AN m.nodes.length cN, .slice AS m.stack.length cS, .slice AM m.memo.length cM, .bool m.done] 64)).alloc (.cells #[.slice BN m.nodes.length dN, .slice BS m.stack.length dS, .slice BM m.memo.length dM, .bool m.done] 64)) (w.heap.size + 1) (.slice BN m.nodes.length dN) (.slice BS m.stack.length dS) (.slice BM m.memo.length dM) m.done := by have := al_new (w.alloc (.cells #[.slice AN m.nodes.length cN, .slice AS m.stack.length cS, .slice AM m.memo.length cM, .bool m.done] 64)) (.cells #[.slice BN m.nodes.length dN, .slice BS m.stack.length dS, .slice BM m.memo.length dM, .bool m.done] 64); rw [al_size] at this; exact this
  have HX := As.mk hx
  have HMA := As.mk ha
  have HMB := As.mk hb
  clear ha hb hx
  generalize (w.alloc (.cells #[.slice AN m.nodes.length cN, .slice AS m.stack.length cS, .slice AM m.memo.length cM, .bool m.done] 64)).alloc (.cells #[.slice BN m.nodes.length dN, .slice BS m.stack.length dS, .slice BM m.memo.length dM, .bool m.done] 64) = w0 at HX HMA HMB ⊢
  generalize w.heap.size = g at HMA HMB ⊢
  have a0 := MB.c0 HMA.out; have b0 := MB.c0 HMB.out
  go_upto_region 3 with (go_at_call 110; refine (eqNodeS_t _ _ _ _ _ _ (HA.out.n.ext HX.out) (HB.out.n.ext HX.out)).mono ?_; rintro e w1 ⟨rfl, he⟩; have HX' := As.mk (HX.out.trans he); have HMA' := As.mk (he.blk HMA.out); have HMB' := As.mk (he.blk HMB.out); clear he)
  clear HX HMA HMB a0 b0
  have HX := HX'; have HMA := HMA'; have HMB := HMB'
  clear HX' HMA' HMB'
  have a0 := MB.c1 HMA.out; have b0 := MB.c1 HMB.out
  go_upto_region 5 with (go_at_call 32; refine (eqIntS_t _ _ _ _ _ _ (HA.out.s.ext HX.out) (HB.out.s.ext HX.out)).mono ?_; rintro e w2 ⟨rfl, he⟩; have HX' := As.mk (HX.out.trans he); have HMA' := As.mk (he.blk HMA.out); have HMB' := As.mk (he.blk HMB.out); clear he)
  clear HX HMA HMB a0 b0
  have HX := HX'; have HMA := HMA'; have HMB := HMB'
  clear HX' HMA' HMB'
  have a0 := MB.c2 HMA.out; have b0 := MB.c2 HMB.out
  go_upto_region 7 with (go_at_call 32; refine (eqIntS_t _ _ _ _ _ _ (HA.out.e.ext HX.out) (HB.out.e.ext HX.out)).mono ?_; rintro e w3 ⟨rfl, he⟩; have HX' := As.mk (HX.out.trans he); have HMA' := As.mk (he.blk HMA.out); have HMB' := As.mk (he.blk HMB.out); clear he)
  clear HX HMA HMB a0 b0
  have HX := HX'; have HMA := HMA'; have HMB := HMB'
  clear HX' HMA' HMB'
  have a3 := MB.c3 HMA.out; have b3 := MB.c3 HMB.out
  go_wp2_with fail
  go_ret
  exact ⟨rfl, HX.out⟩
end Go.Proofs.Ytcodbpjaamggeaa.C
