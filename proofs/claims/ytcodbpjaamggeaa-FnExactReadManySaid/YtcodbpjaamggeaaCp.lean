/- New machines, and copies. -/
import Derived.Test.YtcodbpjaamggeaaCo
import Derived.Test.YtcodbpjaamggeaaPo
import Derived.Deep.OwnRows
import Derived.Laws.Rows
set_option linter.unusedVariables false
set_option linter.unusedSimpArgs false
namespace Go.Proofs.Ytcodbpjaamggeaa.C
open Go.RowKit Go.Proofs.Ytcodbpjaamggeaa.W Go.Proofs.Ytcodbpjaamggeaa.P

/-- A machine as a value, with rows of its own. -/
structure MV (base : Nat) (w : World) (l : List (Nd × Value)) (vN vS vM : Value) (m : Mc) : Prop where
  nr : NR w vN l
  ns : l.map Prod.fst = m.nodes
  sr : IR w vS m.stack
  me : IR w vM m.memo
  loN : ∀ k, vN.ownBlock = some k → base ≤ k
  loS : ∀ k, vS.ownBlock = some k → base ≤ k
  loM : ∀ k, vM.ownBlock = some k → base ≤ k
  loK : ∀ p ∈ l, ∀ k, p.2.ownBlock = some k → base ≤ k
  kk : l.Pairwise (fun p q => Apart p.2 q.2)
  ks : ∀ p ∈ l, Apart p.2 vS
  km : ∀ p ∈ l, Apart p.2 vM
  sm : Apart vS vM
theorem MV.keep {base w w' l vN vS vM m} (h : MV base w l vN vS vM m) (hk : ∀ k, base ≤ k → k < w.heap.size → w'.heap[k]? = w.heap[k]?) : MV base w' l vN vS vM m :=
  ⟨h.nr.keep (fun k hh => hh.elim (fun e => hk k (h.loN k e) (own_lt h.nr.1 e)) (fun ⟨p, hp, e⟩ => hk k (h.loK p hp k e) (own_lt (h.nr.2 p hp).1 e))), h.ns, h.sr.keep (fun k e => hk k (h.loS k e) (own_lt h.sr e)), h.me.keep (fun k e => hk k (h.loM k e) (own_lt h.me e)), h.loN, h.loS, h.loM, h.loK, h.kk, h.ks, h.km, h.sm⟩
theorem MV.low {base base' w l vN vS vM m} (h : MV base w l vN vS vM m) (hb : base' ≤ base) : MV base' w l vN vS vM m :=
  ⟨h.nr, h.ns, h.sr, h.me, fun k e => Nat.le_trans hb (h.loN k e), fun k e => Nat.le_trans hb (h.loS k e), fun k e => Nat.le_trans hb (h.loM k e), fun p hp k e => Nat.le_trans hb (h.loK p hp k e), h.kk, h.ks, h.km, h.sm⟩
theorem MV.ext {base w w' l vN vS vM m} (h : MV base w l vN vS vM m) (e : Ext w w') : MV base w' l vN vS vM m := h.keep (fun k _ hk => e.block k hk)
theorem MV.mr {base w g l vN vS vM m} (h : MV base w l vN vS vM m) (hb : MB w g vN vS vM m.done) (hg : base ≤ g) (hw : base ≤ w.heap.size) : MR (base ≤ ·) w g l vN vS vM m :=
  ⟨hb, h.nr, h.ns, h.sr, h.me, fun k hk => by
    rcases hk with e | e | e | e | ⟨p, hp, e⟩
    · omega
    · exact h.loN k e
    · exact h.loS k e
    · exact h.loM k e
    · exact h.loK p hp k e, h.kk, h.ks, h.km, h.sm, fun k hk => Nat.le_trans hw hk⟩
theorem infoM : (Try.prog.info? 64).map (·.size) = some 4 := by kernel_rfl
theorem loadM {w : World} {g : Nat} {v0 v1 v2 v3 : Value} (h : w.heap[g]? = some (.cells #[v0, v1, v2, v3] 64 (0, 0))) : (loadVar 64 ⟨g, 0, none⟩).run Try.prog w = .ok (.agg #[v0, v1, v2, v3]) w := by
  have hm : (Try.prog.underlying 64).map (fun d => match d with | .struct _ => true | _ => false) = some true := by kernel_rfl
  obtain ⟨d, hu, hd⟩ := Option.map_eq_some_iff.1 hm
  refine run_loadVar_row w g _ _ _ _ d h hu ?_ infoM
  cases d <;> first | rfl | exact absurd hd (by simp)
theorem memo_at (i : Nat) (hi : i < newM.memo.length) : newM.memo[i] = -1 := List.getElem_replicate (n := 20) (a := (-1 : Int)) (i := i) hi
/-- Four cells are written. -/
theorem MB.all {w : World} {g : Nat} {v0 v1 v2 v3 : Value} (a b c : Value) (d : Bool) (h : w.heap[g]? = some (.cells #[v0, v1, v2, v3] 64 (0, 0))) :
    MB ((((w.setCell ⟨g, 0, none⟩ a).setCell ⟨g, 1, none⟩ b).setCell ⟨g, 2, none⟩ c).setCell ⟨g, 3, none⟩ (.bool d)) g a b c d := by
  have hlt := (Array.getElem?_eq_some_iff.1 h).1
  simp [MB, World.setCell, Array.getElem?_modify, h]
set_option maxRecDepth 100000 in
set_option maxHeartbeats 1000000 in
theorem NewMachine_c (w : World) : Calls Try.prog 90 #[.int .i64 0] w fun e w' => ∃ gM, e = .returned (.agg #[.slice none 0 0, .slice none 0 0, .slice (some ⟨gM, 0, none⟩) 20 20, .bool false]) ∧ Ext w w' ∧ IR w' (.slice (some ⟨gM, 0, none⟩) 20 20) newM.memo ∧ w.heap.size ≤ gM := by
  have hmk : ∀ W, (Instr.makeSlice 32 (.int .i64 20) (.int .i64 20)).run Try.prog W = .ok (.slice (some ⟨W.heap.size, 0, none⟩) 20 20) (W.alloc (.cells (madeCells #[.int .i64 0] 20) 3)) := fun W => run_make_row' 32 3 (.int .i64 0) 8 (by kernel_rfl) infoI rfl .i64 .i64 20 (by omega) (by omega) W
  go_enter Try.func90, Try.ntmps90
  go_wp2_with fail
  go_loopw [4, 17] (fun _ i wr => ∃ k : Nat, k ≤ 20 ∧ i = .int .i64 k ∧ As (Ext w wr) ∧ As (wr.rowIs (w.heap.size + 1) 3 20 (fun j => if j < k then .int .i64 (-1) else .int .i64 0)) ∧ As (MB wr w.heap.size (.slice none 0 0) (.slice none 0 0) (.slice none 0 0) false ∧ MB wr (w.heap.size + 1 + 1) (.slice none 0 0) (.slice none 0 0) (.slice (some ⟨w.heap.size + 1, 0, none⟩) 20 20) false)) (fun _ i _ => 20 - (intOf i).toNat)
  case atStart =>
    refine ⟨0, by omega, rfl, ⟨((((Ext.rf w).al _).al _).al _)⟩, ⟨?_⟩, ⟨?_, ?_⟩⟩
    · refine World.rowIs.alloc ?_ _
      have := World.rowIs_made (w.alloc (.cells #[.slice none 0 0, .slice none 0 0, .slice none 0 0, .bool false] 64)) (.int .i64 0) 20 3
      simpa using this
    · exact (((Ext.rf _).al _).al _).blk (al_new _ _)
    · have h := al_new ((w.alloc (.cells #[.slice none 0 0, .slice none 0 0, .slice none 0 0, .bool false] 64)).alloc (.cells (madeCells #[.int .i64 0] 20) 3)) (.cells #[.slice none 0 0, .slice none 0 0, .slice (some ⟨w.heap.size + 1, 0, none⟩) 20 20, .bool false] 64)
      rw [al_size, al_size] at h
      exact h
  case round =>
    obtain ⟨k, hk, rfl, he, hrow, hmb⟩ := hrel
    have c2 := hmb.out.2.c2
    by_cases hlt : k < 20
    · have r0 := hrow.out.cell hlt
      have f0 := hrow.out.frozen k
      have q1 : (k : Int) < 20 := by omega
      have HL := As.mk hlt
      clear hlt
      go_wp2_with fail
      go_roundw
      case measure => have := HL.out; simp [intOf]; omega
      case rel =>
        refine ⟨k + 1, by have := HL.out; omega, by go_num, ⟨he.out.st (by show w.heap.size ≤ w.heap.size + 1; omega) _⟩, ⟨(hrow.out.set k _).congr (fun j hj => ?_)⟩, ⟨(Below.heap_setCell _ _ _ _ (by show w.heap.size ≠ w.heap.size + 1; omega)).trans hmb.out.1, (Below.heap_setCell _ _ _ _ (by show w.heap.size + 1 + 1 ≠ w.heap.size + 1; omega)).trans hmb.out.2⟩⟩
        by_cases h1 : j = k
        · subst h1; simp
        · have : (j < k + 1) = (j < k) := by simp; omega
          simp [h1, this]
    · have hk20 : k = 20 := by omega
      subst hk20
      have d0 := hmb.out.2.c0
      have d1 := hmb.out.2.c1
      have d3 := hmb.out.2.c3
      have a0 := hmb.out.1.c0
      have a1 := hmb.out.1.c1
      have a2 := hmb.out.1.c2
      have a3 := hmb.out.1.c3
      have f0 := hmb.out.1.fz 0
      have f1 := hmb.out.1.fz 1
      have f2 := hmb.out.1.fz 2
      have f3 := hmb.out.1.fz 3
      go_wp2_with fail
      have hb := MB.all (.slice none 0 0) (.slice none 0 0) (.slice (some ⟨w.heap.size + 1, 0, none⟩) 20 20) false hmb.out.1
      refine bodyPost_ret (results_cell rfl _ _ w.heap.size _ rfl (loadM hb)) rfl ?_
      have hr : IR wr (.slice (some ⟨w.heap.size + 1, 0, none⟩) 20 20) newM.memo := IR.ofRow hrow.out newM.memo (by simp [newM]) (fun i hi => by rw [if_pos (by simpa [newM] using hi)]; rw [memo_at i hi]) (by omega)
      refine ⟨_, rfl, ?_, ?_, by omega⟩
      · refine Ext.st (Ext.st (Ext.st (Ext.st he.out ?_ _) ?_ _) ?_ _) ?_ _ <;> exact Nat.le_refl _
      · refine hr.keep (fun k hk => ?_)
        have hk : w.heap.size + 1 = k := by injection hk
        have hne : k ≠ w.heap.size := by omega
        rw [Below.heap_setCell _ _ _ _ hne, Below.heap_setCell _ _ _ _ hne, Below.heap_setCell _ _ _ _ hne, Below.heap_setCell _ _ _ _ hne]

/-- The state of copyNodes: k nodes are copied. -/
def CopyAt (nodes : List Nd) (w : World) (k : Nat) (v : Value) (wr : World) : Prop :=
  ∃ l, NR wr v l ∧ l.map Prod.fst = nodes.take k ∧ Ext w wr ∧ (∀ j, v.ownBlock = some j → w.heap.size ≤ j) ∧ (∀ p ∈ l, ∀ j, p.2.ownBlock = some j → w.heap.size ≤ j) ∧ l.Pairwise (fun p q => Apart p.2 q.2)
set_option maxRecDepth 100000 in
set_option maxHeartbeats 1000000 in
theorem copyNodes_c (A : Option Addr) (c : Nat) (nodes : List Nd) (w : World) (hr : RdN w A nodes) (hl : nodes.length ≤ 1000000) :
    Calls Try.prog 119 #[.slice A nodes.length c] w fun e w' => ∃ v, e = .returned v ∧ CopyAt nodes w nodes.length v w' := by
  have HR := As.mk hr
  clear hr
  go_enter Try.func119, Try.ntmps119
  go_wp2_with fail
  go_loopw [3, 5, 9] (fun v _ i wr => ∃ k A' c' : _, k ≤ nodes.length ∧ i = .int .i64 (k : Nat) ∧ v = .slice A' k c' ∧ As (CopyAt nodes w k v wr)) (fun _ _ i _ => nodes.length - (intOf i).toNat)
  case atStart =>
    refine ⟨0, _, _, Nat.zero_le _, rfl, rfl, ⟨[], ⟨World.ownsRow_lit (base := 0) (size := 3) w #[] 0 (Nat.zero_le _) (by simp) rfl, by simp⟩, rfl, (Ext.rf w).al _, fun j hj => ?_, by simp, List.Pairwise.nil⟩⟩
    have hj : w.heap.size = j := by injection hj
    omega
  case round =>
    obtain ⟨k, A', c', hk, rfl, rfl, hst⟩ := hrel
    by_cases hlt : k < nodes.length
    · obtain ⟨l, hN, hlm, hE, hv, hkd, hpw⟩ := hst.out
      have hlk : l.length = k := by have := congrArg List.length hlm; simp at this; omega
      obtain ⟨ad, K, cK, rfl, k0, k1, k2, hcK, hrK⟩ := (HR.out.ext hE).2 k hlt
      have HN := As.mk hN
      have HE := As.mk hE
      have HL := As.mk (And.intro hlm (And.intro hv (And.intro hkd hpw)))
      have HK := As.mk hrK
      have HLK := As.mk hlk
      clear hst hN hE hlm hv hkd hpw hrK hlk
      obtain ⟨kd, hkd⟩ : ∃ kd, kd = nodes[k].kind := ⟨_, rfl⟩
      obtain ⟨vl, hvl⟩ : ∃ vl, vl = nodes[k].val := ⟨_, rfl⟩
      obtain ⟨ks, hks⟩ : ∃ ks, ks = nodes[k].kids := ⟨_, rfl⟩
      rw [← hkd] at k0
      rw [← hvl] at k1
      rw [← hks] at k2 HK hcK
      have HV : As (nodes[k] = ⟨kd, vl, ks⟩) := ⟨by rw [hkd, hvl, hks]⟩
      have hksl := HK.out.1
      clear hkd hvl hks
      go_wp2_with fail
      obtain ⟨w1, hw1⟩ : ∃ w1, w1 = wr.alloc (.cells #[.int .i64 kd, .int .i64 vl, .slice K ks.length cK] 96) := ⟨_, rfl⟩
      have hX : Ext wr w1 := by rw [hw1]; exact (Ext.rf wr).al _
      have b0 : w1.cell? ⟨wr.heap.size, 0, none⟩ = some (.int .i64 kd) := by rw [hw1]; exact World.cell?_alloc_new ..
      have b1 : w1.cell? ⟨wr.heap.size, 1, none⟩ = some (.int .i64 vl) := by rw [hw1]; exact World.cell?_alloc_new ..
      have b2 : w1.cell? ⟨wr.heap.size, 2, none⟩ = some (.slice K ks.length cK) := by rw [hw1]; exact World.cell?_alloc_new ..
      rw [← hw1]
      have HX := As.mk hX
      clear hX hw1 k0 k1 k2
      refine region_perm (fun w' => w'.cell? ⟨wr.heap.size, 0, none⟩ = some (.int .i64 kd) ∧ w'.cell? ⟨wr.heap.size, 1, none⟩ = some (.int .i64 vl) ∧ w'.cell? ⟨wr.heap.size, 2, none⟩ = some (.slice K ks.length cK)) [] [(0, 0), (1, 0), (2, 1), (3, 0), (4, 1), (5, 0), (6, 1), (7, 2), (8, 0), (9, 2), (10, 2), (11, 0)] (by kernel_rfl) (by kernel_rfl) rfl (by kernel_rfl) (fun _ _ _ _ h => h) ?_
      have hS := And.intro b0 (And.intro b1 b2)
      repeat (first | refine wpP.c0 (h := ?_) | refine wpP.c1 (w := w1.drew) hS (h := ?_))
      refine wpP.ev (h := fun Kv hKv => ?_)
      go_wp2_with (go_at_call 133; refine (clone_c _ _ _ _ ((HK.out.ext HX.out).ext (by (repeat (first | exact Ext.rf _ | refine Ext.al ?_ _ | refine Ext.dr ?_ | refine Ext.dN ?_ _))))).mono ?_; rintro e w2 ⟨A2, c2, rfl, hI, he, hf⟩; have HI := As.mk hI; have HE2 : As (Ext wr w2) := ⟨(HX.out.dr).trans he⟩; have HF : As (Fresh (.slice A2 ks.length c2) wr) := ⟨fun k hk => Nat.le_trans HX.out.size (hf k hk)⟩; have HE1 : As (Ext w1 w2) := ⟨((Ext.rf w1).dr).trans he⟩; clear hI he hf)
      refine hKv.out _ _ ⟨HE1.out.cellOf b0, HE1.out.cellOf b1, HE1.out.cellOf b2⟩ ?_
      clear hKv Kv
      repeat (first | refine wpP.c0 (h := ?_))
      refine wpP.ev (h := fun Kv hKv => ?_)
      go_wp2_with fail
      refine hKv.out _ _ ⟨(HE1.out.al _).cellOf b0, (HE1.out.al _).cellOf b1, (HE1.out.al _).cellOf b2⟩ ?_
      clear hKv Kv
      have hN2 := own_keep HN.out.1 (fun j hj => HE2.out.block j (own_lt HN.out.1 hj))
      have HN2 := As.mk hN2
      clear hN2
      refine wpP.ev (h := fun Kv hKv => ?_)
      have hlk := HLK.out
      go_wp2_with ((at_builtin; refine app_node rfl _ _ rfl (.slice A' k c') l ⟨kd, vl, ks⟩ A2 ks.length c2 rfl rfl HN2.out (by omega) ?_; intro gN cN w3 hap; have HP := As.mk hap; clear hap))
      have hx : ∀ (j : Nat) (u : Value), w1.cell? ⟨wr.heap.size, j, none⟩ = some u → w3.cell? ⟨wr.heap.size, j, none⟩ = some u := fun j u h => HP.out.2.1.cell (HE1.out.cellOf h) (fun hk => Nat.lt_irrefl _ (own_lt HN.out.1 hk))
      refine hKv.out _ _ ⟨hx _ _ b0, hx _ _ b1, hx _ _ b2⟩ ?_
      clear hKv Kv hS hx
      repeat (first | refine wpP.c0 (h := ?_))
      refine wpP.done ?_
      clear b0 b1 b2 hlk
      go_wp2_with fail
      go_roundw
      case measure => simp [intOf]; omega
      case rel =>
        obtain ⟨hlm, hv, hkd, hpw⟩ := HL.out
        obtain ⟨p1, p2, p3, p4, p5⟩ := HP.out
        have hlk := HLK.out
        have hll : (l ++ [((⟨kd, vl, ks⟩ : Nd), Value.slice A2 ks.length c2)]).length = l.length + 1 := by simp
        rw [hll] at p1
        refine ⟨k + 1, some ⟨gN, 0, none⟩, cN, by omega, by go_num, rfl, ⟨l ++ [(⟨kd, vl, ks⟩, .slice A2 ks.length c2)], ⟨?_, fun p hp => ?_⟩, ?_, ?_, fun j hj => ?_, fun p hp j hj => ?_, ?_⟩⟩
        · rw [hll, ← hlk]; exact p1
        · rcases List.mem_append.1 hp with hp | hp
          · exact ⟨((HN.out.2 p hp).1.ext HE2.out).fr p2 (fun j hj => own_ne_type (HN.out.2 p hp).1 HN.out.1 (by decide) hj), (HN.out.2 p hp).2⟩
          · rw [List.mem_singleton] at hp; subst hp
            exact ⟨HI.out.fr p2 (fun j hj => own_ne_type HI.out HN2.out (by decide) hj), hksl⟩
        · rw [List.map_append, hlm, List.take_succ_eq_append_getElem hlt, HV.out]; rfl
        · exact ((Fr.ofExt (HE.out.trans HE2.out)).trans p2).ext hv
        · have hj : gN = j := by injection hj
          subst hj
          rcases p3 with h | h
          · exact hv _ h
          · exact Nat.le_trans (HE.out.trans HE2.out).size h
        · rcases List.mem_append.1 hp with hp | hp
          · exact hkd p hp j hj
          · rw [List.mem_singleton] at hp; subst hp
            exact Nat.le_trans HE.out.size (HF.out j hj)
        · rw [List.pairwise_append]
          refine ⟨hpw, List.pairwise_singleton _ _, fun p hp q hq => ?_⟩
          rw [List.mem_singleton] at hq; subst hq
          exact Apart.fresh (fun j hj => own_lt (HN.out.2 p hp).1 hj) HF.out
    · have hkk : k = nodes.length := by omega
      subst hkk
      go_wp2_with fail
      go_ret
      exact ⟨_, rfl, hst.out⟩

/-- A machine that is read. -/
structure RM (w : World) (AN AS AM : Option Addr) (m : Mc) : Prop where
  n : RdN w AN m.nodes
  s : RdI w AS m.stack
  e : RdI w AM m.memo
theorem RM.ext {w w' AN AS AM m} (h : RM w AN AS AM m) (e : Ext w w') : RM w' AN AS AM m := ⟨h.n.ext e, h.s.ext e, h.e.ext e⟩
set_option maxRecDepth 100000 in
set_option maxHeartbeats 1000000 in
theorem copyMachine_c (AN AS AM : Option Addr) (cN cS cM : Nat) (m : Mc) (w : World) (hr : RM w AN AS AM m) (hl : m.nodes.length ≤ 1000000) :
    Calls Try.prog 127 #[.agg #[.slice AN m.nodes.length cN, .slice AS m.stack.length cS, .slice AM m.memo.length cM, .bool m.done]] w fun e w' => ∃ l vN vS vM, e = .returned (.agg #[vN, vS, vM, .bool m.done]) ∧ Ext w w' ∧ MV w.heap.size w' l vN vS vM m := by
  have HR := As.mk hr
  clear hr
  go_enter Try.func127, Try.ntmps127
  go_wp2_with fail
  obtain ⟨w1, hw1⟩ : ∃ w1, w1 = (w.alloc (.cells #[.slice AN m.nodes.length cN, .slice AS m.stack.length cS, .slice AM m.memo.length cM, .bool m.done] 64)).alloc (.cells #[.slice none 0 0, .slice none 0 0, .slice none 0 0, .bool false] 64) := ⟨_, rfl⟩
  have hX : Ext w w1 := by rw [hw1]; exact ((Ext.rf w).al _).al _
  have hb : MB w1 w.heap.size (.slice AN m.nodes.length cN) (.slice AS m.stack.length cS) (.slice AM m.memo.length cM) m.done := by rw [hw1]; exact ((Ext.rf _).al _).blk (al_new _ _)
  have hb2 : MB w1 (w.heap.size + 1) (.slice none 0 0) (.slice none 0 0) (.slice none 0 0) false := by
    rw [hw1]
    have h := al_new (w.alloc (.cells #[.slice AN m.nodes.length cN, .slice AS m.stack.length cS, .slice AM m.memo.length cM, .bool m.done] 64)) (.cells #[.slice none 0 0, .slice none 0 0, .slice none 0 0, .bool false] 64)
    rw [al_size] at h
    exact h
  rw [← hw1]
  have HX := As.mk hX
  have HB := As.mk hb
  have HB2 := As.mk hb2
  have d0 := hb.c0
  have d1 := hb.c1
  have d2 := hb.c2
  have d3 := hb.c3
  clear hX hb hb2 hw1
  refine region_perm (fun w' => w'.cell? ⟨w.heap.size, 0, none⟩ = some (.slice AN m.nodes.length cN) ∧ w'.cell? ⟨w.heap.size, 1, none⟩ = some (.slice AS m.stack.length cS) ∧ w'.cell? ⟨w.heap.size, 2, none⟩ = some (.slice AM m.memo.length cM) ∧ w'.cell? ⟨w.heap.size, 3, none⟩ = some (.bool m.done)) [12] [(0, 0), (1, 1), (3, 0), (4, 1), (6, 0), (7, 1), (9, 0), (10, 1), (2, 2), (5, 2), (8, 2), (11, 0), (12, 3)] (by kernel_rfl) (by kernel_rfl) rfl (by kernel_rfl) (fun _ _ _ _ h => h) ?_
  have hS := And.intro d0 (And.intro d1 (And.intro d2 d3))
  repeat (first | refine wpP.c0 (h := ?_) | refine wpP.c1 (w := w1.drew) hS (h := ?_))
  refine wpP.ev (h := fun Kv hKv => ?_)
  go_wp2_with (go_at_call 119; refine (copyNodes_c _ _ _ _ ((HR.out.n.ext HX.out).ext (by (repeat (first | exact Ext.rf _ | refine Ext.al ?_ _ | refine Ext.dr ?_ | refine Ext.dN ?_ _)))) hl).mono ?_; rintro e w2 ⟨v, rfl, hc⟩; obtain ⟨l, h1, h2, h3, h4, h5, h6⟩ := hc; obtain ⟨A2, c2, rfl, _, _⟩ := own_form h1.1; have HE2 : As (Ext w1 w2) := ⟨((Ext.rf w1).dr).trans h3⟩; have HC := As.mk (And.intro h1 (And.intro h2 (And.intro h4 (And.intro h5 h6)))); clear h1 h2 h3 h4 h5 h6)
  refine hKv.out _ _ ⟨HE2.out.cellOf d0, HE2.out.cellOf d1, HE2.out.cellOf d2, HE2.out.cellOf d3⟩ ?_
  clear hKv Kv
  refine wpP.ev (h := fun Kv hKv => ?_)
  go_wp2_with (go_at_call 133; refine (clone_c _ _ _ _ ((HR.out.s.ext HX.out).ext HE2.out)).mono ?_; rintro e w3 ⟨A3, c3, rfl, hI, he, hf⟩; have HI3 := As.mk hI; have HE3 := As.mk he; have HF3 := As.mk hf; clear hI he hf)
  refine hKv.out _ _ ⟨(HE2.out.trans HE3.out).cellOf d0, (HE2.out.trans HE3.out).cellOf d1, (HE2.out.trans HE3.out).cellOf d2, (HE2.out.trans HE3.out).cellOf d3⟩ ?_
  clear hKv Kv
  refine wpP.ev (h := fun Kv hKv => ?_)
  go_wp2_with (go_at_call 133; refine (clone_c _ _ _ _ ((HR.out.e.ext HX.out).ext (HE2.out.trans HE3.out))).mono ?_; rintro e w4 ⟨A4, c4, rfl, hI, he, hf⟩; have HI4 := As.mk hI; have HE4 := As.mk he; have HF4 := As.mk hf; clear hI he hf)
  have hE := (HE2.out.trans HE3.out).trans HE4.out
  refine hKv.out _ _ ⟨hE.cellOf d0, hE.cellOf d1, hE.cellOf d2, hE.cellOf d3⟩ ?_
  clear hKv Kv hS d0 d1 d2 d3
  repeat (first | refine wpP.c0 (h := ?_))
  refine wpP.last (h := fun Kv hKv => ?_)
  have hb : MB w4 (w.heap.size + 1) (.slice none 0 0) (.slice none 0 0) (.slice none 0 0) false := hE.blk HB2.out
  have HE := As.mk hE
  have HB5 := As.mk hb
  have a0 := hb.c0
  have a1 := hb.c1
  have a2 := hb.c2
  have a3 := hb.c3
  have f0 := hb.fz 0
  have f1 := hb.fz 1
  have f2 := hb.fz 2
  have f3 := hb.fz 3
  clear hE hb
  go_wp2_with fail
  refine hKv.out _ _ (wpP.done ?_)
  clear hKv Kv a0 a1 a2 a3 f0 f1 f2 f3
  go_wp2_with fail
  have hb := MB.all (.slice A2 l.length c2) (.slice A3 m.stack.length c3) (.slice A4 m.memo.length c4) m.done HB5.out
  refine bodyPost_ret (results_cell rfl _ _ (w.heap.size + 1) _ rfl (loadM hb)) rfl ?_
  have hXX := HX.out.trans HE.out
  have h1 : w.heap.size ≤ w1.heap.size := HX.out.size
  have h2 : w1.heap.size ≤ w2.heap.size := HE2.out.size
  have h3 : w2.heap.size ≤ w3.heap.size := HE3.out.size
  obtain ⟨q1, q2, q4, q5, q6⟩ := HC.out
  have hmv : MV w1.heap.size w4 l (.slice A2 l.length c2) (.slice A3 m.stack.length c3) (.slice A4 m.memo.length c4) m := by
    have r1 : NR w4 (.slice A2 l.length c2) l := q1.keep (fun k hk => ((HE3.out.trans HE4.out)).block k (hk.elim (fun e => own_lt q1.1 e) (fun ⟨p, hp, e⟩ => own_lt (q1.2 p hp).1 e)))
    refine ⟨r1, by rw [q2, List.take_length], HI3.out.ext HE4.out, HI4.out, q4, fun k hk => Nat.le_trans h2 (HF3.out k hk), fun k hk => Nat.le_trans (Nat.le_trans h2 h3) (HF4.out k hk), q5, q6, fun p hp => Apart.fresh (fun k hk => own_lt (q1.2 p hp).1 hk) HF3.out, fun p hp => Apart.fresh (fun k hk => own_lt ((q1.2 p hp).1.ext HE3.out) hk) HF4.out, Apart.fresh (fun k hk => own_lt HI3.out hk) HF4.out⟩
  have hlt : w.heap.size + 1 < w1.heap.size := (Array.getElem?_eq_some_iff.1 HB2.out).1
  refine ⟨l, _, _, _, rfl, ?_, (hmv.keep (fun k hk _ => ?_)).low h1⟩
  · refine Ext.st (Ext.st (Ext.st (Ext.st hXX ?_ _) ?_ _) ?_ _) ?_ _ <;> exact Nat.le_succ _
  · have hne : k ≠ w.heap.size + 1 := by omega
    rw [Below.heap_setCell _ _ _ _ hne, Below.heap_setCell _ _ _ _ hne, Below.heap_setCell _ _ _ _ hne, Below.heap_setCell _ _ _ _ hne]
end Go.Proofs.Ytcodbpjaamggeaa.C
