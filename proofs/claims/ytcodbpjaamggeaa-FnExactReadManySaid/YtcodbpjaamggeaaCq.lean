/- A program is run, and something is called after each order. -/
import Derived.Test.YtcodbpjaamggeaaCp
set_option linter.unusedVariables false
set_option linter.unusedSimpArgs false
namespace Go.Proofs.Ytcodbpjaamggeaa.P
/-- The machines after each order that is possible. -/
def trace (m : Mc) : List Opr → List Mc
  | [] => []
  | o :: r => match stepP m o with
    | none => []
    | some m' => m' :: trace m' r
theorem trace_le : ∀ (l : List Opr) (m : Mc), (trace m l).length ≤ l.length
  | [], _ => by simp [trace]
  | o :: r, m => by
    simp only [trace]
    cases stepP m o with
    | none => simp
    | some m' => have := trace_le r m'; simp; omega
theorem runP_snoc : ∀ (l : List Opr) (m m' : Mc) (o : Opr), runP m l = (m', l.length) → runP m (l ++ [o]) = (match stepP m' o with | none => (m', l.length) | some m2 => (m2, l.length + 1)) ∧ trace m (l ++ [o]) = trace m l ++ (match stepP m' o with | none => [] | some m2 => [m2])
  | [], m, m', o, h => by
    simp only [runP, Prod.mk.injEq] at h
    obtain ⟨rfl, _⟩ := h
    simp only [List.nil_append, runP, trace]
    cases stepP m o <;> simp [runP, trace]
  | a :: l, m, m', o, h => by
    simp only [runP, List.cons_append, trace] at h ⊢
    cases hs : stepP m a with
    | none => rw [hs] at h; simp at h
    | some m1 =>
      rw [hs] at h
      simp only [Prod.mk.injEq, List.length_cons, Nat.add_right_cancel_iff] at h
      have h1 := runP_snoc l m1 m' o (Prod.ext h.1 h.2)
      simp only [h1.1, h1.2]
      cases stepP m' o <;> simp
/-- Where an order is not possible the rest is not looked at. -/
theorem runP_stop : ∀ (l r : List Opr) (m m' : Mc) (o : Opr), runP m l = (m', l.length) → stepP m' o = none → runP m (l ++ o :: r) = (m', l.length) ∧ trace m (l ++ o :: r) = trace m l
  | [], r, m, m', o, h, hs => by
    simp only [runP, Prod.mk.injEq] at h
    obtain ⟨rfl, _⟩ := h
    simp [runP, trace, hs]
  | a :: l, r, m, m', o, h, hs => by
    simp only [runP, List.cons_append, trace] at h ⊢
    cases hs1 : stepP m a with
    | none => rw [hs1] at h; simp at h
    | some m1 =>
      rw [hs1] at h
      simp only [Prod.mk.injEq, List.length_cons, Nat.add_right_cancel_iff] at h
      have h1 := runP_stop l r m1 m' o (Prod.ext h.1 h.2) hs
      simp [h1.1, h1.2]
end Go.Proofs.Ytcodbpjaamggeaa.P
namespace Go.Proofs.Ytcodbpjaamggeaa.C
open Go.RowKit Go.Proofs.Ytcodbpjaamggeaa.W Go.Proofs.Ytcodbpjaamggeaa.P

/-- What is called after an order: J tells its state after machines, in a world, where the blocks of B are not its own. -/
structure CB (F : FuncId) (caps : Array Value) (base : Nat) (D : Nat → Prop) (J : List Mc → World → (Nat → Prop) → Prop) : Prop where
  enter : ∀ args w, (callFunc F args).run Try.prog w = .ok (.enter F args) w
  frame : ∀ ms w w' B, J ms w B → Fr (fun k => B k ∨ k = base) w w' → J ms w' B
  call : ∀ ms w B g l vN vS vM m, MR B w g l vN vS vM m → okM 100000 m → ms.length ≤ 300 → (∀ j, B j → base < j) → J ms w B → Calls Try.prog F (#[.agg #[vN, vS, vM, .bool m.done]] ++ caps) w fun e w' => (∃ v, e = .returned v) ∧
    ∃ B', J (ms ++ [m]) w' B' ∧ MR B' w' g l vN vS vM m ∧ (∀ k, B' k → B k) ∧ Fr (fun k => D k ∨ (base < k ∧ ¬ B k) ∨ w.heap.size ≤ k) w w'

theorem MR.rm {B w g l vN vS vM m} (h : MR B w g l vN vS vM m) (h1 : m.nodes.length ≤ 1000000) (h2 : m.stack.length ≤ 1000000) (h3 : m.memo.length ≤ 1000000) : ∃ AN cN AS cS AM cM, vN = .slice AN m.nodes.length cN ∧ vS = .slice AS m.stack.length cS ∧ vM = .slice AM m.memo.length cM ∧ RM w AN AS AM m := by
  obtain ⟨AN, cN, rfl, _, r1⟩ := h.rdN (by omega)
  obtain ⟨AS, cS, rfl, _, r2⟩ := h.rdS (by omega)
  obtain ⟨AM, cM, rfl, _, r3⟩ := IR.rd h.me (by omega)
  exact ⟨AN, cN, AS, cS, AM, cM, rfl, rfl, rfl, r1, r2, r3⟩
theorem RdO.fr {S : Nat → Prop} {w w' : World} {A : Option Addr} {l : List Opr} (h : RdO w A l) (hf : Fr S w w') (hn : ∀ ad, A = some ad → ¬ S ad.block) : RdO w' A l :=
  ⟨h.1, fun k hk => let ⟨ad, ha, hc, hd⟩ := h.2 k hk; ⟨ad, ha, hf.cell hc (by rw [add_block]; exact hn ad ha), hf.cell hd (by show ¬ S (ad.add (k * 2)).block; rw [add_block]; exact hn ad ha)⟩⟩
theorem Fr.set4 {S : Nat → Prop} {w : World} {g : Nat} (hg : S g) (a b c d : Value) : Fr S w ((((w.setCell ⟨g, 0, none⟩ a).setCell ⟨g, 1, none⟩ b).setCell ⟨g, 2, none⟩ c).setCell ⟨g, 3, none⟩ d) :=
  (((Fr.set w a hg).trans (Fr.set _ b hg)).trans (Fr.set _ c hg)).trans (Fr.set _ d hg)
theorem MV.fr {base w w' l vN vS vM m} {S : Nat → Prop} (h : MV base w l vN vS vM m) (hf : Fr S w w') (hn : ∀ k, base ≤ k → ¬ S k) : MV base w' l vN vS vM m := h.keep (fun k hk hk' => hf.block k hk' (hn k hk))
def RunAt (base g : Nat) (D : Nat → Prop) (J : List Mc → World → (Nat → Prop) → Prop) (ops : List Opr) (w : World) (k : Nat) (wr : World) : Prop :=
  ∃ B l vN vS vM m, runP newM (ops.take k) = (m, (ops.take k).length) ∧ MR B wr g l vN vS vM m ∧ okM (301 * k) m ∧ J (trace newM (ops.take k)) wr B ∧ (∀ j, B j → base < j) ∧ Fr (fun j => D j ∨ base < j) w wr ∧
    wr.heap[base]? = some (.cells #[.slice none 0 0, .slice none 0 0, .slice none 0 0, .bool false] 64 (0, 0))

set_option maxRecDepth 100000 in
set_option maxHeartbeats 1000000 in
theorem running_c {F : FuncId} {D : Nat → Prop} {J : List Mc → World → (Nat → Prop) → Prop} {caps : Array Value} (w : World) (hcb : CB F caps w.heap.size D J) (A : Option Addr) (c : Nat) (ops : List Opr) (hr : RdO w A ops) (hops : ops.all okO = true) (hl : ops.length ≤ 300)
    (hA : ∀ ad, A = some ad → ¬ D ad.block) (hD : ¬ D w.heap.size) (hJ : ∀ w', Ext w w' → J [] w' (fun k => w.heap.size < k)) :
    Calls Try.prog 77 #[.slice A ops.length c, .func (.func F) #[] caps] w fun e w' => ∃ l vN vS vM B, e = .returned (.tuple #[.agg #[vN, vS, vM, .bool (runP newM ops).1.done], .int .i64 (runP newM ops).2]) ∧
      MV w.heap.size w' l vN vS vM (runP newM ops).1 ∧ okM 100000 (runP newM ops).1 ∧ J (trace newM ops) w' B ∧ Fr (fun j => D j ∨ w.heap.size ≤ j) w w' := by
  have HR := As.mk hr
  have HCB := As.mk hcb
  have HOP := As.mk hops
  have HA := As.mk hA
  have HJ := As.mk hJ
  clear hr hcb hops hA hJ
  go_enter Try.func77, Try.ntmps77
  go_wp2_with (go_at_call 90; refine (NewMachine_c _).mono ?_; rintro e w1 ⟨gM, rfl, he, hI, hM⟩; have HI := As.mk hI; have HE := As.mk he; have HM := As.mk hM; clear he hI hM)
  go_loopw [7, 8, 12] (fun _ _ i wr => ∃ k : Nat, k ≤ ops.length ∧ i = .int .i64 k ∧ As (RunAt w.heap.size w1.heap.size D J ops w k wr)) (fun _ _ i _ => ops.length - (intOf i).toNat)
  case atStart =>
    have hE := HE.out
    have hEw : Ext w w1 := ((Ext.rf w).al _).trans hE
    have hsz : w.heap.size < w1.heap.size := by have h1 := hE.size; rw [al_size] at h1; omega
    have hM := HM.out
    rw [al_size] at hM
    refine ⟨0, Nat.zero_le _, rfl, ⟨fun j => w.heap.size < j, [], .slice none 0 0, .slice none 0 0, .slice (some ⟨gM, 0, none⟩) 20 20, newM, rfl, ?_, okM_new.mono (by omega), ?_, fun j hj => hj, Fr.ofExt (hEw.al _), ?_⟩⟩
    · refine ⟨al_new _ _, NR.nil _, rfl, IR.nil _, HI.out.ext ((Ext.rf _).al _), fun j hj => ?_, List.Pairwise.nil, by simp, by simp, fun j hj => by simp [Value.ownBlock] at hj, fun j hj => by rw [al_size] at hj; show w.heap.size < j; omega⟩
      rcases hj with e | e | e | e | ⟨p, hp, e⟩
      · show w.heap.size < j; omega
      · simp [Value.ownBlock] at e
      · simp [Value.ownBlock] at e
      · have e : gM = j := by injection e
        show w.heap.size < j; omega
      · simp at hp
    · exact HJ.out _ (hEw.al _)
    · exact ((Ext.rf w1).al _).blk (hE.blk (al_new _ _))
  case round =>
    obtain ⟨k, hk, rfl, hst⟩ := hrel
    by_cases hlt : k < ops.length
    · obtain ⟨B, l, vN, vS, vM, m, h1, h2, h3, h4, h5, h6, h7⟩ := hst.out
      have hA1 : RdO wr A ops := RdO.fr HR.out h6 (fun ad ha hk => by
        rcases hk with hk | hk
        · exact HA.out ad ha hk
        · obtain ⟨ad', ha', hc', _⟩ := HR.out.2 k hlt
          rw [ha] at ha'
          cases ha'
          have := World.block_lt_of_cell? w _ hc'
          rw [add_block] at this
          omega)
      obtain ⟨ad, rfl, p0, p1⟩ := hA1.2 k hlt
      have hok : okO ops[k] = true := List.all_eq_true.1 HOP.out _ (List.getElem_mem hlt)
      have HH := As.mk (And.intro h1 (And.intro h2 (And.intro h3 (And.intro h4 (And.intro h5 (And.intro h6 h7))))))
      have HOK := As.mk hok
      clear h1 h2 h3 h4 h5 h6 h7 hst hA1 hok
      obtain ⟨o, ho⟩ : ∃ o, o = ops[k] := ⟨_, rfl⟩
      rw [← ho] at p0 p1 HOK
      have HO := As.mk ho
      clear ho
      cases hs : stepP m o with
      | none =>
        have HS := As.mk hs
        clear hs
        go_wp2_with (first | (go_at_call 91; refine (step_m (HH.out.2.1.ext (by (repeat (first | exact Ext.rf _ | refine Ext.al ?_ _ | refine Ext.dr ?_ | refine Ext.dN ?_ _)))) HH.out.2.2.1 (by omega) o HOK.out).mono ?_; unfold StepPost; rw [HS.out]; rintro e w2 ⟨rfl, hf, l', vN', vS', hm⟩; have hm : MR B w2 w1.heap.size l' vN' vS' vM m := hm; obtain ⟨AN, cN, AS, cS, AM, cM, rfl, rfl, rfl, hrm⟩ := hm.rm (by have := HH.out.2.2.1.nl; omega) (by have := HH.out.2.2.1.sl; omega) (by have := HH.out.2.2.1.ml; omega); have g0 := hm.mb.c0; have g1 := hm.mb.c1; have g2 := hm.mb.c2; have g3 := hm.mb.c3; have HRM := As.mk hrm; have HMR := As.mk hm; have HF := As.mk hf; clear hm hf hrm) | (go_at_call 127; refine (copyMachine_c _ _ _ _ _ _ m _ (HRM.out.ext (by (repeat (first | exact Ext.rf _ | refine Ext.al ?_ _ | refine Ext.dr ?_ | refine Ext.dN ?_ _)))) (by have := HH.out.2.2.1.nl; omega)).mono ?_; rintro e w3 ⟨l3, v3, v4, v5, rfl, hE3, hV3⟩; have HE3 : As (Ext w2 w3) := ⟨hE3⟩; have HV3 := As.mk hV3; (have hb3 : MB w3 w.heap.size (.slice none 0 0) (.slice none 0 0) (.slice none 0 0) false := hE3.blk (HF.out.blk (((Ext.rf wr).al _).blk HH.out.2.2.2.2.2.2) (fun hB => Nat.lt_irrefl _ (HH.out.2.2.2.2.1 _ hB)))); clear hE3 hV3; obtain ⟨B3, c3, rfl, _, _⟩ := own_form HV3.out.nr.1; obtain ⟨B4, c4, rfl, _, _⟩ := own_form HV3.out.sr; obtain ⟨B5, c5, rfl, _, _⟩ := own_form HV3.out.me; have a0 := hb3.c0; have a1 := hb3.c1; have a2 := hb3.c2; have a3 := hb3.c3; have f0 := hb3.fz 0; have f1 := hb3.fz 1; have f2 := hb3.fz 2; have f3 := hb3.fz 3; have HB3 := As.mk hb3; clear hb3))
        have hb := MB.all (.slice B3 l3.length c3) (.slice B4 m.stack.length c4) (.slice B5 m.memo.length c5) m.done HB3.out
        refine bodyPost_ret (results_cellt rfl _ _ w.heap.size _ rfl (loadM hb)) rfl ?_
        obtain ⟨h1, h2, h3, h4, h5, h6, h7⟩ := HH.out
        have hsplit : ops = ops.take k ++ o :: ops.drop (k + 1) := by
          rw [HO.out, ← List.drop_eq_getElem_cons hlt, List.take_append_drop]
        have hlk : (ops.take k).length = k := by rw [List.length_take]; omega
        obtain ⟨r1, r2⟩ := runP_stop (ops.take k) (ops.drop (k + 1)) newM m o h1 HS.out
        rw [← hsplit, hlk] at r1
        rw [← hsplit] at r2
        have hF3 : Fr (fun j => B j ∨ j = w.heap.size) wr w3 := (Fr.ofExt ((Ext.rf wr).al _)).trans ((HF.out.mono (fun _ h => .inl h)).trans (Fr.ofExt HE3.out))
        have hs4 := Fr.set4 (S := fun j => j = w.heap.size) (w := w3) (g := w.heap.size) rfl (.slice B3 l3.length c3) (.slice B4 m.stack.length c4) (.slice B5 m.memo.length c5) (.bool m.done)
        have hF4 := hF3.trans (hs4.mono (fun _ h => .inr h))
        have hsz : w.heap.size < w2.heap.size := by
          have e1 := HF.out.size
          have e2 := (((Ext.rf wr).al (.cells #[.int .i64 o.code, .int .i64 o.arg] 82))).size
          have e3 := (Array.getElem?_eq_some_iff.1 h7).1
          omega
        rw [r1, r2]
        refine ⟨l3, _, _, _, B, rfl, ?_, h3.mono (by omega), HCB.out.frame _ _ _ _ h4 hF4, ?_⟩
        · exact (HV3.out.fr hs4 (fun k hk e => by have := hsz; omega)).low (Nat.le_of_lt hsz)
        · exact h6.mono (fun j h => h.imp id Nat.le_of_lt) |>.trans (hF4.mono (fun j h => h.elim (fun h => .inr (Nat.le_of_lt (h5 j h))) (fun h => .inr (Nat.le_of_eq h.symm))))
      | some m' =>
        have HS := As.mk hs
        clear hs
        have hok' := okM_step HH.out.2.2.1 HOK.out HS.out
        go_wp2_with (first | (go_at_call 91; refine (step_m (HH.out.2.1.ext (by (repeat (first | exact Ext.rf _ | refine Ext.al ?_ _ | refine Ext.dr ?_ | refine Ext.dN ?_ _)))) HH.out.2.2.1 (by omega) o HOK.out).mono ?_; unfold StepPost; rw [HS.out]; rintro e w2 ⟨rfl, hf, l', vN', vS', hm⟩; have hm : MR B w2 w1.heap.size l' vN' vS' vM m' := hm; obtain ⟨AN, cN, AS, cS, AM, cM, rfl, rfl, rfl, hrm⟩ := hm.rm (by have := hok'.nl; omega) (by have := hok'.sl; omega) (by have := hok'.ml; omega); have g0 := hm.mb.c0; have g1 := hm.mb.c1; have g2 := hm.mb.c2; have g3 := hm.mb.c3; have HMR := As.mk hm; have HF := As.mk hf; clear hm hf hrm))
        rw [HCB.out.enter]
        show Calls _ _ _ _ _
        obtain ⟨h1, h2, h3, h4, h5, h6, h7⟩ := HH.out
        have hJ2 : J (trace newM (ops.take k)) w2 B := HCB.out.frame _ _ _ _ h4 ((Fr.ofExt ((Ext.rf wr).al _)).trans (HF.out.mono (fun _ h => .inl h)))
        refine Calls.mono (HCB.out.call _ _ _ _ _ _ _ _ _ HMR.out (hok'.mono (by omega)) (by have := trace_le (ops.take k) newM; simp at this; omega) h5 hJ2) ?_
        rintro e w4 ⟨⟨v, rfl⟩, B', k1, k2, k3, k4⟩
        have hlk : (ops.take k).length = k := by rw [List.length_take]; omega
        have hr := runP_snoc (ops.take k) newM m o h1
        rw [HS.out, HO.out, ← List.take_succ_eq_append_getElem hlt, hlk] at hr
        have hlk1 : (ops.take (k + 1)).length = k + 1 := by rw [List.length_take]; omega
        have hnext : RunAt w.heap.size w1.heap.size D J ops w (k + 1) w4 := by
          have hF2 : Fr B wr w2 := (Fr.ofExt ((Ext.rf wr).al _)).trans HF.out
          have hsz : wr.heap.size ≤ w2.heap.size := hF2.size
          have hb := (Array.getElem?_eq_some_iff.1 h7).1
          refine ⟨B', l', _, _, _, m', by rw [hr.1, hlk1], k2, hok'.mono (by omega), by rw [hr.2]; exact k1, fun j hj => h5 j (k3 j hj), (h6.trans (hF2.mono (fun j hj => .inr (h5 j hj)))).then k4 (fun j hj => ?_), ?_⟩
          · rcases hj with h | ⟨h, _⟩ | h
            · exact .inl (.inl h)
            · exact .inl (.inr h)
            · exact .inl (.inr (by omega))
          · refine k4.blk (hF2.blk h7 (fun hB => Nat.lt_irrefl _ (h5 _ hB))) (fun hj => ?_)
            rcases hj with h | ⟨h, _⟩ | h
            · exact hD h
            · exact Nat.lt_irrefl _ h
            · omega
        have HNX := As.mk hnext
        clear hnext hr k1 k2 k3 k4 h1 h2 h3 h4 h5 h6 h7 hJ2
        go_wp2_with fail
        go_roundw
        case measure => simp [intOf]; omega
        case rel => exact ⟨k + 1, by omega, by go_num, HNX⟩
    · have hkk : k = ops.length := by omega
      subst hkk
      obtain ⟨B, l, vN, vS, vM, m, h1, h2, h3, h4, h5, h6, h7⟩ := hst.out
      obtain ⟨AN, cN, AS, cS, AM, cM, rfl, rfl, rfl, hrm⟩ := h2.rm (by have := h3.nl; omega) (by have := h3.sl; omega) (by have := h3.ml; omega)
      have g0 := h2.mb.c0
      have g1 := h2.mb.c1
      have g2 := h2.mb.c2
      have g3 := h2.mb.c3
      have HRM := As.mk hrm
      have HH := As.mk (And.intro h1 (And.intro h2 (And.intro h3 (And.intro h4 (And.intro h5 (And.intro h6 h7))))))
      clear hrm h1 h2 h3 h4 h5 h6 h7 hst
      go_wp2_with (go_at_call 127; refine (copyMachine_c _ _ _ _ _ _ m _ (HRM.out.ext (by (repeat (first | exact Ext.rf _ | refine Ext.al ?_ _ | refine Ext.dr ?_ | refine Ext.dN ?_ _)))) (by have := HH.out.2.2.1.nl; omega)).mono ?_; rintro e w3 ⟨l3, v3, v4, v5, rfl, hE3, hV3⟩; have HE3 : As (Ext wr w3) := ⟨hE3⟩; have HV3 := As.mk hV3; (have hb3 : MB w3 w.heap.size (.slice none 0 0) (.slice none 0 0) (.slice none 0 0) false := hE3.blk HH.out.2.2.2.2.2.2); clear hE3 hV3; obtain ⟨B3, c3, rfl, _, _⟩ := own_form HV3.out.nr.1; obtain ⟨B4, c4, rfl, _, _⟩ := own_form HV3.out.sr; obtain ⟨B5, c5, rfl, _, _⟩ := own_form HV3.out.me; have a0 := hb3.c0; have a1 := hb3.c1; have a2 := hb3.c2; have a3 := hb3.c3; have f0 := hb3.fz 0; have f1 := hb3.fz 1; have f2 := hb3.fz 2; have f3 := hb3.fz 3; have HB3 := As.mk hb3; clear hb3)
      have hb := MB.all (.slice B3 l3.length c3) (.slice B4 m.stack.length c4) (.slice B5 m.memo.length c5) m.done HB3.out
      refine bodyPost_ret (results_cellt rfl _ _ w.heap.size _ rfl (loadM hb)) rfl ?_
      obtain ⟨h1, h2, h3, h4, h5, h6, h7⟩ := HH.out
      have htk : ops.take ops.length = ops := List.take_length
      rw [htk] at h1 h4
      have hs4 := Fr.set4 (S := fun j => j = w.heap.size) (w := w3) (g := w.heap.size) rfl (.slice B3 l3.length c3) (.slice B4 m.stack.length c4) (.slice B5 m.memo.length c5) (.bool m.done)
      have hF4 : Fr (fun j => B j ∨ j = w.heap.size) wr _ := (Fr.ofExt HE3.out).trans (hs4.mono (fun _ h => .inr h))
      have hsz := (Array.getElem?_eq_some_iff.1 h7).1
      rw [h1]
      refine ⟨l3, _, _, _, B, rfl, ?_, h3.mono (by omega), HCB.out.frame _ _ _ _ h4 hF4, ?_⟩
      · exact (HV3.out.fr hs4 (fun k hk e => by have := hsz; omega)).low (Nat.le_of_lt hsz)
      · exact h6.mono (fun j h => h.imp id Nat.le_of_lt) |>.trans (hF4.mono (fun j h => h.elim (fun h => .inr (Nat.le_of_lt (h5 j h))) (fun h => .inr (Nat.le_of_eq h.symm))))
end Go.Proofs.Ytcodbpjaamggeaa.C
