/- Shapes in memory: new ones, and after a program. -/
import Derived.Test.YtgenllcfpjgklaaCy
set_option linter.unusedVariables false
set_option linter.unusedSimpArgs false
namespace Go.Proofs.Ytgenllcfpjgklaa.C
open Go.RowKit Go.Proofs.Ytgenllcfpjgklaa.W Go.Proofs.Ytgenllcfpjgklaa.P

def NewAt (w : World) (k : Nat) (wr : World) : Prop :=
  ∃ vM, SB wr (w.heap.size + 1) (.slice none 0 0) (.slice none 0 0) (.slice none 0 0) vM false ∧ SB wr w.heap.size (.slice none 0 0) (.slice none 0 0) (.slice none 0 0) (.slice none 0 0) false ∧ IR wr vM (List.replicate k (-1)) ∧ Ext w wr ∧ (∀ j, vM.ownBlock = some j → w.heap.size ≤ j)
set_option maxRecDepth 100000 in
set_option maxHeartbeats 1000000 in
theorem newShapes_c (w : World) : Calls Try.prog 93 #[] w fun e w' => ∃ vK vF vS vM, e = .returned (.agg #[vK, vF, vS, vM, .bool false]) ∧ SV w' vK vF vS vM newS ∧ Ext w w' ∧ (∀ k, SF vK vF vS vM k → w.heap.size ≤ k) := by
  go_enter Try.func93, Try.ntmps93
  go_wp2_with fail
  go_loopw [2] (fun i wr => ∃ k : Nat, k ≤ 20 ∧ i = .int .i64 k ∧ As (NewAt w k wr)) (fun i _ => 20 - (intOf i).toNat)
  case atStart =>
    refine ⟨0, by omega, rfl, ⟨.slice none 0 0, ?_, ?_, IR.nil _, ?_, by simp [Value.ownBlock]⟩⟩
    · have h := al_new (w.alloc (.cells #[.slice none 0 0, .slice none 0 0, .slice none 0 0, .slice none 0 0, .bool false] 91)) (.cells #[.slice none 0 0, .slice none 0 0, .slice none 0 0, .slice none 0 0, .bool false] 91)
      rw [al_size] at h
      exact h
    · exact ((Ext.rf _).al _).blk (al_new _ _)
    · exact ((Ext.rf w).al _).al _
  case round =>
    obtain ⟨k, hk, rfl, hst⟩ := hrel
    obtain ⟨vM, h1, h2, h3, h4, h5⟩ := hst.out
    clear hst
    obtain ⟨AM, cM, rfl, _, _⟩ := own_form h3
    rw [List.length_replicate] at *
    have HB := As.mk h1
    have HR := As.mk h2
    have HI := As.mk h3
    have HE := As.mk h4
    have HF := As.mk h5
    have c3 := h1.c3
    by_cases hlt : k < 20
    · clear h1 h2 h3 h4 h5
      have hlen : (List.replicate k (-1 : Int)).length ≤ 20 := by rw [List.length_replicate]; omega
      go_wp2_with ((at_builtin; refine app_int rfl _ _ rfl (.slice AM k cM) (List.replicate k (-1)) (-1) rfl rfl HI.out (by omega) ?_; intro gM cM' w2 hap; have hb : SB w2 (w.heap.size + 1) (.slice none 0 0) (.slice none 0 0) (.slice none 0 0) (.slice AM k cM) false := hap.2.1.blk HB.out (fun e => own_ne_blk HI.out HB.out (by decide) e); have HP := As.mk hap; have HB2 := As.mk hb; clear hap; have e3 := hb.c3; have f3 := hb.fz 3; clear hb))
      go_roundw
      case measure => simp only [intOf]; omega
      case rel =>
        obtain ⟨k1, k2, k3, k4, k5⟩ := HP.out
        have hr2 : SB w2 w.heap.size _ _ _ _ false := k2.blk HR.out (fun e => own_ne_blk HI.out HR.out (by decide) e)
        refine ⟨k + 1, by omega, by go_num, ⟨.slice (some ⟨gM, 0, none⟩) (k + 1) cM', ?_, ?_, ?_, ?_, ?_⟩⟩
        · have h' : w2.heap[w.heap.size + 1]? = _ := HB2.out
          simp [SB, World.setCell, Array.getElem?_modify, h']
        · exact (Below.heap_setCell _ _ _ _ (by show w.heap.size ≠ w.heap.size + 1; omega)).trans hr2
        · have e : (List.replicate k (-1 : Int) ++ [-1]) = List.replicate (k + 1) (-1) := by rw [← List.replicate_succ']
          rw [e, List.length_replicate] at k1
          exact k1.keep (fun j hj => Below.heap_setCell _ _ _ _ (fun e => own_ne_blk k1 HB2.out (by decide) (by rw [hj]; exact congrArg some e)))
        · refine ((HE.out |> Fr.ofExt (S := fun _ => False)).then k2 (fun i hi => .inr (HF.out i hi))).ext (fun _ h => h.elim) |>.st ?_ _
          show w.heap.size ≤ w.heap.size + 1
          omega
        · intro j hj
          have hj : gM = j := by injection hj
          subst hj
          rcases k3 with h | h
          · exact HF.out _ h
          · exact Nat.le_trans HE.out.size h
    · have hk20 : k = 20 := by omega
      subst hk20
      have c0 := h1.c0; have c1 := h1.c1; have c2 := h1.c2; have c4 := h1.c4
      have d0 := h2.c0; have d1 := h2.c1; have d2 := h2.c2; have d3 := h2.c3; have d4 := h2.c4
      have f0 := h2.fz 0; have f1 := h2.fz 1; have f2 := h2.fz 2; have f3 := h2.fz 3; have f4 := h2.fz 4
      clear h1 h2 h3 h4 h5
      go_wp2_with fail
      refine bodyPost_ret (results_cell rfl _ _ w.heap.size _ rfl (loadS (SB.all _ _ _ _ _ HR.out))) rfl ?_
      have hs5 := Fr.set5 (S := fun k => k = w.heap.size) (w := wr) (g := w.heap.size) rfl (.slice none 0 0) (.slice none 0 0) (.slice none 0 0) (.slice AM 20 cM) (.bool false)
      have hv : SV wr (.slice none 0 0) (.slice none 0 0) (.slice none 0 0) (.slice AM 20 cM) newS := ⟨IR.nil _, BR.nil _, IR.nil _, HI.out, fun k hk => by simp [Value.ownBlock] at hk, fun k hk => by simp [Value.ownBlock] at hk, fun k hk => by simp [Value.ownBlock] at hk⟩
      refine ⟨_, _, _, _, rfl, hv.fr hs5 (fun k hk e => hv.nb HR.out (by rw [← e]; exact hk)), (Fr.then (S := fun _ => False) (Fr.ofExt HE.out) hs5 (fun i hi => .inr (by omega))).ext (fun _ h => h.elim), fun k hk => ?_⟩
      rcases hk with e | e | e | e
      · simp [Value.ownBlock] at e
      · simp [Value.ownBlock] at e
      · simp [Value.ownBlock] at e
      · exact HF.out k e
/-! ### a program -/
theorem runS_snoc : ∀ (l : List Opr) (s s' : Sh) (o : Opr), runS s l = (s', l.length) → runS s (l ++ [o]) = (match stepS s' o with | none => (s', l.length) | some s2 => (s2, l.length + 1))
  | [], s, s', o, h => by
    simp only [runS, Prod.mk.injEq] at h
    obtain ⟨rfl, _⟩ := h
    simp only [List.nil_append, runS]
    cases stepS s o <;> simp [runS]
  | a :: l, s, s', o, h => by
    simp only [runS, List.cons_append] at h ⊢
    cases hs : stepS s a with
    | none => rw [hs] at h; simp at h
    | some s1 =>
      rw [hs] at h
      simp only [Prod.mk.injEq, List.length_cons, Nat.add_right_cancel_iff] at h
      have h1 := runS_snoc l s1 s' o (Prod.ext h.1 h.2)
      simp only [h1]
      cases stepS s' o <;> simp
theorem runS_stop : ∀ (l r : List Opr) (s s' : Sh) (o : Opr), runS s l = (s', l.length) → stepS s' o = none → runS s (l ++ o :: r) = (s', l.length)
  | [], r, s, s', o, h, hs => by
    simp only [runS, Prod.mk.injEq] at h
    obtain ⟨rfl, _⟩ := h
    simp [runS, hs]
  | a :: l, r, s, s', o, h, hs => by
    simp only [runS, List.cons_append] at h ⊢
    cases hs1 : stepS s a with
    | none => rw [hs1] at h; simp at h
    | some s1 =>
      rw [hs1] at h
      simp only [Prod.mk.injEq, List.length_cons, Nat.add_right_cancel_iff] at h
      have h1 := runS_stop l r s1 s' o (Prod.ext h.1 h.2) hs
      simp [h1]
def RunSAt (ops : List Opr) (w : World) (g : Nat) (k : Nat) (wr : World) : Prop :=
  ∃ vK vF vS vM s, runS newS (ops.take k) = (s, (ops.take k).length) ∧ okS s ∧ SB wr g vK vF vS vM s.done ∧ SB wr w.heap.size (.slice none 0 0) (.slice none 0 0) (.slice none 0 0) (.slice none 0 0) false ∧ SV wr vK vF vS vM s ∧ Ext w wr ∧ (∀ k, SF vK vF vS vM k → w.heap.size ≤ k) ∧ w.heap.size < g
/-- A copy of shapes. -/
def CopyS (wr w2 : World) (s : Sh) (vK vF vS vM : Value) : Prop := SV w2 vK vF vS vM s ∧ Ext wr w2 ∧ (∀ k, SF vK vF vS vM k → wr.heap.size ≤ k)
theorem CopyS.ext {wr w2 w3 s vK vF vS vM} (h : CopyS wr w2 s vK vF vS vM) (e : Ext w2 w3) : CopyS wr w3 s vK vF vS vM := ⟨h.1.ext e, h.2.1.trans e, h.2.2⟩
/-- An order was tried on a copy. -/
def StepAt (wr w5 : World) (r : Option Sh) (vK vF vS vM : Value) (x : Bool) : Prop := Ext wr w5 ∧ ∀ s', r = some s' → x = s'.done ∧ SV w5 vK vF vS vM s' ∧ (∀ k, SF vK vF vS vM k → wr.heap.size ≤ k)
theorem StepAt.ext {wr w2 w3 r vK vF vS vM x} (h : StepAt wr w2 r vK vF vS vM x) (e : Ext w2 w3) : StepAt wr w3 r vK vF vS vM x :=
  ⟨h.1.trans e, fun s' hs => ⟨(h.2 s' hs).1, (h.2 s' hs).2.1.ext e, (h.2 s' hs).2.2⟩⟩
theorem CopyS.step {wr w2 w3 s vK vF vS vM r vK' vF' vS' vM' x} (h : CopyS wr w2 s vK vF vS vM) (hf : Fr (SF vK vF vS vM) w2 w3) (hp : ∀ s', r = some s' → x = s'.done ∧ SPost vK vF vS vM s' w2 vK' vF' vS' vM' w3) : StepAt wr w3 r vK' vF' vS' vM' x :=
  ⟨(Fr.then (S := fun _ => False) (Fr.ofExt h.2.1) hf (fun i hi => .inr (h.2.2 i hi))).ext (fun _ h => h.elim), fun s' hs => ⟨(hp s' hs).1, (hp s' hs).2.1, fun k hk => ((hp s' hs).2.2.2 k hk).elim (h.2.2 k) (fun e => by have := h.2.1.size; omega)⟩⟩
set_option maxRecDepth 100000 in
set_option maxHeartbeats 1000000 in
theorem runShapes_c (A : Option Addr) (c : Nat) (ops : List Opr) (w : World) (hr : RdO w A ops) (hops : ops.all okO = true) :
    Calls Try.prog 122 #[.slice A ops.length c] w fun e w' => ∃ vK vF vS vM, e = .returned (.tuple #[.agg #[vK, vF, vS, vM, .bool (runS newS ops).1.done], .int .i64 (runS newS ops).2]) ∧ SV w' vK vF vS vM (runS newS ops).1 ∧ Ext w w' ∧ (∀ k, SF vK vF vS vM k → w.heap.size ≤ k) ∧ okS (runS newS ops).1 := by
  have hlen := hr.1
  have HR := As.mk hr
  have HOP := As.mk hops
  clear hr hops
  go_enter Try.func122, Try.ntmps122
  go_upto_region 2 with (go_at_call 93; refine (newShapes_c _).mono ?_; rintro e w1 ⟨vK, vF, vS, vM, rfl, hv, he, hf⟩; obtain ⟨A1, c1, A2, c2, A3, c3, A4, c4, rfl, rfl, rfl, rfl⟩ := hv.forms; have HV0 := As.mk hv; have HE0 := As.mk he; have HF0 := As.mk hf; clear hv he hf)
  have hrun : RunSAt ops w w1.heap.size 0 (w1.alloc (.cells #[.slice A1 newS.kinds.length c1, .slice A2 newS.full.length c2, .slice A3 newS.stack.length c3, .slice A4 newS.memo.length c4, .bool false] 91)) := by
    have he := HE0.out
    have hsz := he.size
    rw [al_size] at hsz
    have hx : Ext w w1 := ((Ext.rf w).al _).trans he
    exact ⟨_, _, _, _, newS, rfl, okS_new, al_new _ _, ((Ext.rf _).al _).blk (he.blk (al_new _ _)), HV0.out.ext ((Ext.rf _).al _), hx.al _, fun k hk => by have := HF0.out k hk; rw [al_size] at this; omega, by omega⟩
  have HRUN := As.mk hrun
  obtain ⟨g, hg⟩ : ∃ g, g = w1.heap.size := ⟨_, rfl⟩
  rw [← hg] at HRUN ⊢
  clear hrun HV0 HE0 HF0 hg
  generalize (w1.alloc (.cells #[.slice A1 newS.kinds.length c1, .slice A2 newS.full.length c2, .slice A3 newS.stack.length c3, .slice A4 newS.memo.length c4, .bool false] 91)) = w0 at HRUN ⊢
  go_wp2_with fail
  go_loopw [5] (fun i wr => ∃ k : Nat, k ≤ ops.length ∧ i = .int .i64 k ∧ As (RunSAt ops w g k wr)) (fun i _ => ops.length - (intOf i).toNat)
  case atStart => exact ⟨0, Nat.zero_le _, rfl, HRUN⟩
  case round =>
    obtain ⟨k, hk, rfl, hst⟩ := hrel
    obtain ⟨vK, vF, vS, vM, s, h1, h2, h3, h4, h5, h6, h7, hgw⟩ := hst.out
    obtain ⟨AK, cK, AF, cF, AS, cS, AM, cM, rfl, rfl, rfl, rfl⟩ := h5.forms
    have HRN := As.mk h1
    have HOKS := As.mk h2
    have HBG := As.mk h3
    have HBR := As.mk h4
    have HV := As.mk h5
    have HEW := As.mk h6
    have HFW := As.mk h7
    have hgl := h3.lt
    have hews := h6.size
    clear hst h1 h2 h3 h4 h5 h6 h7 HRUN
    have c0 := SB.c0 HBG.out; have c1 := SB.c1 HBG.out; have c2 := SB.c2 HBG.out; have c3 := SB.c3 HBG.out; have c4 := SB.c4 HBG.out
    by_cases hlt : k < ops.length
    · obtain ⟨ad, rfl, m1, m2⟩ := (HR.out.ext HEW.out).2 k hlt
      obtain ⟨oc, hoc⟩ : ∃ oc, oc = ops[k].code := ⟨_, rfl⟩
      obtain ⟨oa, hoa⟩ : ∃ oa, oa = ops[k].arg := ⟨_, rfl⟩
      rw [← hoc] at m1
      rw [← hoa] at m2
      have HOO : As (okO ops[k] = true) := ⟨List.all_eq_true.1 HOP.out _ (List.getElem_mem hlt)⟩
      have HOC := As.mk hoc
      have HOA := As.mk hoa
      have HLT := As.mk hlt
      have q1 : (k : Int) < ops.length := by omega
      obtain ⟨r, hr⟩ : ∃ r, stepS s ops[k] = r := ⟨_, rfl⟩
      have HRR := As.mk hr
      clear hoc hoa hr
      cases r with
      | none =>
        go_upto_region 5 with fail
        refine region_tree (fun w' => w'.cell? ⟨g, 0, none⟩ = some (.slice AK s.kinds.length cK) ∧ w'.cell? ⟨g, 1, none⟩ = some (.slice AF s.full.length cF) ∧ w'.cell? ⟨g, 2, none⟩ = some (.slice AS s.stack.length cS) ∧ w'.cell? ⟨g, 3, none⟩ = some (.slice AM s.memo.length cM) ∧ w'.cell? ⟨g, 4, none⟩ = some (.bool s.done) ∧ w'.cell? (ad.add (k * 2)) = some (.int .i64 oc) ∧ w'.cell? ⟨(ad.add (k * 2)).block, (ad.add (k * 2)).off + 1, none⟩ = some (.int .i64 oa)) [11]
          (.fork [(0, 1), (2, 0), (3, 0), (4, 0), (5, 1)] 1 10 (.fork [] 6 10 (.lin [(7, 0), (8, 0), (9, 0), (10, 2), (11, 3), (12, 0)]) (.lin [(6, 2), (7, 0), (8, 0), (9, 0), (11, 3), (12, 0)])) (.lin [(1, 2), (6, 2), (7, 0), (8, 0), (9, 0), (11, 3), (12, 0)])) (by kernel_rfl) (by kernel_rfl) rfl (by kernel_rfl) (fun _ _ _ _ h => h) (wpT.fork ?_)
        have hS := And.intro c0 (And.intro c1 (And.intro c2 (And.intro c3 (And.intro c4 (And.intro m1 m2)))))
        repeat (first | refine wpP.c0 (h := ?_) | refine wpP.c1 (w := wr.drew) hS (h := ?_))
        refine wpP.fork ?br1 ?br2
        case' br1 =>
          refine wpT.ev (h := fun Kv hKv => ?_)
          have HEX : As (Ext wr wr.drew) := ⟨(Ext.rf _).dr⟩
          go_wp2_with (go_at_call 97; refine (copyShapes_c _ _ _ _ s _ (HV.out.ext HEX.out) HOKS.out.siz).mono ?_; rintro e w2 ⟨C1, C2, C3, C4, rfl, hv, he, hf⟩; have HCP : As (CopyS wr w2 s C1 C2 C3 C4) := ⟨⟨hv, HEX.out.trans he, fun k hk => Nat.le_trans HEX.out.size (hf k hk)⟩⟩; have HX2 : As (Ext wr w2) := ⟨HEX.out.trans he⟩; have HXX := As.mk he; clear hv he hf)
          refine hKv.out _ _ ⟨HX2.out.cellOf c0, HX2.out.cellOf c1, HX2.out.cellOf c2, HX2.out.cellOf c3, HX2.out.cellOf c4, HX2.out.cellOf m1, HX2.out.cellOf m2⟩ (wpT.fork (wpP.fork ?br3 ?br4))
          clear hKv Kv
          case' br3 =>
            refine wpT.ev (h := fun Kv hKv => ?_)
            go_wp2_with (go_at_call 96; refine ((show Calls Try.prog 96 #[.agg #[C1, C2, C3, C4, .bool s.done], .agg #[.int .i64 oc, .int .i64 oa]] _ _ from by rw [HOC.out, HOA.out]; exact stepShapes_c _ _ _ _ s ops[k] _ HCP.out.1 HOKS.out HOO.out)).mono ?_; rw [HRR.out]; rintro e w3 ht; obtain ⟨B1, n1, e1, B2, n2, e2, B3, n3, e3, B4, n4, e4, x, rfl, hf, hp⟩ := ht; have HST : As (StepAt wr w3 none (.slice B1 n1 e1) (.slice B2 n2 e2) (.slice B3 n3 e3) (.slice B4 n4 e4) x) := ⟨HCP.out.step hf hp⟩; have hwf := hf; clear hf hp)
            have he3 := HST.out.1
            refine hKv.out _ _ ⟨he3.cellOf c0, he3.cellOf c1, he3.cellOf c2, he3.cellOf c3, he3.cellOf c4, he3.cellOf m1, he3.cellOf m2⟩ (wpT.lin ?_)
            clear hKv Kv he3
            repeat (first | refine wpP.c0 (h := ?_))
            refine wpP.ev (h := fun Kv hKv => ?_)
            go_wp2_with fail
            have HST5 := As.mk (HST.out.ext ((Ext.rf w3).al (.cells #[.slice none 0 0, .slice none 0 0, .slice none 0 0, .slice none 0 0, .bool false] 91)))
            have hr6 := al_new w3 (.cells #[.slice none 0 0, .slice none 0 0, .slice none 0 0, .slice none 0 0, .bool false] 91)
            have hg6 : wr.heap.size ≤ w3.heap.size := HST.out.1.size
            generalize w3.heap.size = g6 at hr6 hg6 ⊢
            generalize w3.alloc (.cells #[.slice none 0 0, .slice none 0 0, .slice none 0 0, .slice none 0 0, .bool false] 91) = w5 at HST5 hr6 ⊢
            have he3 := HST5.out.1
            refine hKv.out _ _ ⟨he3.cellOf c0, he3.cellOf c1, he3.cellOf c2, he3.cellOf c3, he3.cellOf c4, he3.cellOf m1, he3.cellOf m2⟩ ?_
            clear hKv Kv he3 HST HCP hwf HX2 HXX
            have HR6 := As.mk hr6
            clear hr6
          case' br4 =>
            refine wpT.ev (h := fun Kv hKv => ?_)
            go_wp2_with fail
            have HX3 := As.mk (HX2.out.al (.cells #[.slice none 0 0, .slice none 0 0, .slice none 0 0, .slice none 0 0, .bool false] 91))
            have HCP4 := As.mk (HCP.out.ext ((Ext.rf w2).al (.cells #[.slice none 0 0, .slice none 0 0, .slice none 0 0, .slice none 0 0, .bool false] 91)))
            have hr6 := al_new w2 (.cells #[.slice none 0 0, .slice none 0 0, .slice none 0 0, .slice none 0 0, .bool false] 91)
            have hg6 : wr.heap.size ≤ w2.heap.size := HX2.out.size
            clear HCP HX2 HXX
            have HCP := HCP4
            clear HCP4
            generalize w2.heap.size = g6 at hr6 hg6 ⊢
            generalize w2.alloc (.cells #[.slice none 0 0, .slice none 0 0, .slice none 0 0, .slice none 0 0, .bool false] 91) = w4 at HX3 HCP hr6 ⊢
            have he3 := HX3.out
            refine hKv.out _ _ ⟨he3.cellOf c0, he3.cellOf c1, he3.cellOf c2, he3.cellOf c3, he3.cellOf c4, he3.cellOf m1, he3.cellOf m2⟩ (wpT.lin ?_)
            clear hKv Kv he3
            have HR4 := As.mk hr6
            clear hr6
            refine wpP.ev (h := fun Kv hKv => ?_)
            go_wp2_with (go_at_call 96; refine ((show Calls Try.prog 96 #[.agg #[C1, C2, C3, C4, .bool s.done], .agg #[.int .i64 oc, .int .i64 oa]] _ _ from by rw [HOC.out, HOA.out]; exact stepShapes_c _ _ _ _ s ops[k] _ HCP.out.1 HOKS.out HOO.out)).mono ?_; rw [HRR.out]; rintro e w3 ht; obtain ⟨B1, n1, e1, B2, n2, e2, B3, n3, e3, B4, n4, e4, x, rfl, hf, hp⟩ := ht; have HST : As (StepAt wr w3 none (.slice B1 n1 e1) (.slice B2 n2 e2) (.slice B3 n3 e3) (.slice B4 n4 e4) x) := ⟨HCP.out.step hf hp⟩; have hwf := hf; clear hf hp)
            have he3 := HST.out.1
            refine hKv.out _ _ ⟨he3.cellOf c0, he3.cellOf c1, he3.cellOf c2, he3.cellOf c3, he3.cellOf c4, he3.cellOf m1, he3.cellOf m2⟩ ?_
            clear hKv Kv he3
            have HR6 := As.mk (hwf.blk HR4.out (fun e => HCP.out.1.nb HR4.out e))
            have HST5 := HST
            clear HST HCP hwf HX3 HR4
            generalize w3 = w5 at HST5 HR6 ⊢
        case' br2 =>
          refine wpT.ev (h := fun Kv hKv => ?_)
          go_wp2_with fail
          have HEX : As (Ext wr (wr.alloc (.cells #[.slice none 0 0, .slice none 0 0, .slice none 0 0, .slice none 0 0, .bool false] 91)).drew) := ⟨((Ext.rf _).al _).dr⟩
          have hr6 : SB (wr.alloc (.cells #[.slice none 0 0, .slice none 0 0, .slice none 0 0, .slice none 0 0, .bool false] 91)).drew wr.heap.size (.slice none 0 0) (.slice none 0 0) (.slice none 0 0) (.slice none 0 0) false := al_new wr _
          obtain ⟨g6, hg6e⟩ : ∃ g6, g6 = wr.heap.size := ⟨_, rfl⟩
          rw [← hg6e] at hr6 ⊢
          have hg6 : wr.heap.size ≤ g6 := by omega
          clear hg6e
          generalize (wr.alloc (.cells #[.slice none 0 0, .slice none 0 0, .slice none 0 0, .slice none 0 0, .bool false] 91)).drew = w4 at HEX hr6 ⊢
          have he3 := HEX.out
          refine hKv.out _ _ ⟨he3.cellOf c0, he3.cellOf c1, he3.cellOf c2, he3.cellOf c3, he3.cellOf c4, he3.cellOf m1, he3.cellOf m2⟩ (wpT.lin ?_)
          clear hKv Kv he3
          have HR4 := As.mk hr6
          clear hr6
          refine wpP.ev (h := fun Kv hKv => ?_)
          go_wp2_with (go_at_call 97; refine (copyShapes_c _ _ _ _ s _ (HV.out.ext HEX.out) HOKS.out.siz).mono ?_; rintro e w2 ⟨C1, C2, C3, C4, rfl, hv, he, hf⟩; have HCP : As (CopyS wr w2 s C1 C2 C3 C4) := ⟨⟨hv, HEX.out.trans he, fun k hk => Nat.le_trans HEX.out.size (hf k hk)⟩⟩; have HX2 : As (Ext wr w2) := ⟨HEX.out.trans he⟩; have HXX := As.mk he; clear hv he hf)
          refine hKv.out _ _ ⟨HX2.out.cellOf c0, HX2.out.cellOf c1, HX2.out.cellOf c2, HX2.out.cellOf c3, HX2.out.cellOf c4, HX2.out.cellOf m1, HX2.out.cellOf m2⟩ ?_
          clear hKv Kv
          have HR5 := As.mk (HXX.out.blk HR4.out)
          clear HR4
          refine wpP.ev (h := fun Kv hKv => ?_)
          go_wp2_with (go_at_call 96; refine ((show Calls Try.prog 96 #[.agg #[C1, C2, C3, C4, .bool s.done], .agg #[.int .i64 oc, .int .i64 oa]] _ _ from by rw [HOC.out, HOA.out]; exact stepShapes_c _ _ _ _ s ops[k] _ HCP.out.1 HOKS.out HOO.out)).mono ?_; rw [HRR.out]; rintro e w3 ht; obtain ⟨B1, n1, e1, B2, n2, e2, B3, n3, e3, B4, n4, e4, x, rfl, hf, hp⟩ := ht; have HST : As (StepAt wr w3 none (.slice B1 n1 e1) (.slice B2 n2 e2) (.slice B3 n3 e3) (.slice B4 n4 e4) x) := ⟨HCP.out.step hf hp⟩; have hwf := hf; clear hf hp)
          have he3 := HST.out.1
          refine hKv.out _ _ ⟨he3.cellOf c0, he3.cellOf c1, he3.cellOf c2, he3.cellOf c3, he3.cellOf c4, he3.cellOf m1, he3.cellOf m2⟩ ?_
          clear hKv Kv he3
          have HR6 := As.mk (hwf.blk HR5.out (fun e => HCP.out.1.nb HR5.out e))
          have HST5 := HST
          clear HST HCP hwf HX2 HXX HR5 HEX
          generalize w3 = w5 at HST5 HR6 ⊢
        all_goals
          repeat (first | refine wpP.c0 (h := ?_))
          refine wpP.last (h := fun Kv hKv => ?_)
          have d0 := SB.c0 HR6.out; have d1 := SB.c1 HR6.out; have d2 := SB.c2 HR6.out; have d3 := SB.c3 HR6.out; have d4 := SB.c4 HR6.out
          have f0 := SB.fz HR6.out 0; have f1 := SB.fz HR6.out 1; have f2 := SB.fz HR6.out 2; have f3 := SB.fz HR6.out 3; have f4 := SB.fz HR6.out 4
          go_wp2_with fail
          refine hKv.out _ _ ?_
          clear hKv Kv hS d0 d1 d2 d3 d4 f0 f1 f2 f3 f4
          repeat (first | refine wpP.c0 (h := ?_))
          refine wpP.done ?_
          have hs5 := Fr.set5 (S := fun k => k = g6) (w := w5) (g := g6) rfl (.slice B1 n1 e1) (.slice B2 n2 e2) (.slice B3 n3 e3) (.slice B4 n4 e4) (.bool x)
          have hn6 := SB.all (.slice B1 n1 e1) (.slice B2 n2 e2) (.slice B3 n3 e3) (.slice B4 n4 e4) x HR6.out
          have hE6 := (Fr.then (S := fun _ => False) (Fr.ofExt HST5.out.1) hs5 (fun i hi => .inr (by omega))).ext (fun _ h => h.elim)
          generalize (((((w5.setCell ⟨g6, 0, none⟩ (.slice B1 n1 e1)).setCell ⟨g6, 1, none⟩ (.slice B2 n2 e2)).setCell ⟨g6, 2, none⟩ (.slice B3 n3 e3)).setCell ⟨g6, 3, none⟩ (.slice B4 n4 e4)).setCell ⟨g6, 4, none⟩ (.bool x)) = w6 at hE6 hn6 ⊢
          clear hs5 HST5 HR6 hn6 c0 c1 c2 c3 c4 m1 m2
          have hbg := hE6.blk HBG.out
          have hbr := hE6.blk HBR.out
          have c0 := SB.c0 hbg; have c1 := SB.c1 hbg; have c2 := SB.c2 hbg; have c3 := SB.c3 hbg; have c4 := SB.c4 hbg
          have d0 := SB.c0 hbr; have d1 := SB.c1 hbr; have d2 := SB.c2 hbr; have d3 := SB.c3 hbr; have d4 := SB.c4 hbr
          have f0 := SB.fz hbr 0; have f1 := SB.fz hbr 1; have f2 := SB.fz hbr 2; have f3 := SB.fz hbr 3; have f4 := SB.fz hbr 4
          have HBR6 := As.mk hbr
          have HE6 := As.mk hE6
          clear hbg hbr hE6
          go_wp2_with fail
          refine bodyPost_ret (results_cellt rfl _ _ w.heap.size _ rfl (loadS (SB.all _ _ _ _ _ HBR6.out))) rfl ?_
          have hrun : runS newS ops = (s, k) := by
            have h := runS_stop (ops.take k) (ops.drop (k + 1)) newS s ops[k] (by rw [HRN.out]) HRR.out
            have e : ops.take k ++ ops[k] :: ops.drop (k + 1) = ops := by rw [← List.drop_eq_getElem_cons HLT.out, List.take_append_drop]
            rw [e] at h
            rw [h, List.length_take, Nat.min_eq_left (Nat.le_of_lt HLT.out)]
          rw [hrun]
          have hv6 := HV.out.ext HE6.out
          have hs6 := Fr.set5 (S := fun k => k = w.heap.size) (w := w6) (g := w.heap.size) rfl (.slice AK s.kinds.length cK) (.slice AF s.full.length cF) (.slice AS s.stack.length cS) (.slice AM s.memo.length cM) (.bool s.done)
          exact ⟨_, _, _, _, rfl, hv6.fr hs6 (fun k hk e => hv6.nb HBR6.out (by rw [← e]; exact hk)), (Fr.then (S := fun _ => False) (Fr.ofExt (HEW.out.trans HE6.out)) hs6 (fun i hi => .inr (by omega))).ext (fun _ h => h.elim), HFW.out, HOKS.out⟩
      | some s1 =>
        go_upto_region 5 with fail
        refine region_tree (fun w' => w'.cell? ⟨g, 0, none⟩ = some (.slice AK s.kinds.length cK) ∧ w'.cell? ⟨g, 1, none⟩ = some (.slice AF s.full.length cF) ∧ w'.cell? ⟨g, 2, none⟩ = some (.slice AS s.stack.length cS) ∧ w'.cell? ⟨g, 3, none⟩ = some (.slice AM s.memo.length cM) ∧ w'.cell? ⟨g, 4, none⟩ = some (.bool s.done) ∧ w'.cell? (ad.add (k * 2)) = some (.int .i64 oc) ∧ w'.cell? ⟨(ad.add (k * 2)).block, (ad.add (k * 2)).off + 1, none⟩ = some (.int .i64 oa)) [11]
          (.fork [(0, 1), (2, 0), (3, 0), (4, 0), (5, 1)] 1 10 (.fork [] 6 10 (.lin [(7, 0), (8, 0), (9, 0), (10, 2), (11, 3), (12, 0)]) (.lin [(6, 2), (7, 0), (8, 0), (9, 0), (11, 3), (12, 0)])) (.lin [(1, 2), (6, 2), (7, 0), (8, 0), (9, 0), (11, 3), (12, 0)])) (by kernel_rfl) (by kernel_rfl) rfl (by kernel_rfl) (fun _ _ _ _ h => h) (wpT.fork ?_)
        have hS := And.intro c0 (And.intro c1 (And.intro c2 (And.intro c3 (And.intro c4 (And.intro m1 m2)))))
        repeat (first | refine wpP.c0 (h := ?_) | refine wpP.c1 (w := wr.drew) hS (h := ?_))
        refine wpP.fork ?bs1 ?bs2
        case' bs1 =>
          refine wpT.ev (h := fun Kv hKv => ?_)
          have HEX : As (Ext wr wr.drew) := ⟨(Ext.rf _).dr⟩
          go_wp2_with (go_at_call 97; refine (copyShapes_c _ _ _ _ s _ (HV.out.ext HEX.out) HOKS.out.siz).mono ?_; rintro e w2 ⟨C1, C2, C3, C4, rfl, hv, he, hf⟩; have HCP : As (CopyS wr w2 s C1 C2 C3 C4) := ⟨⟨hv, HEX.out.trans he, fun k hk => Nat.le_trans HEX.out.size (hf k hk)⟩⟩; have HX2 : As (Ext wr w2) := ⟨HEX.out.trans he⟩; have HXX := As.mk he; clear hv he hf)
          refine hKv.out _ _ ⟨HX2.out.cellOf c0, HX2.out.cellOf c1, HX2.out.cellOf c2, HX2.out.cellOf c3, HX2.out.cellOf c4, HX2.out.cellOf m1, HX2.out.cellOf m2⟩ (wpT.fork (wpP.fork ?bs3 ?bs4))
          clear hKv Kv
          case' bs3 =>
            refine wpT.ev (h := fun Kv hKv => ?_)
            go_wp2_with (go_at_call 96; refine ((show Calls Try.prog 96 #[.agg #[C1, C2, C3, C4, .bool s.done], .agg #[.int .i64 oc, .int .i64 oa]] _ _ from by rw [HOC.out, HOA.out]; exact stepShapes_c _ _ _ _ s ops[k] _ HCP.out.1 HOKS.out HOO.out)).mono ?_; rw [HRR.out]; rintro e w3 ht; obtain ⟨B1, n1, e1, B2, n2, e2, B3, n3, e3, B4, n4, e4, x, rfl, hf, hp⟩ := ht; have HST : As (StepAt wr w3 (some s1) (.slice B1 n1 e1) (.slice B2 n2 e2) (.slice B3 n3 e3) (.slice B4 n4 e4) x) := ⟨HCP.out.step hf hp⟩; have hwf := hf; clear hf hp)
            have he3 := HST.out.1
            refine hKv.out _ _ ⟨he3.cellOf c0, he3.cellOf c1, he3.cellOf c2, he3.cellOf c3, he3.cellOf c4, he3.cellOf m1, he3.cellOf m2⟩ (wpT.lin ?_)
            clear hKv Kv he3
            repeat (first | refine wpP.c0 (h := ?_))
            refine wpP.ev (h := fun Kv hKv => ?_)
            go_wp2_with fail
            have HST5 := As.mk (HST.out.ext ((Ext.rf w3).al (.cells #[.slice none 0 0, .slice none 0 0, .slice none 0 0, .slice none 0 0, .bool false] 91)))
            have hr6 := al_new w3 (.cells #[.slice none 0 0, .slice none 0 0, .slice none 0 0, .slice none 0 0, .bool false] 91)
            have hg6 : wr.heap.size ≤ w3.heap.size := HST.out.1.size
            generalize w3.heap.size = g6 at hr6 hg6 ⊢
            generalize w3.alloc (.cells #[.slice none 0 0, .slice none 0 0, .slice none 0 0, .slice none 0 0, .bool false] 91) = w5 at HST5 hr6 ⊢
            have he3 := HST5.out.1
            refine hKv.out _ _ ⟨he3.cellOf c0, he3.cellOf c1, he3.cellOf c2, he3.cellOf c3, he3.cellOf c4, he3.cellOf m1, he3.cellOf m2⟩ ?_
            clear hKv Kv he3 HST HCP hwf HX2 HXX
            have HR6 := As.mk hr6
            clear hr6
          case' bs4 =>
            refine wpT.ev (h := fun Kv hKv => ?_)
            go_wp2_with fail
            have HX3 := As.mk (HX2.out.al (.cells #[.slice none 0 0, .slice none 0 0, .slice none 0 0, .slice none 0 0, .bool false] 91))
            have HCP4 := As.mk (HCP.out.ext ((Ext.rf w2).al (.cells #[.slice none 0 0, .slice none 0 0, .slice none 0 0, .slice none 0 0, .bool false] 91)))
            have hr6 := al_new w2 (.cells #[.slice none 0 0, .slice none 0 0, .slice none 0 0, .slice none 0 0, .bool false] 91)
            have hg6 : wr.heap.size ≤ w2.heap.size := HX2.out.size
            clear HCP HX2 HXX
            have HCP := HCP4
            clear HCP4
            generalize w2.heap.size = g6 at hr6 hg6 ⊢
            generalize w2.alloc (.cells #[.slice none 0 0, .slice none 0 0, .slice none 0 0, .slice none 0 0, .bool false] 91) = w4 at HX3 HCP hr6 ⊢
            have he3 := HX3.out
            refine hKv.out _ _ ⟨he3.cellOf c0, he3.cellOf c1, he3.cellOf c2, he3.cellOf c3, he3.cellOf c4, he3.cellOf m1, he3.cellOf m2⟩ (wpT.lin ?_)
            clear hKv Kv he3
            have HR4 := As.mk hr6
            clear hr6
            refine wpP.ev (h := fun Kv hKv => ?_)
            go_wp2_with (go_at_call 96; refine ((show Calls Try.prog 96 #[.agg #[C1, C2, C3, C4, .bool s.done], .agg #[.int .i64 oc, .int .i64 oa]] _ _ from by rw [HOC.out, HOA.out]; exact stepShapes_c _ _ _ _ s ops[k] _ HCP.out.1 HOKS.out HOO.out)).mono ?_; rw [HRR.out]; rintro e w3 ht; obtain ⟨B1, n1, e1, B2, n2, e2, B3, n3, e3, B4, n4, e4, x, rfl, hf, hp⟩ := ht; have HST : As (StepAt wr w3 (some s1) (.slice B1 n1 e1) (.slice B2 n2 e2) (.slice B3 n3 e3) (.slice B4 n4 e4) x) := ⟨HCP.out.step hf hp⟩; have hwf := hf; clear hf hp)
            have he3 := HST.out.1
            refine hKv.out _ _ ⟨he3.cellOf c0, he3.cellOf c1, he3.cellOf c2, he3.cellOf c3, he3.cellOf c4, he3.cellOf m1, he3.cellOf m2⟩ ?_
            clear hKv Kv he3
            have HR6 := As.mk (hwf.blk HR4.out (fun e => HCP.out.1.nb HR4.out e))
            have HST5 := HST
            clear HST HCP hwf HX3 HR4
            generalize w3 = w5 at HST5 HR6 ⊢
        case' bs2 =>
          refine wpT.ev (h := fun Kv hKv => ?_)
          go_wp2_with fail
          have HEX : As (Ext wr (wr.alloc (.cells #[.slice none 0 0, .slice none 0 0, .slice none 0 0, .slice none 0 0, .bool false] 91)).drew) := ⟨((Ext.rf _).al _).dr⟩
          have hr6 : SB (wr.alloc (.cells #[.slice none 0 0, .slice none 0 0, .slice none 0 0, .slice none 0 0, .bool false] 91)).drew wr.heap.size (.slice none 0 0) (.slice none 0 0) (.slice none 0 0) (.slice none 0 0) false := al_new wr _
          obtain ⟨g6, hg6e⟩ : ∃ g6, g6 = wr.heap.size := ⟨_, rfl⟩
          rw [← hg6e] at hr6 ⊢
          have hg6 : wr.heap.size ≤ g6 := by omega
          clear hg6e
          generalize (wr.alloc (.cells #[.slice none 0 0, .slice none 0 0, .slice none 0 0, .slice none 0 0, .bool false] 91)).drew = w4 at HEX hr6 ⊢
          have he3 := HEX.out
          refine hKv.out _ _ ⟨he3.cellOf c0, he3.cellOf c1, he3.cellOf c2, he3.cellOf c3, he3.cellOf c4, he3.cellOf m1, he3.cellOf m2⟩ (wpT.lin ?_)
          clear hKv Kv he3
          have HR4 := As.mk hr6
          clear hr6
          refine wpP.ev (h := fun Kv hKv => ?_)
          go_wp2_with (go_at_call 97; refine (copyShapes_c _ _ _ _ s _ (HV.out.ext HEX.out) HOKS.out.siz).mono ?_; rintro e w2 ⟨C1, C2, C3, C4, rfl, hv, he, hf⟩; have HCP : As (CopyS wr w2 s C1 C2 C3 C4) := ⟨⟨hv, HEX.out.trans he, fun k hk => Nat.le_trans HEX.out.size (hf k hk)⟩⟩; have HX2 : As (Ext wr w2) := ⟨HEX.out.trans he⟩; have HXX := As.mk he; clear hv he hf)
          refine hKv.out _ _ ⟨HX2.out.cellOf c0, HX2.out.cellOf c1, HX2.out.cellOf c2, HX2.out.cellOf c3, HX2.out.cellOf c4, HX2.out.cellOf m1, HX2.out.cellOf m2⟩ ?_
          clear hKv Kv
          have HR5 := As.mk (HXX.out.blk HR4.out)
          clear HR4
          refine wpP.ev (h := fun Kv hKv => ?_)
          go_wp2_with (go_at_call 96; refine ((show Calls Try.prog 96 #[.agg #[C1, C2, C3, C4, .bool s.done], .agg #[.int .i64 oc, .int .i64 oa]] _ _ from by rw [HOC.out, HOA.out]; exact stepShapes_c _ _ _ _ s ops[k] _ HCP.out.1 HOKS.out HOO.out)).mono ?_; rw [HRR.out]; rintro e w3 ht; obtain ⟨B1, n1, e1, B2, n2, e2, B3, n3, e3, B4, n4, e4, x, rfl, hf, hp⟩ := ht; have HST : As (StepAt wr w3 (some s1) (.slice B1 n1 e1) (.slice B2 n2 e2) (.slice B3 n3 e3) (.slice B4 n4 e4) x) := ⟨HCP.out.step hf hp⟩; have hwf := hf; clear hf hp)
          have he3 := HST.out.1
          refine hKv.out _ _ ⟨he3.cellOf c0, he3.cellOf c1, he3.cellOf c2, he3.cellOf c3, he3.cellOf c4, he3.cellOf m1, he3.cellOf m2⟩ ?_
          clear hKv Kv he3
          have HR6 := As.mk (hwf.blk HR5.out (fun e => HCP.out.1.nb HR5.out e))
          have HST5 := HST
          clear HST HCP hwf HX2 HXX HR5 HEX
          generalize w3 = w5 at HST5 HR6 ⊢
        all_goals
          repeat (first | refine wpP.c0 (h := ?_))
          refine wpP.last (h := fun Kv hKv => ?_)
          have d0 := SB.c0 HR6.out; have d1 := SB.c1 HR6.out; have d2 := SB.c2 HR6.out; have d3 := SB.c3 HR6.out; have d4 := SB.c4 HR6.out
          have f0 := SB.fz HR6.out 0; have f1 := SB.fz HR6.out 1; have f2 := SB.fz HR6.out 2; have f3 := SB.fz HR6.out 3; have f4 := SB.fz HR6.out 4
          go_wp2_with fail
          refine hKv.out _ _ ?_
          clear hKv Kv hS d0 d1 d2 d3 d4 f0 f1 f2 f3 f4
          repeat (first | refine wpP.c0 (h := ?_))
          refine wpP.done ?_
          have hs5 := Fr.set5 (S := fun k => k = g6) (w := w5) (g := g6) rfl (.slice B1 n1 e1) (.slice B2 n2 e2) (.slice B3 n3 e3) (.slice B4 n4 e4) (.bool x)
          have hn6 := SB.all (.slice B1 n1 e1) (.slice B2 n2 e2) (.slice B3 n3 e3) (.slice B4 n4 e4) x HR6.out
          have hE6 := (Fr.then (S := fun _ => False) (Fr.ofExt HST5.out.1) hs5 (fun i hi => .inr (by omega))).ext (fun _ h => h.elim)
          obtain ⟨hxd, hvs, hfs⟩ := HST5.out.2 s1 rfl
          have hv6 := hvs.fr hs5 (fun k hk e => hvs.nb HR6.out (by rw [← e]; exact hk))
          generalize (((((w5.setCell ⟨g6, 0, none⟩ (.slice B1 n1 e1)).setCell ⟨g6, 1, none⟩ (.slice B2 n2 e2)).setCell ⟨g6, 2, none⟩ (.slice B3 n3 e3)).setCell ⟨g6, 3, none⟩ (.slice B4 n4 e4)).setCell ⟨g6, 4, none⟩ (.bool x)) = w6 at hE6 hn6 hv6 ⊢
          clear hs5 HST5 HR6 hvs c0 c1 c2 c3 c4 m1 m2
          subst hxd
          have hbg := hE6.blk HBG.out
          have hbr := hE6.blk HBR.out
          have c0 := SB.c0 hn6; have c1 := SB.c1 hn6; have c2 := SB.c2 hn6; have c3 := SB.c3 hn6; have c4 := SB.c4 hn6
          have d0 := SB.c0 hbg; have d1 := SB.c1 hbg; have d2 := SB.c2 hbg; have d3 := SB.c3 hbg; have d4 := SB.c4 hbg
          have f0 := SB.fz hbg 0; have f1 := SB.fz hbg 1; have f2 := SB.fz hbg 2; have f3 := SB.fz hbg 3; have f4 := SB.fz hbg 4
          have HBG6 := As.mk hbg
          have HBR6 := As.mk hbr
          have HE6 := As.mk hE6
          have HV6 := As.mk hv6
          have HFS := As.mk hfs
          clear hbg hbr hE6 hn6 hv6 hfs
          go_wp2_with fail
          go_roundw
          case measure => simp only [intOf]; omega
          case rel =>
            have hs6 := Fr.set5 (S := fun k => k = g) (w := w6) (g := g) rfl (.slice B1 n1 e1) (.slice B2 n2 e2) (.slice B3 n3 e3) (.slice B4 n4 e4) (.bool s1.done)
            have hrun : runS newS (ops.take (k + 1)) = (s1, (ops.take (k + 1)).length) := by
              rw [List.take_succ_eq_append_getElem HLT.out]
              have h := runS_snoc (ops.take k) newS s ops[k] (by rw [HRN.out])
              rw [HRR.out] at h
              rw [h]; simp; have := HLT.out; omega
            refine ⟨k + 1, by omega, by go_num, ⟨_, _, _, _, s1, hrun, HOKS.out.step _ HOO.out HRR.out, SB.all _ _ _ _ _ HBG6.out, hs6.blk HBR6.out (by omega), HV6.out.fr hs6 (fun k hk e => HV6.out.nb HBG6.out (by rw [← e]; exact hk)), (Fr.then (S := fun _ => False) (Fr.ofExt (HEW.out.trans HE6.out)) hs6 (fun i hi => .inr (by omega))).ext (fun _ h => h.elim), fun k hk => Nat.le_trans HEW.out.size (HFS.out k hk), hgw⟩⟩
    · have hkl : k = ops.length := by omega
      subst hkl
      have d0 := SB.c0 HBR.out; have d1 := SB.c1 HBR.out; have d2 := SB.c2 HBR.out; have d3 := SB.c3 HBR.out; have d4 := SB.c4 HBR.out
      have f0 := SB.fz HBR.out 0; have f1 := SB.fz HBR.out 1; have f2 := SB.fz HBR.out 2; have f3 := SB.fz HBR.out 3; have f4 := SB.fz HBR.out 4
      go_wp2_with fail
      refine bodyPost_ret (results_cellt rfl _ _ w.heap.size _ rfl (loadS (SB.all _ _ _ _ _ HBR.out))) rfl ?_
      have hrun : runS newS ops = (s, ops.length) := by have := HRN.out; rwa [List.take_length] at this
      rw [hrun]
      have hs6 := Fr.set5 (S := fun k => k = w.heap.size) (w := wr) (g := w.heap.size) rfl (.slice AK s.kinds.length cK) (.slice AF s.full.length cF) (.slice AS s.stack.length cS) (.slice AM s.memo.length cM) (.bool s.done)
      exact ⟨_, _, _, _, rfl, HV.out.fr hs6 (fun k hk e => HV.out.nb HBR.out (by rw [← e]; exact hk)), (Fr.then (S := fun _ => False) (Fr.ofExt HEW.out) hs6 (fun i hi => .inr (by omega))).ext (fun _ h => h.elim), HFW.out, HOKS.out⟩
end Go.Proofs.Ytgenllcfpjgklaa.C
