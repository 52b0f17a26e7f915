/- The reference's machine: a program. -/
import Derived.Test.YtcodbpjaamggeaaMh
set_option linter.unusedVariables false
set_option linter.unusedSimpArgs false
namespace Go.Proofs.Ytcodbpjaamggeaa.C
open Go.RowKit Go.Proofs.Ytcodbpjaamggeaa.W Go.Proofs.Ytcodbpjaamggeaa.P

/-- What stands between the orders. -/
def RunQ (B : Nat → Prop) (m0 : Mc) (ops : List Opr) (w : World) (g k : Nat) (wr : World) : Prop :=
  ∃ l vN vS vM m, runP m0 (ops.take k) = (m, (ops.take k).length) ∧ okM (301 * k) m ∧ (∀ n ∈ m.nodes, 0 ≤ n.kind) ∧ MB wr g vN vS vM m.done ∧ MB wr (g + 1) (.slice none 0 0) (.slice none 0 0) (.slice none 0 0) false ∧ MW B wr l vN vS vM m ∧ Ext w wr ∧ g = w.heap.size
theorem MW.al1 {B w l vN vS vM m} (h : MW B w l vN vS vM m) (o : Obj) : MW (fun k => B k ∧ k ≠ w.heap.size) (w.alloc o) l vN vS vM m := by
  have h1 := h.ext ((Ext.rf w).al o)
  exact ⟨h1.nr, h1.ns, h1.sr, h1.me, fun k hk => ⟨h.lo k hk, by have := h.lt k hk; omega⟩, h.kk, h.ks, h.km, h.sm, fun k hk => by rw [al_size] at hk; exact ⟨h.up k (by omega), by omega⟩⟩
/-- An order was tried on a copy. -/
def StepM (wr w5 : World) (r : Option Mc) (vN vS vM : Value) (x : Bool) : Prop := Ext wr w5 ∧ ∀ m', r = some m' → x = m'.done ∧ ∃ l, MW (wr.heap.size ≤ ·) w5 l vN vS vM m'
theorem StepM.ext {wr w2 w3 r vN vS vM x} (h : StepM wr w2 r vN vS vM x) (e : Ext w2 w3) : StepM wr w3 r vN vS vM x :=
  ⟨h.1.trans e, fun m' hs => ⟨(h.2 m' hs).1, (h.2 m' hs).2.imp (fun _ hv => hv.ext e)⟩⟩
theorem stepM_of {wr w2 w3 r vN vS vM x} {b : Nat → Prop} (hE : Ext wr w2) (hb : ∀ k, b k → wr.heap.size ≤ k) (hf : Fr b w2 w3) (hp : ∀ m', r = some m' → x = m'.done ∧ ∃ l, MW b w3 l vN vS vM m') : StepM wr w3 r vN vS vM x :=
  ⟨(Fr.then (S := fun _ => False) (Fr.ofExt hE) hf (fun i hi => .inr (hb i hi))).ext (fun _ h => h.elim), fun m' hs => ⟨(hp m' hs).1, (hp m' hs).2.imp (fun _ hv => hv.base (fun k _ hk => hb k hk) (fun k hk => Nat.le_trans (Nat.le_trans hE.size hf.size) hk))⟩⟩
set_option maxRecDepth 100000 in
set_option maxHeartbeats 4000000 in
theorem srun_c {B w l vN vS vM m0} (h : MW B w l vN vS vM m0) (hok : okM 0 m0) (hkz : ∀ n ∈ m0.nodes, 0 ≤ n.kind) (A : Option Addr) (c : Nat) (ops : List Opr) (hr : RdO w A ops) (hops : ops.all okO = true) (hol : ops.length ≤ 300) :
    Calls Try.prog 106 #[.agg #[vN, vS, vM, .bool m0.done], .slice A ops.length c] w fun e w' => ∃ l AN cN AS cS AM cM, e = .returned (.tuple #[.agg #[.slice AN (runP m0 ops).1.nodes.length cN, .slice AS (runP m0 ops).1.stack.length cS, .slice AM (runP m0 ops).1.memo.length cM, .bool (runP m0 ops).1.done], .int .i64 (runP m0 ops).2]) ∧ MW B w' l (.slice AN (runP m0 ops).1.nodes.length cN) (.slice AS (runP m0 ops).1.stack.length cS) (.slice AM (runP m0 ops).1.memo.length cM) (runP m0 ops).1 ∧ Ext w w' ∧ okM (301 * ops.length) (runP m0 ops).1 := by
  obtain ⟨AN, cN, AS, cS, AM, cM, rfl, rfl, rfl, hrm, hcS⟩ := h.rm (by have := hok.nl; omega) (by have := hok.sl; omega) (by have := hok.ml; omega)
  have hlen := hr.1
  have HR := As.mk hr
  have HOP := As.mk hops
  have hq : RunQ B m0 ops w w.heap.size 0 ((w.alloc (.cells #[.slice AN m0.nodes.length cN, .slice AS m0.stack.length cS, .slice AM m0.memo.length cM, .bool m0.done] 64)).alloc (.cells #[.slice none 0 0, .slice none 0 0, .slice none 0 0, .bool false] 64)) :=
    ⟨l, _, _, _, m0, rfl, hok, hkz, ((Ext.rf _).al _).blk (al_new _ _), by have := al_new (w.alloc (.cells #[.slice AN m0.nodes.length cN, .slice AS m0.stack.length cS, .slice AM m0.memo.length cM, .bool m0.done] 64)) (.cells #[.slice none 0 0, .slice none 0 0, .slice none 0 0, .bool false] 64); rw [al_size] at this; exact this, h.ext (((Ext.rf w).al _).al _), ((Ext.rf w).al _).al _, rfl⟩
  have HQ := As.mk hq
  clear hr hops hq h hok hkz hrm
  go_enter Try.func106, Try.ntmps106
  go_upto_region 1 with fail
  obtain ⟨g, hg⟩ : ∃ g, g = w.heap.size := ⟨_, rfl⟩
  rw [← hg] at HQ ⊢
  clear hg
  generalize (w.alloc (.cells #[.slice AN m0.nodes.length cN, .slice AS m0.stack.length cS, .slice AM m0.memo.length cM, .bool m0.done] 64)).alloc (.cells #[.slice none 0 0, .slice none 0 0, .slice none 0 0, .bool false] 64) = w0 at HQ ⊢
  go_wp2_with fail
  go_loopw [6] (fun i wr => ∃ k : Nat, k ≤ ops.length ∧ i = .int .i64 k ∧ As (RunQ B m0 ops w g k wr)) (fun i _ => ops.length - (intOf i).toNat)
  case atStart => exact ⟨0, Nat.zero_le _, rfl, HQ⟩
  case round =>
    obtain ⟨k, hk, rfl, hst⟩ := hrel
    obtain ⟨lm, vN, vS, vM, m, h1, h2, h3, h4, h5, h6, h7, hgw⟩ := hst.out
    clear hcS
    obtain ⟨AN', cN', AS', cS', AM', cM', rfl, rfl, rfl, hrm, -⟩ := h6.rm (by have := h2.nl; omega) (by have := h2.sl; omega) (by have := h2.ml; omega)
    have HRN := As.mk h1
    have HOKS := As.mk h2
    have HKZ := As.mk h3
    have HBG := As.mk h4
    have HBR := As.mk h5
    have HV := As.mk h6
    have HEW := As.mk h7
    have HRM := As.mk hrm
    have HG := As.mk hgw
    have HKB := As.mk (show ∀ n ∈ m.nodes, n.kids.length ≤ 1000000 from fun n hn => by have := (h2.ki n hn).1; omega)
    have hnl := h2.nl
    have hkb : 301 * k ≤ 900000 := by omega
    have hg1 : g + 1 < wr.heap.size := (Array.getElem?_eq_some_iff.1 h5).1
    clear hst h1 h2 h3 h4 h5 h6 h7 HQ hrm hgw
    have c0 := MB.c0 HBG.out; have c1 := MB.c1 HBG.out; have c2 := MB.c2 HBG.out; have c3 := MB.c3 HBG.out
    by_cases hlt : k < ops.length
    · obtain ⟨ad, rfl, m1, m2⟩ := (HR.out.ext HEW.out).2 k hlt
      obtain ⟨oc, hoc⟩ : ∃ oc, oc = ops[k].code := ⟨_, rfl⟩
      obtain ⟨oa, hoa⟩ : ∃ oa, oa = ops[k].arg := ⟨_, rfl⟩
      rw [← hoc] at m1
      rw [← hoa] at m2
      have HOO : As (okO ops[k] = true) := ⟨List.all_eq_true.1 HOP.out _ (List.getElem_mem hlt)⟩
      have HOC := As.mk hoc
      have HOA := As.mk hoa
      have HLT := As.mk hlt
      have q1 : (k : Int) < ops.length := by omega
      obtain ⟨r, hr⟩ : ∃ r, stepP m ops[k] = r := ⟨_, rfl⟩
      have HRR := As.mk hr
      clear hoc hoa hr
      cases r with
      | none =>
        go_upto_region 4 with fail
        refine region_tree (fun w' => w'.cell? ⟨g, 0, none⟩ = some (.slice AN' m.nodes.length cN') ∧ w'.cell? ⟨g, 1, none⟩ = some (.slice AS' m.stack.length cS') ∧ w'.cell? ⟨g, 2, none⟩ = some (.slice AM' m.memo.length cM') ∧ w'.cell? ⟨g, 3, none⟩ = some (.bool m.done) ∧ w'.cell? (ad.add (k * 2)) = some (.int .i64 oc) ∧ w'.cell? ⟨(ad.add (k * 2)).block, (ad.add (k * 2)).off + 1, none⟩ = some (.int .i64 oa)) [11]
          (.fork [(0, 1), (2, 0), (3, 0), (4, 0), (5, 1)] 1 10 (.fork [] 6 10 (.lin [(7, 0), (8, 0), (9, 0), (10, 2), (11, 3), (12, 0)]) (.lin [(6, 2), (7, 0), (8, 0), (9, 0), (11, 3), (12, 0)])) (.lin [(1, 2), (6, 2), (7, 0), (8, 0), (9, 0), (11, 3), (12, 0)])) (by kernel_rfl) (by kernel_rfl) rfl (by kernel_rfl) (fun _ _ _ _ h => h) (wpT.fork ?_)
        have hS := And.intro c0 (And.intro c1 (And.intro c2 (And.intro c3 (And.intro m1 m2))))
        repeat (first | refine wpP.c0 (h := ?_) | refine wpP.c1 (w := wr.drew) hS (h := ?_))
        have HEX : As (Ext wr wr.drew) := ⟨(Ext.rf _).dr⟩
        generalize wr.drew = wx at HEX ⊢
        refine wpP.fork ?br1 ?br2
        case' br1 =>
          refine wpT.ev (h := fun Kv hKv => ?_)
          go_wp2_with (go_at_call 118; refine (scopyMachine_c _ _ _ _ _ _ m _ (HRM.out.ext HEX.out) (by omega) HKB.out).mono ?_; rintro e w2 ⟨l2, C1, p1, o1, C2, p2, o2, C3, p3, o3, rfl, hv, hf⟩; have hx2 := HEX.out.trans (hf.ext (fun _ hk => hk)); have HCP := As.mk hv; have HX2 := As.mk hx2; have HXX := As.mk (hf.ext (fun _ hk => hk)); clear hv hf hx2)
          refine hKv.out _ _ ⟨HX2.out.cellOf c0, HX2.out.cellOf c1, HX2.out.cellOf c2, HX2.out.cellOf c3, HX2.out.cellOf m1, HX2.out.cellOf m2⟩ (wpT.fork (wpP.fork ?br3 ?br4))
          clear hKv Kv
          case' br3 =>
            have HBB : As (∀ k, (wx.heap.size ≤ k) → wr.heap.size ≤ k) := ⟨fun k hk => Nat.le_trans HEX.out.size hk⟩
            refine wpT.ev (h := fun Kv hKv => ?_)
            go_wp2_with (go_at_call 123; refine ((show Calls Try.prog 123 #[.agg #[.slice C1 p1 o1, .slice C2 p2 o2, .slice C3 p3 o3, .bool m.done], .agg #[.int .i64 oc, .int .i64 oa]] _ _ from by rw [HOC.out, HOA.out]; exact mstep_c HCP.out HOKS.out hkb HKZ.out ops[k] HOO.out)).mono ?_; rw [HRR.out]; rintro e w3 ht; obtain ⟨B1, n1, e1, B2, n2, e2, B3, n3, e3, x, rfl, hf, hp⟩ := ht; have HST : As (StepM wr w3 none (.slice B1 n1 e1) (.slice B2 n2 e2) (.slice B3 n3 e3) x) := ⟨stepM_of HX2.out HBB.out hf hp⟩; have hwf := hf; clear hf hp)
            have he3 := HST.out.1
            refine hKv.out _ _ ⟨he3.cellOf c0, he3.cellOf c1, he3.cellOf c2, he3.cellOf c3, he3.cellOf m1, he3.cellOf m2⟩ (wpT.lin ?_)
            clear hKv Kv he3
            repeat (first | refine wpP.c0 (h := ?_))
            refine wpP.ev (h := fun Kv hKv => ?_)
            go_wp2_with fail
            have HST5 := As.mk (HST.out.ext ((Ext.rf w3).al (.cells #[.slice none 0 0, .slice none 0 0, .slice none 0 0, .bool false] 64)))
            have hr6 : MB _ _ (.slice none 0 0) (.slice none 0 0) (.slice none 0 0) false := al_new w3 (.cells #[.slice none 0 0, .slice none 0 0, .slice none 0 0, .bool false] 64)
            have hg6 : wr.heap.size ≤ w3.heap.size := HST.out.1.size
            generalize w3.heap.size = g6 at hr6 hg6 ⊢
            generalize w3.alloc (.cells #[.slice none 0 0, .slice none 0 0, .slice none 0 0, .bool false] 64) = w5 at HST5 hr6 ⊢
            have he3 := HST5.out.1
            refine hKv.out _ _ ⟨he3.cellOf c0, he3.cellOf c1, he3.cellOf c2, he3.cellOf c3, he3.cellOf m1, he3.cellOf m2⟩ ?_
            clear hKv Kv he3 HST HCP hwf HX2 HXX HBB
            have HR6 := As.mk hr6
            clear hr6
          case' br4 =>
            refine wpT.ev (h := fun Kv hKv => ?_)
            go_wp2_with fail
            have HX3 := As.mk (HX2.out.al (.cells #[.slice none 0 0, .slice none 0 0, .slice none 0 0, .bool false] 64))
            have HCP4 := As.mk (HCP.out.al1 (.cells #[.slice none 0 0, .slice none 0 0, .slice none 0 0, .bool false] 64))
            have hr6 : MB _ _ (.slice none 0 0) (.slice none 0 0) (.slice none 0 0) false := al_new w2 (.cells #[.slice none 0 0, .slice none 0 0, .slice none 0 0, .bool false] 64)
            have hg6 : wr.heap.size ≤ w2.heap.size := HX2.out.size
            clear HCP HX2 HXX
            have HCP := HCP4
            clear HCP4
            generalize w2.heap.size = g6 at hr6 hg6 HCP ⊢
            generalize w2.alloc (.cells #[.slice none 0 0, .slice none 0 0, .slice none 0 0, .bool false] 64) = w4 at HX3 HCP hr6 ⊢
            have HBB : As (∀ k, (wx.heap.size ≤ k ∧ k ≠ g6) → wr.heap.size ≤ k) := ⟨fun k hk => Nat.le_trans HEX.out.size hk.1⟩
            have he3 := HX3.out
            refine hKv.out _ _ ⟨he3.cellOf c0, he3.cellOf c1, he3.cellOf c2, he3.cellOf c3, he3.cellOf m1, he3.cellOf m2⟩ (wpT.lin ?_)
            clear hKv Kv he3
            have HX2 := HX3
            have HR4 := As.mk hr6
            clear hr6
            refine wpP.ev (h := fun Kv hKv => ?_)
            go_wp2_with (go_at_call 123; refine ((show Calls Try.prog 123 #[.agg #[.slice C1 p1 o1, .slice C2 p2 o2, .slice C3 p3 o3, .bool m.done], .agg #[.int .i64 oc, .int .i64 oa]] _ _ from by rw [HOC.out, HOA.out]; exact mstep_c HCP.out HOKS.out hkb HKZ.out ops[k] HOO.out)).mono ?_; rw [HRR.out]; rintro e w3 ht; obtain ⟨B1, n1, e1, B2, n2, e2, B3, n3, e3, x, rfl, hf, hp⟩ := ht; have HST : As (StepM wr w3 none (.slice B1 n1 e1) (.slice B2 n2 e2) (.slice B3 n3 e3) x) := ⟨stepM_of HX2.out HBB.out hf hp⟩; have hwf := hf; clear hf hp)
            have he3 := HST.out.1
            refine hKv.out _ _ ⟨he3.cellOf c0, he3.cellOf c1, he3.cellOf c2, he3.cellOf c3, he3.cellOf m1, he3.cellOf m2⟩ ?_
            clear hKv Kv he3
            have HR6 := As.mk (hwf.blk HR4.out (fun e => e.2 rfl))
            have HST5 := HST
            clear HST HCP hwf HX3 HX2 HR4 HBB
            generalize w3 = w5 at HST5 HR6 ⊢
        case' br2 =>
          refine wpT.ev (h := fun Kv hKv => ?_)
          go_wp2_with fail
          have hex := HEX.out.al (.cells #[.slice none 0 0, .slice none 0 0, .slice none 0 0, .bool false] 64)
          have hr6 : MB _ _ (.slice none 0 0) (.slice none 0 0) (.slice none 0 0) false := al_new wx (.cells #[.slice none 0 0, .slice none 0 0, .slice none 0 0, .bool false] 64)
          have hg6 : wr.heap.size ≤ wx.heap.size := HEX.out.size
          have hlt6 : wx.heap.size < (wx.alloc (.cells #[.slice none 0 0, .slice none 0 0, .slice none 0 0, .bool false] 64)).heap.size := by rw [al_size]; omega
          clear HEX
          have HEX := As.mk hex
          clear hex
          generalize wx.heap.size = g6 at hr6 hg6 hlt6 ⊢
          generalize wx.alloc (.cells #[.slice none 0 0, .slice none 0 0, .slice none 0 0, .bool false] 64) = w4 at HEX hr6 hlt6 ⊢
          have HL6 := As.mk hlt6
          clear hlt6
          have HBB : As (∀ k, (w4.heap.size ≤ k) → wr.heap.size ≤ k) := ⟨fun k hk => Nat.le_trans HEX.out.size hk⟩
          have he3 := HEX.out
          refine hKv.out _ _ ⟨he3.cellOf c0, he3.cellOf c1, he3.cellOf c2, he3.cellOf c3, he3.cellOf m1, he3.cellOf m2⟩ (wpT.lin ?_)
          clear hKv Kv he3
          have HR4 := As.mk hr6
          clear hr6
          refine wpP.ev (h := fun Kv hKv => ?_)
          go_wp2_with (go_at_call 118; refine (scopyMachine_c _ _ _ _ _ _ m _ (HRM.out.ext HEX.out) (by omega) HKB.out).mono ?_; rintro e w2 ⟨l2, C1, p1, o1, C2, p2, o2, C3, p3, o3, rfl, hv, hf⟩; have hx2 := HEX.out.trans (hf.ext (fun _ hk => hk)); have HCP := As.mk hv; have HX2 := As.mk hx2; have HXX := As.mk (hf.ext (fun _ hk => hk)); clear hv hf hx2)
          refine hKv.out _ _ ⟨HX2.out.cellOf c0, HX2.out.cellOf c1, HX2.out.cellOf c2, HX2.out.cellOf c3, HX2.out.cellOf m1, HX2.out.cellOf m2⟩ ?_
          clear hKv Kv
          have HR5 := As.mk (HXX.out.blk HR4.out)
          clear HR4
          refine wpP.ev (h := fun Kv hKv => ?_)
          go_wp2_with (go_at_call 123; refine ((show Calls Try.prog 123 #[.agg #[.slice C1 p1 o1, .slice C2 p2 o2, .slice C3 p3 o3, .bool m.done], .agg #[.int .i64 oc, .int .i64 oa]] _ _ from by rw [HOC.out, HOA.out]; exact mstep_c HCP.out HOKS.out hkb HKZ.out ops[k] HOO.out)).mono ?_; rw [HRR.out]; rintro e w3 ht; obtain ⟨B1, n1, e1, B2, n2, e2, B3, n3, e3, x, rfl, hf, hp⟩ := ht; have HST : As (StepM wr w3 none (.slice B1 n1 e1) (.slice B2 n2 e2) (.slice B3 n3 e3) x) := ⟨stepM_of HX2.out HBB.out hf hp⟩; have hwf := hf; clear hf hp)
          have he3 := HST.out.1
          refine hKv.out _ _ ⟨he3.cellOf c0, he3.cellOf c1, he3.cellOf c2, he3.cellOf c3, he3.cellOf m1, he3.cellOf m2⟩ ?_
          clear hKv Kv he3
          have HR6 := As.mk (hwf.blk HR5.out (fun e => by have := HL6.out; have e : w4.heap.size ≤ g6 := e; omega))
          have HST5 := HST
          clear HST HCP hwf HX2 HXX HR5 HEX HBB HL6
          generalize w3 = w5 at HST5 HR6 ⊢
        all_goals
          repeat (first | refine wpP.c0 (h := ?_))
          refine wpP.last (h := fun Kv hKv => ?_)
          have d0 := MB.c0 HR6.out; have d1 := MB.c1 HR6.out; have d2 := MB.c2 HR6.out; have d3 := MB.c3 HR6.out
          have f0 := MB.fz HR6.out 0; have f1 := MB.fz HR6.out 1; have f2 := MB.fz HR6.out 2; have f3 := MB.fz HR6.out 3
          go_wp2_with fail
          refine hKv.out _ _ ?_
          clear hKv Kv hS d0 d1 d2 d3 f0 f1 f2 f3
          repeat (first | refine wpP.c0 (h := ?_))
          refine wpP.done ?_
          have hs5 := Fr.set4 (S := fun k => k = g6) (w := w5) (g := g6) rfl (.slice B1 n1 e1) (.slice B2 n2 e2) (.slice B3 n3 e3) (.bool x)
          have hn6 := MB.all (.slice B1 n1 e1) (.slice B2 n2 e2) (.slice B3 n3 e3) x HR6.out
          have hE6 := (Fr.then (S := fun _ => False) (Fr.ofExt HST5.out.1) hs5 (fun i hi => .inr (by omega))).ext (fun _ h => h.elim)
          generalize ((((w5.setCell ⟨g6, 0, none⟩ (.slice B1 n1 e1)).setCell ⟨g6, 1, none⟩ (.slice B2 n2 e2)).setCell ⟨g6, 2, none⟩ (.slice B3 n3 e3)).setCell ⟨g6, 3, none⟩ (.bool x)) = w6 at hE6 hn6 ⊢
          clear hs5 HST5 HR6 hn6 c0 c1 c2 c3 m1 m2
          have hbg := hE6.blk HBG.out
          have hbr := hE6.blk HBR.out
          have c0 := MB.c0 hbg; have c1 := MB.c1 hbg; have c2 := MB.c2 hbg; have c3 := MB.c3 hbg
          have d0 := MB.c0 hbr; have d1 := MB.c1 hbr; have d2 := MB.c2 hbr; have d3 := MB.c3 hbr
          have f0 := MB.fz hbr 0; have f1 := MB.fz hbr 1; have f2 := MB.fz hbr 2; have f3 := MB.fz hbr 3
          have HBR6 := As.mk hbr
          have HE6 := As.mk hE6
          clear hbg hbr hE6
          go_wp2_with fail
          refine bodyPost_ret (results_cellt rfl _ _ (g + 1) _ rfl (loadM (MB.all _ _ _ _ HBR6.out))) rfl ?_
          have hrun : runP m0 ops = (m, k) := by
            have h := runP_stop (ops.take k) (ops.drop (k + 1)) m0 m ops[k] (by rw [HRN.out]) HRR.out
            have h := h.1
            have e : ops.take k ++ ops[k] :: ops.drop (k + 1) = ops := by rw [← List.drop_eq_getElem_cons HLT.out, List.take_append_drop]
            rw [e] at h
            rw [h, List.length_take, Nat.min_eq_left (Nat.le_of_lt HLT.out)]
          rw [hrun]
          have hv6 := HV.out.ext HE6.out
          have hs6 := Fr.set4 (S := fun k => k = g + 1) (w := w6) (g := g + 1) rfl (.slice AN' m.nodes.length cN') (.slice AS' m.stack.length cS') (.slice AM' m.memo.length cM') (.bool m.done)
          exact ⟨_, _, _, _, _, _, _, rfl, hv6.keep hs6.size (fun k hk => hs6.block k (hv6.lt k hk) (fun e => hv6.nb HBR6.out (by rw [← e]; exact hk))), (Fr.then (S := fun _ => False) (Fr.ofExt (HEW.out.trans HE6.out)) hs6 (fun i hi => .inr (by have := HG.out; omega))).ext (fun _ h => h.elim), HOKS.out.mono (by have := HLT.out; omega)⟩
      | some s1 =>
        go_upto_region 4 with fail
        refine region_tree (fun w' => w'.cell? ⟨g, 0, none⟩ = some (.slice AN' m.nodes.length cN') ∧ w'.cell? ⟨g, 1, none⟩ = some (.slice AS' m.stack.length cS') ∧ w'.cell? ⟨g, 2, none⟩ = some (.slice AM' m.memo.length cM') ∧ w'.cell? ⟨g, 3, none⟩ = some (.bool m.done) ∧ w'.cell? (ad.add (k * 2)) = some (.int .i64 oc) ∧ w'.cell? ⟨(ad.add (k * 2)).block, (ad.add (k * 2)).off + 1, none⟩ = some (.int .i64 oa)) [11]
          (.fork [(0, 1), (2, 0), (3, 0), (4, 0), (5, 1)] 1 10 (.fork [] 6 10 (.lin [(7, 0), (8, 0), (9, 0), (10, 2), (11, 3), (12, 0)]) (.lin [(6, 2), (7, 0), (8, 0), (9, 0), (11, 3), (12, 0)])) (.lin [(1, 2), (6, 2), (7, 0), (8, 0), (9, 0), (11, 3), (12, 0)])) (by kernel_rfl) (by kernel_rfl) rfl (by kernel_rfl) (fun _ _ _ _ h => h) (wpT.fork ?_)
        have hS := And.intro c0 (And.intro c1 (And.intro c2 (And.intro c3 (And.intro m1 m2))))
        repeat (first | refine wpP.c0 (h := ?_) | refine wpP.c1 (w := wr.drew) hS (h := ?_))
        have HEX : As (Ext wr wr.drew) := ⟨(Ext.rf _).dr⟩
        generalize wr.drew = wx at HEX ⊢
        refine wpP.fork ?bs1 ?bs2
        case' bs1 =>
          refine wpT.ev (h := fun Kv hKv => ?_)
          go_wp2_with (go_at_call 118; refine (scopyMachine_c _ _ _ _ _ _ m _ (HRM.out.ext HEX.out) (by omega) HKB.out).mono ?_; rintro e w2 ⟨l2, C1, p1, o1, C2, p2, o2, C3, p3, o3, rfl, hv, hf⟩; have hx2 := HEX.out.trans (hf.ext (fun _ hk => hk)); have HCP := As.mk hv; have HX2 := As.mk hx2; have HXX := As.mk (hf.ext (fun _ hk => hk)); clear hv hf hx2)
          refine hKv.out _ _ ⟨HX2.out.cellOf c0, HX2.out.cellOf c1, HX2.out.cellOf c2, HX2.out.cellOf c3, HX2.out.cellOf m1, HX2.out.cellOf m2⟩ (wpT.fork (wpP.fork ?bs3 ?bs4))
          clear hKv Kv
          case' bs3 =>
            have HBB : As (∀ k, (wx.heap.size ≤ k) → wr.heap.size ≤ k) := ⟨fun k hk => Nat.le_trans HEX.out.size hk⟩
            refine wpT.ev (h := fun Kv hKv => ?_)
            go_wp2_with (go_at_call 123; refine ((show Calls Try.prog 123 #[.agg #[.slice C1 p1 o1, .slice C2 p2 o2, .slice C3 p3 o3, .bool m.done], .agg #[.int .i64 oc, .int .i64 oa]] _ _ from by rw [HOC.out, HOA.out]; exact mstep_c HCP.out HOKS.out hkb HKZ.out ops[k] HOO.out)).mono ?_; rw [HRR.out]; rintro e w3 ht; obtain ⟨B1, n1, e1, B2, n2, e2, B3, n3, e3, x, rfl, hf, hp⟩ := ht; have HST : As (StepM wr w3 (some s1) (.slice B1 n1 e1) (.slice B2 n2 e2) (.slice B3 n3 e3) x) := ⟨stepM_of HX2.out HBB.out hf hp⟩; have hwf := hf; clear hf hp)
            have he3 := HST.out.1
            refine hKv.out _ _ ⟨he3.cellOf c0, he3.cellOf c1, he3.cellOf c2, he3.cellOf c3, he3.cellOf m1, he3.cellOf m2⟩ (wpT.lin ?_)
            clear hKv Kv he3
            repeat (first | refine wpP.c0 (h := ?_))
            refine wpP.ev (h := fun Kv hKv => ?_)
            go_wp2_with fail
            have HST5 := As.mk (HST.out.ext ((Ext.rf w3).al (.cells #[.slice none 0 0, .slice none 0 0, .slice none 0 0, .bool false] 64)))
            have hr6 : MB _ _ (.slice none 0 0) (.slice none 0 0) (.slice none 0 0) false := al_new w3 (.cells #[.slice none 0 0, .slice none 0 0, .slice none 0 0, .bool false] 64)
            have hg6 : wr.heap.size ≤ w3.heap.size := HST.out.1.size
            generalize w3.heap.size = g6 at hr6 hg6 ⊢
            generalize w3.alloc (.cells #[.slice none 0 0, .slice none 0 0, .slice none 0 0, .bool false] 64) = w5 at HST5 hr6 ⊢
            have he3 := HST5.out.1
            refine hKv.out _ _ ⟨he3.cellOf c0, he3.cellOf c1, he3.cellOf c2, he3.cellOf c3, he3.cellOf m1, he3.cellOf m2⟩ ?_
            clear hKv Kv he3 HST HCP hwf HX2 HXX HBB
            have HR6 := As.mk hr6
            clear hr6
          case' bs4 =>
            refine wpT.ev (h := fun Kv hKv => ?_)
            go_wp2_with fail
            have HX3 := As.mk (HX2.out.al (.cells #[.slice none 0 0, .slice none 0 0, .slice none 0 0, .bool false] 64))
            have HCP4 := As.mk (HCP.out.al1 (.cells #[.slice none 0 0, .slice none 0 0, .slice none 0 0, .bool false] 64))
            have hr6 : MB _ _ (.slice none 0 0) (.slice none 0 0) (.slice none 0 0) false := al_new w2 (.cells #[.slice none 0 0, .slice none 0 0, .slice none 0 0, .bool false] 64)
            have hg6 : wr.heap.size ≤ w2.heap.size := HX2.out.size
            clear HCP HX2 HXX
            have HCP := HCP4
            clear HCP4
            generalize w2.heap.size = g6 at hr6 hg6 HCP ⊢
            generalize w2.alloc (.cells #[.slice none 0 0, .slice none 0 0, .slice none 0 0, .bool false] 64) = w4 at HX3 HCP hr6 ⊢
            have HBB : As (∀ k, (wx.heap.size ≤ k ∧ k ≠ g6) → wr.heap.size ≤ k) := ⟨fun k hk => Nat.le_trans HEX.out.size hk.1⟩
            have he3 := HX3.out
            refine hKv.out _ _ ⟨he3.cellOf c0, he3.cellOf c1, he3.cellOf c2, he3.cellOf c3, he3.cellOf m1, he3.cellOf m2⟩ (wpT.lin ?_)
            clear hKv Kv he3
            have HX2 := HX3
            have HR4 := As.mk hr6
            clear hr6
            refine wpP.ev (h := fun Kv hKv => ?_)
            go_wp2_with (go_at_call 123; refine ((show Calls Try.prog 123 #[.agg #[.slice C1 p1 o1, .slice C2 p2 o2, .slice C3 p3 o3, .bool m.done], .agg #[.int .i64 oc, .int .i64 oa]] _ _ from by rw [HOC.out, HOA.out]; exact mstep_c HCP.out HOKS.out hkb HKZ.out ops[k] HOO.out)).mono ?_; rw [HRR.out]; rintro e w3 ht; obtain ⟨B1, n1, e1, B2, n2, e2, B3, n3, e3, x, rfl, hf, hp⟩ := ht; have HST : As (StepM wr w3 (some s1) (.slice B1 n1 e1) (.slice B2 n2 e2) (.slice B3 n3 e3) x) := ⟨stepM_of HX2.out HBB.out hf hp⟩; have hwf := hf; clear hf hp)
            have he3 := HST.out.1
            refine hKv.out _ _ ⟨he3.cellOf c0, he3.cellOf c1, he3.cellOf c2, he3.cellOf c3, he3.cellOf m1, he3.cellOf m2⟩ ?_
            clear hKv Kv he3
            have HR6 := As.mk (hwf.blk HR4.out (fun e => e.2 rfl))
            have HST5 := HST
            clear HST HCP hwf HX3 HX2 HR4 HBB
            generalize w3 = w5 at HST5 HR6 ⊢
        case' bs2 =>
          refine wpT.ev (h := fun Kv hKv => ?_)
          go_wp2_with fail
          have hex := HEX.out.al (.cells #[.slice none 0 0, .slice none 0 0, .slice none 0 0, .bool false] 64)
          have hr6 : MB _ _ (.slice none 0 0) (.slice none 0 0) (.slice none 0 0) false := al_new wx (.cells #[.slice none 0 0, .slice none 0 0, .slice none 0 0, .bool false] 64)
          have hg6 : wr.heap.size ≤ wx.heap.size := HEX.out.size
          have hlt6 : wx.heap.size < (wx.alloc (.cells #[.slice none 0 0, .slice none 0 0, .slice none 0 0, .bool false] 64)).heap.size := by rw [al_size]; omega
          clear HEX
          have HEX := As.mk hex
          clear hex
          generalize wx.heap.size = g6 at hr6 hg6 hlt6 ⊢
          generalize wx.alloc (.cells #[.slice none 0 0, .slice none 0 0, .slice none 0 0, .bool false] 64) = w4 at HEX hr6 hlt6 ⊢
          have HL6 := As.mk hlt6
          clear hlt6
          have HBB : As (∀ k, (w4.heap.size ≤ k) → wr.heap.size ≤ k) := ⟨fun k hk => Nat.le_trans HEX.out.size hk⟩
          have he3 := HEX.out
          refine hKv.out _ _ ⟨he3.cellOf c0, he3.cellOf c1, he3.cellOf c2, he3.cellOf c3, he3.cellOf m1, he3.cellOf m2⟩ (wpT.lin ?_)
          clear hKv Kv he3
          have HR4 := As.mk hr6
          clear hr6
          refine wpP.ev (h := fun Kv hKv => ?_)
          go_wp2_with (go_at_call 118; refine (scopyMachine_c _ _ _ _ _ _ m _ (HRM.out.ext HEX.out) (by omega) HKB.out).mono ?_; rintro e w2 ⟨l2, C1, p1, o1, C2, p2, o2, C3, p3, o3, rfl, hv, hf⟩; have hx2 := HEX.out.trans (hf.ext (fun _ hk => hk)); have HCP := As.mk hv; have HX2 := As.mk hx2; have HXX := As.mk (hf.ext (fun _ hk => hk)); clear hv hf hx2)
          refine hKv.out _ _ ⟨HX2.out.cellOf c0, HX2.out.cellOf c1, HX2.out.cellOf c2, HX2.out.cellOf c3, HX2.out.cellOf m1, HX2.out.cellOf m2⟩ ?_
          clear hKv Kv
          have HR5 := As.mk (HXX.out.blk HR4.out)
          clear HR4
          refine wpP.ev (h := fun Kv hKv => ?_)
          go_wp2_with (go_at_call 123; refine ((show Calls Try.prog 123 #[.agg #[.slice C1 p1 o1, .slice C2 p2 o2, .slice C3 p3 o3, .bool m.done], .agg #[.int .i64 oc, .int .i64 oa]] _ _ from by rw [HOC.out, HOA.out]; exact mstep_c HCP.out HOKS.out hkb HKZ.out ops[k] HOO.out)).mono ?_; rw [HRR.out]; rintro e w3 ht; obtain ⟨B1, n1, e1, B2, n2, e2, B3, n3, e3, x, rfl, hf, hp⟩ := ht; have HST : As (StepM wr w3 (some s1) (.slice B1 n1 e1) (.slice B2 n2 e2) (.slice B3 n3 e3) x) := ⟨stepM_of HX2.out HBB.out hf hp⟩; have hwf := hf; clear hf hp)
          have he3 := HST.out.1
          refine hKv.out _ _ ⟨he3.cellOf c0, he3.cellOf c1, he3.cellOf c2, he3.cellOf c3, he3.cellOf m1, he3.cellOf m2⟩ ?_
          clear hKv Kv he3
          have HR6 := As.mk (hwf.blk HR5.out (fun e => by have := HL6.out; have e : w4.heap.size ≤ g6 := e; omega))
          have HST5 := HST
          clear HST HCP hwf HX2 HXX HR5 HEX HBB HL6
          generalize w3 = w5 at HST5 HR6 ⊢
        all_goals
          repeat (first | refine wpP.c0 (h := ?_))
          refine wpP.last (h := fun Kv hKv => ?_)
          have d0 := MB.c0 HR6.out; have d1 := MB.c1 HR6.out; have d2 := MB.c2 HR6.out; have d3 := MB.c3 HR6.out
          have f0 := MB.fz HR6.out 0; have f1 := MB.fz HR6.out 1; have f2 := MB.fz HR6.out 2; have f3 := MB.fz HR6.out 3
          go_wp2_with fail
          refine hKv.out _ _ ?_
          clear hKv Kv hS d0 d1 d2 d3 f0 f1 f2 f3
          repeat (first | refine wpP.c0 (h := ?_))
          refine wpP.done ?_
          have hs5 := Fr.set4 (S := fun k => k = g6) (w := w5) (g := g6) rfl (.slice B1 n1 e1) (.slice B2 n2 e2) (.slice B3 n3 e3) (.bool x)
          have hn6 := MB.all (.slice B1 n1 e1) (.slice B2 n2 e2) (.slice B3 n3 e3) x HR6.out
          have hE6 := (Fr.then (S := fun _ => False) (Fr.ofExt HST5.out.1) hs5 (fun i hi => .inr (by omega))).ext (fun _ h => h.elim)
          obtain ⟨hxd, l6, hvs⟩ := HST5.out.2 s1 rfl
          have hv6 := hvs.keep hs5.size (fun k hk => hs5.block k (hvs.lt k hk) (fun e => hvs.nb HR6.out (by rw [← e]; exact hk)))
          generalize ((((w5.setCell ⟨g6, 0, none⟩ (.slice B1 n1 e1)).setCell ⟨g6, 1, none⟩ (.slice B2 n2 e2)).setCell ⟨g6, 2, none⟩ (.slice B3 n3 e3)).setCell ⟨g6, 3, none⟩ (.bool x)) = w6 at hE6 hn6 hv6 ⊢
          clear hs5 HST5 HR6 hvs c0 c1 c2 c3 m1 m2
          subst hxd
          have hbg := hE6.blk HBG.out
          have hbr := hE6.blk HBR.out
          have c0 := MB.c0 hn6; have c1 := MB.c1 hn6; have c2 := MB.c2 hn6; have c3 := MB.c3 hn6
          have d0 := MB.c0 hbg; have d1 := MB.c1 hbg; have d2 := MB.c2 hbg; have d3 := MB.c3 hbg
          have f0 := MB.fz hbg 0; have f1 := MB.fz hbg 1; have f2 := MB.fz hbg 2; have f3 := MB.fz hbg 3
          have HBG6 := As.mk hbg
          have HBR6 := As.mk hbr
          have HE6 := As.mk hE6
          have HV6 := As.mk hv6
          clear hbg hbr hE6 hn6 hv6
          go_wp2_with fail
          go_roundw
          case measure => simp only [intOf]; omega
          case rel =>
            have hs6 := Fr.set4 (S := fun k => k = g) (w := w6) (g := g) rfl (.slice B1 n1 e1) (.slice B2 n2 e2) (.slice B3 n3 e3) (.bool s1.done)
            have hrun : runP m0 (ops.take (k + 1)) = (s1, (ops.take (k + 1)).length) := by
              rw [List.take_succ_eq_append_getElem HLT.out]
              have h := runP_snoc (ops.take k) m0 m ops[k] (by rw [HRN.out])
              have h := h.1
              rw [HRR.out] at h
              rw [h]; simp; have := HLT.out; omega
            have hv7 := HV6.out.keep hs6.size (fun k hk => hs6.block k (HV6.out.lt k hk) (fun e => HV6.out.nb HBG6.out (by rw [← e]; exact hk)))
            have hE7 := (Fr.then (S := fun _ => False) (Fr.ofExt (HEW.out.trans HE6.out)) hs6 (fun i hi => .inr (by have := HG.out; omega))).ext (fun _ h => h.elim)
            have hup : ∀ k, wr.heap.size ≤ k → B k := fun k hk => HV.out.up k hk
            refine ⟨k + 1, by omega, by go_num, ⟨_, _, _, _, s1, hrun, (okM_step HOKS.out HOO.out HRR.out).mono (by omega), kd_step HKZ.out HOO.out HRR.out, MB.all _ _ _ _ HBG6.out, hs6.blk HBR6.out (by omega), hv7.base (fun k _ hk => hup k hk) (fun k hk => hup k (Nat.le_trans HE6.out.size (Nat.le_trans hs6.size hk))), hE7, HG.out⟩⟩
    · have hkl : k = ops.length := by omega
      subst hkl
      have d0 := MB.c0 HBR.out; have d1 := MB.c1 HBR.out; have d2 := MB.c2 HBR.out; have d3 := MB.c3 HBR.out
      have f0 := MB.fz HBR.out 0; have f1 := MB.fz HBR.out 1; have f2 := MB.fz HBR.out 2; have f3 := MB.fz HBR.out 3
      go_wp2_with fail
      refine bodyPost_ret (results_cellt rfl _ _ (g + 1) _ rfl (loadM (MB.all _ _ _ _ HBR.out))) rfl ?_
      have hrun : runP m0 ops = (m, ops.length) := by have := HRN.out; rwa [List.take_length] at this
      rw [hrun]
      have hs6 := Fr.set4 (S := fun k => k = g + 1) (w := wr) (g := g + 1) rfl (.slice AN' m.nodes.length cN') (.slice AS' m.stack.length cS') (.slice AM' m.memo.length cM') (.bool m.done)
      exact ⟨_, _, _, _, _, _, _, rfl, HV.out.keep hs6.size (fun k hk => hs6.block k (HV.out.lt k hk) (fun e => HV.out.nb HBR.out (by rw [← e]; exact hk))), (Fr.then (S := fun _ => False) (Fr.ofExt HEW.out) hs6 (fun i hi => .inr (by have := HG.out; omega))).ext (fun _ h => h.elim), HOKS.out⟩
theorem runP_ok : ∀ (l : List Opr) (B : Nat) (s : Mc), okM B s → l.all okO = true → okM (B + 301 * l.length) (runP s l).1
  | [], B, s, h, _ => h
  | o :: r, B, s, h, ho => by
    simp only [List.all_cons, Bool.and_eq_true] at ho
    simp only [runP]
    cases hs : stepP s o with
    | none => exact h.mono (Nat.le_add_right _ _)
    | some s' => exact (runP_ok r _ s' (okM_step h ho.1 hs) ho.2).mono (by simp only [List.length_cons]; omega)
end Go.Proofs.Ytcodbpjaamggeaa.C
