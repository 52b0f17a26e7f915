/- The reference's machine that stops several times. -/
import Derived.Test.YtcodbpjaamggeaaOc
set_option linter.unusedVariables false
set_option linter.unusedSimpArgs false
namespace Go.Proofs.Ytcodbpjaamggeaa.C
open Go.RowKit Go.Proofs.Ytcodbpjaamggeaa.W Go.Proofs.Ytcodbpjaamggeaa.P

set_option maxRecDepth 100000 in
set_option maxHeartbeats 4000000 in
theorem smany_c (A : Option Addr) (c : Nat) (ops : List Opr) (w : World) (hr : RdO w A ops) (hops : ops.all okO = true) (hol : ops.length ≤ 300) :
    Calls Try.prog 114 #[.slice A ops.length c] w (ManyV (manyR ops) w) := by
  have hlen := hr.1
  have HR := As.mk hr
  have HOP := As.mk hops
  clear hr hops
  go_enter Try.func114, Try.ntmps114
  go_upto_region 1 with fail
  have hb2 : MB (w.alloc (.cells #[.slice none 0 0, .slice none 0 0, .slice none 0 0, .bool false] 64)) w.heap.size (.slice none 0 0) (.slice none 0 0) (.slice none 0 0) false := al_new _ _
  have HB2 := As.mk hb2
  have HE1 := As.mk ((Ext.rf w).al (.cells #[.slice none 0 0, .slice none 0 0, .slice none 0 0, .bool false] 64))
  have hlt2 : w.heap.size < (w.alloc (.cells #[.slice none 0 0, .slice none 0 0, .slice none 0 0, .bool false] 64)).heap.size := by rw [al_size]; omega
  clear hb2
  generalize w.alloc (.cells #[.slice none 0 0, .slice none 0 0, .slice none 0 0, .bool false] 64) = w1 at HB2 HE1 hlt2 ⊢
  obtain ⟨g2, hg2⟩ : ∃ g2, g2 = w.heap.size := ⟨_, rfl⟩
  rw [← hg2] at HB2 ⊢
  have hg2' : w.heap.size ≤ g2 ∧ g2 < w1.heap.size := by omega
  have HG2 := As.mk hg2'
  clear hg2 hg2' hlt2
  go_upto_region 2 with (go_at_call 107; refine (newMachine_c _).mono ?_; rintro e w2 ⟨l0, vN, vS, vM, rfl, hv, he⟩; obtain ⟨XN, iN, jN, rfl⟩ := sl_form hv.nr.1; obtain ⟨XS, iS, jS, rfl⟩ := sl_form hv.sr; obtain ⟨XM, iM, jM, rfl⟩ := sl_form hv.me; have HM2 := As.mk hv; have HE2 := As.mk (HE1.out.trans he); have HX2 := As.mk he; clear hv he)
  have hb5 : MB (w2.alloc (.cells #[.slice XN iN jN, .slice XS iS jS, .slice XM iM jM, .bool false] 64)) w2.heap.size (.slice XN iN jN) (.slice XS iS jS) (.slice XM iM jM) false := al_new _ _
  have HE3 := As.mk (HE2.out.al (.cells #[.slice XN iN jN, .slice XS iS jS, .slice XM iM jM, .bool false] 64))
  have HM3 := As.mk (HM2.out.ext ((Ext.rf w2).al (.cells #[.slice XN iN jN, .slice XS iS jS, .slice XM iM jM, .bool false] 64)))
  have HB23 := As.mk ((HX2.out.al (.cells #[.slice XN iN jN, .slice XS iS jS, .slice XM iM jM, .bool false] 64)).blk HB2.out)
  have hlt5 : w2.heap.size < (w2.alloc (.cells #[.slice XN iN jN, .slice XS iS jS, .slice XM iM jM, .bool false] 64)).heap.size := by rw [al_size]; omega
  have hw12 := HX2.out.size
  generalize w2.alloc (.cells #[.slice XN iN jN, .slice XS iS jS, .slice XM iM jM, .bool false] 64) = w3 at hb5 HE3 HM3 HB23 hlt5 ⊢
  obtain ⟨g5, hg5⟩ : ∃ g5, g5 = w2.heap.size := ⟨_, rfl⟩
  rw [← hg5] at hb5 ⊢
  have HG5 : As (w1.heap.size ≤ g5 ∧ g5 < w3.heap.size) := ⟨by omega⟩
  have HB5 : As (MB w3 g5 (.slice XN iN jN) (.slice XS iS jS) (.slice XM iM jM) false) := ⟨hb5⟩
  clear hg5 hb5 hlt5 hw12 HM2 HE2 HX2 HB2 HE1
  have c0 := MB.c0 HB5.out; have c1 := MB.c1 HB5.out; have c2 := MB.c2 HB5.out; have c3 := MB.c3 HB5.out
  go_upto_region 3 with fail
  clear c0 c1 c2 c3
  have hx4 : Ext w3 (w3.alloc (.cells #[.slice XN iN jN, .slice XS iS jS, .slice XM iM jM, .bool false] 64)) := (Ext.rf w3).al _
  have hb6 : MB (w3.alloc (.cells #[.slice XN iN jN, .slice XS iS jS, .slice XM iM jM, .bool false] 64)) w3.heap.size (.slice XN iN jN) (.slice XS iS jS) (.slice XM iM jM) false := al_new _ _
  have hlt6 : w3.heap.size < (w3.alloc (.cells #[.slice XN iN jN, .slice XS iS jS, .slice XM iM jM, .bool false] 64)).heap.size := by rw [al_size]; omega
  have HX4 := As.mk hx4
  generalize w3.alloc (.cells #[.slice XN iN jN, .slice XS iS jS, .slice XM iM jM, .bool false] 64) = w4 at HX4 hb6 hlt6 ⊢
  obtain ⟨g6, hg6⟩ : ∃ g6, g6 = w3.heap.size := ⟨_, rfl⟩
  rw [← hg6] at hb6 ⊢
  have HB6 : As (MB w4 g6 (.slice XN iN jN) (.slice XS iS jS) (.slice XM iM jM) false) := ⟨hb6⟩
  have HG6 : As (g5 < g6 ∧ g6 < w4.heap.size) := ⟨by have := HG5.out; omega⟩
  clear hx4 hb6 hlt6 hg6
  go_upto_region 4 with fail
  have hir : IR (w4.alloc (.cells #[] 3)) (.slice (some ⟨w4.heap.size, 0, none⟩) 0 0) [] := World.ownsRow_lit (base := 0) (size := 1) w4 #[] 0 (Nat.zero_le _) (by simp) rfl
  have HQ0 : As (ManyQ ops w g2 g5 g6 0 (.slice (some ⟨w4.heap.size, 0, none⟩) 0 0) (.int .i64 ((0 : Nat) : Int)) (w4.alloc (.cells #[] 3))) := ⟨by
    have hx : Ext w3 (w4.alloc (.cells #[] 3)) := HX4.out.al _
    have h1 := HG2.out; have h2 := HG5.out; have h3 := HG6.out
    have hm := (HM3.out.base (B' := fun _ => True) (fun _ _ _ => trivial) (fun _ _ => trivial)).ext hx
    have hs := HE3.out.size
    have hs4 := HX4.out.size
    have hlo : ∀ k, FM (.slice XN iN jN) (.slice XS iS jS) (.slice XM iM jM) l0 k → k < w4.heap.size := fun k hk => Nat.lt_of_lt_of_le (HM3.out.lt k hk) hs4
    have hh : ∀ k, (Value.slice (some ⟨w4.heap.size, 0, none⟩) 0 0).ownBlock = some k → w4.heap.size = k := fun k hk => by injection hk
    refine manyQ_of (s := ⟨newM, newM, [], 0⟩) (MyAt.new ops) (by omega) (l := l0) (lu := l0) (vN := (.slice XN iN jN)) (vS := (.slice XS iS jS)) (vM := (.slice XM iM jM)) (uN := (.slice XN iN jN)) (uS := (.slice XS iS jS)) (uM := (.slice XM iM jM)) ⟨HE3.out.trans hx, hx.blk HB23.out, hx.blk HB5.out, ((Ext.rf w4).al _).blk HB6.out, hm, hm, hir, fun k hk => by have := hh k hk; omega, fun k hk => ?_, by omega, by omega, by omega, by omega, by omega, by omega⟩
    have := hh k hk
    exact ⟨fun hf => by have := hlo k hf; omega, fun hf => by have := hlo k hf; omega⟩⟩
  clear hir HM3 HE3 HB23 HB5 HX4 HB6
  generalize w4.alloc (.cells #[] 3) = w5 at HQ0 ⊢
  generalize w4.heap.size = gR at HQ0 ⊢
  clear HG6 HG5 HG2
  go_upto_region 6 with fail
  go_loopw [7, 8, 9] (fun v en i wr => ∃ k : Nat, k ≤ ops.length ∧ i = .int .i64 k ∧ As (ManyQ ops w g2 g5 g6 k v en wr)) (fun _ _ i _ => ops.length - (intOf i).toNat)
  case atStart => exact ⟨0, Nat.zero_le _, rfl, HQ0⟩
  case round =>
    obtain ⟨k, hk, rfl, hst⟩ := hrel
    obtain ⟨s, l, lu, AN, cN, AS, cS, AM, cM, uN, eN, uS, eS, uM, eM, R, cR, rfl, rfl, hat, hq⟩ := hst.out
    have HAT := As.mk hat
    have HQ := As.mk hq
    have HRM := As.mk (show RM wr AN AS AM s.m by
      obtain ⟨AN', cN', AS', cS', AM', cM', e1, e2, e3, hrm, -⟩ := hq.mv.rm (by have := hat.ok.nl; omega) (by have := hat.ok.sl; omega) (by have := hat.ok.ml; omega)
      injection e1 with e1; injection e2 with e2; injection e3 with e3
      rw [e1, e2, e3]; exact hrm)
    have HKZ := As.mk (show ∀ n ∈ s.m.nodes, 0 ≤ n.kind from fun n hn => (hat.kk n hn).1)
    have HKB := As.mk (show ∀ n ∈ s.m.nodes, n.kids.length ≤ 1000000 from fun n hn => by have := (hat.ok.ki n hn).1; omega)
    have HQ0r := As.mk hq.r
    have hnl := hat.ok.nl
    have hrl := hat.rl
    have hkb : 301 * k ≤ 900000 := by omega
    clear hst hat hq HQ0
    have c0 := MB.c0 HQ.out.b5; have c1 := MB.c1 HQ.out.b5; have c2 := MB.c2 HQ.out.b5; have c3 := MB.c3 HQ.out.b5
    by_cases hlt : k < ops.length
    · obtain ⟨ad, rfl, m1, m2⟩ := (HR.out.ext HQ.out.e).2 k hlt
      obtain ⟨oc, hoc⟩ : ∃ oc, oc = ops[k].code := ⟨_, rfl⟩
      obtain ⟨oa, hoa⟩ : ∃ oa, oa = ops[k].arg := ⟨_, rfl⟩
      rw [← hoc] at m1
      rw [← hoa] at m2
      have HOO : As (okO ops[k] = true) := ⟨List.all_eq_true.1 HOP.out _ (List.getElem_mem hlt)⟩
      have HOC := As.mk hoc
      have HOA := As.mk hoa
      have HLT := As.mk hlt
      have q1 : (k : Int) < ops.length := by omega
      obtain ⟨r, hr⟩ : ∃ r, stepP s.m ops[k] = r := ⟨_, rfl⟩
      have HRR := As.mk hr
      clear hoc hoa hr
      go_upto_region 8 with fail
      go_cut [10, 11] (fun s10 s11 wx => ∃ g10, s10 = .pointer (some ⟨g10, 0, none⟩) ∧ s11 = .bool r.isSome ∧ As (Tried wr wx g10 r))
      case first =>
        refine region_tree (fun w' => w'.cell? ⟨g5, 0, none⟩ = some (.slice AN s.m.nodes.length cN) ∧ w'.cell? ⟨g5, 1, none⟩ = some (.slice AS s.m.stack.length cS) ∧ w'.cell? ⟨g5, 2, none⟩ = some (.slice AM s.m.memo.length cM) ∧ w'.cell? ⟨g5, 3, none⟩ = some (.bool s.m.done) ∧ w'.cell? (ad.add (k * 2)) = some (.int .i64 oc) ∧ w'.cell? ⟨(ad.add (k * 2)).block, (ad.add (k * 2)).off + 1, none⟩ = some (.int .i64 oa)) [11] (.fork [(0, 1), (2, 0), (3, 0), (4, 0), (5, 1)] 1 10 (.fork [] 6 10 (.lin [(7, 0), (8, 0), (9, 0), (10, 2), (11, 3), (12, 0)]) (.lin [(6, 2), (7, 0), (8, 0), (9, 0), (11, 3), (12, 0)])) (.lin [(1, 2), (6, 2), (7, 0), (8, 0), (9, 0), (11, 3), (12, 0)])) (by kernel_rfl) (by kernel_rfl) rfl (by kernel_rfl) (fun _ _ _ _ h => h) (wpT.fork ?_)
        have hS := And.intro c0 (And.intro c1 (And.intro c2 (And.intro c3 (And.intro m1 m2))))
        repeat (first | refine wpP.c0 (h := ?_) | refine wpP.c1 (w := wr.drew) hS (h := ?_))
        have HEX : As (Ext wr wr.drew) := ⟨(Ext.rf _).dr⟩
        generalize wr.drew = wx at HEX ⊢
        refine wpP.fork ?br1 ?br2
        case' br1 =>
          refine wpT.ev (h := fun Kv hKv => ?_)
          go_wp2_with (go_at_call 118; refine (scopyMachine_c _ _ _ _ _ _ s.m _ (HRM.out.ext HEX.out) (by omega) HKB.out).mono ?_; rintro e w2 ⟨l2, C1, p1, o1, C2, p2, o2, C3, p3, o3, rfl, hv, hf⟩; have hx2 := HEX.out.trans (hf.ext (fun _ hk => hk)); have HCP := As.mk hv; have HX2 := As.mk hx2; have HXX := As.mk (hf.ext (fun _ hk => hk)); clear hv hf hx2)
          refine hKv.out _ _ ⟨HX2.out.cellOf c0, HX2.out.cellOf c1, HX2.out.cellOf c2, HX2.out.cellOf c3, HX2.out.cellOf m1, HX2.out.cellOf m2⟩ (wpT.fork (wpP.fork ?br3 ?br4))
          clear hKv Kv
          case' br3 =>
            have HBB : As (∀ k, (wx.heap.size ≤ k) → wr.heap.size ≤ k) := ⟨fun k hk => Nat.le_trans HEX.out.size hk⟩
            refine wpT.ev (h := fun Kv hKv => ?_)
            go_wp2_with (go_at_call 123; refine ((show Calls Try.prog 123 #[.agg #[.slice C1 p1 o1, .slice C2 p2 o2, .slice C3 p3 o3, .bool s.m.done], .agg #[.int .i64 oc, .int .i64 oa]] _ _ from by rw [HOC.out, HOA.out]; exact mstep_c HCP.out HAT.out.ok hkb HKZ.out ops[k] HOO.out)).mono ?_; rw [HRR.out]; rintro e w3 ht; obtain ⟨B1, n1, e1, B2, n2, e2, B3, n3, e3, x, rfl, hf, hp⟩ := ht; have HST : As (StepM wr w3 r (.slice B1 n1 e1) (.slice B2 n2 e2) (.slice B3 n3 e3) x) := ⟨stepM_of HX2.out HBB.out hf hp⟩; have hwf := hf; clear hf hp)
            have he3 := HST.out.1
            refine hKv.out _ _ ⟨he3.cellOf c0, he3.cellOf c1, he3.cellOf c2, he3.cellOf c3, he3.cellOf m1, he3.cellOf m2⟩ (wpT.lin ?_)
            clear hKv Kv he3
            repeat (first | refine wpP.c0 (h := ?_))
            refine wpP.ev (h := fun Kv hKv => ?_)
            go_wp2_with fail
            have HST5 := As.mk (HST.out.ext ((Ext.rf w3).al (.cells #[.slice none 0 0, .slice none 0 0, .slice none 0 0, .bool false] 64)))
            have hr6 : MB _ _ (.slice none 0 0) (.slice none 0 0) (.slice none 0 0) false := al_new w3 (.cells #[.slice none 0 0, .slice none 0 0, .slice none 0 0, .bool false] 64)
            have hg6 : wr.heap.size ≤ w3.heap.size := HST.out.1.size
            generalize w3.heap.size = g6' at hr6 hg6 ⊢
            generalize w3.alloc (.cells #[.slice none 0 0, .slice none 0 0, .slice none 0 0, .bool false] 64) = w5 at HST5 hr6 ⊢
            have he3 := HST5.out.1
            refine hKv.out _ _ ⟨he3.cellOf c0, he3.cellOf c1, he3.cellOf c2, he3.cellOf c3, he3.cellOf m1, he3.cellOf m2⟩ ?_
            clear hKv Kv he3 HST HCP hwf HX2 HXX HBB
            have HR6 := As.mk hr6
            clear hr6
          case' br4 =>
            refine wpT.ev (h := fun Kv hKv => ?_)
            go_wp2_with fail
            have HX3 := As.mk (HX2.out.al (.cells #[.slice none 0 0, .slice none 0 0, .slice none 0 0, .bool false] 64))
            have HCP4 := As.mk (HCP.out.al1 (.cells #[.slice none 0 0, .slice none 0 0, .slice none 0 0, .bool false] 64))
            have hr6 : MB _ _ (.slice none 0 0) (.slice none 0 0) (.slice none 0 0) false := al_new w2 (.cells #[.slice none 0 0, .slice none 0 0, .slice none 0 0, .bool false] 64)
            have hg6 : wr.heap.size ≤ w2.heap.size := HX2.out.size
            clear HCP HX2 HXX
            have HCP := HCP4
            clear HCP4
            generalize w2.heap.size = g6' at hr6 hg6 HCP ⊢
            generalize w2.alloc (.cells #[.slice none 0 0, .slice none 0 0, .slice none 0 0, .bool false] 64) = w4 at HX3 HCP hr6 ⊢
            have HBB : As (∀ k, (wx.heap.size ≤ k ∧ k ≠ g6') → wr.heap.size ≤ k) := ⟨fun k hk => Nat.le_trans HEX.out.size hk.1⟩
            have he3 := HX3.out
            refine hKv.out _ _ ⟨he3.cellOf c0, he3.cellOf c1, he3.cellOf c2, he3.cellOf c3, he3.cellOf m1, he3.cellOf m2⟩ (wpT.lin ?_)
            clear hKv Kv he3
            have HX2 := HX3
            have HR4 := As.mk hr6
            clear hr6
            refine wpP.ev (h := fun Kv hKv => ?_)
            go_wp2_with (go_at_call 123; refine ((show Calls Try.prog 123 #[.agg #[.slice C1 p1 o1, .slice C2 p2 o2, .slice C3 p3 o3, .bool s.m.done], .agg #[.int .i64 oc, .int .i64 oa]] _ _ from by rw [HOC.out, HOA.out]; exact mstep_c HCP.out HAT.out.ok hkb HKZ.out ops[k] HOO.out)).mono ?_; rw [HRR.out]; rintro e w3 ht; obtain ⟨B1, n1, e1, B2, n2, e2, B3, n3, e3, x, rfl, hf, hp⟩ := ht; have HST : As (StepM wr w3 r (.slice B1 n1 e1) (.slice B2 n2 e2) (.slice B3 n3 e3) x) := ⟨stepM_of HX2.out HBB.out hf hp⟩; have hwf := hf; clear hf hp)
            have he3 := HST.out.1
            refine hKv.out _ _ ⟨he3.cellOf c0, he3.cellOf c1, he3.cellOf c2, he3.cellOf c3, he3.cellOf m1, he3.cellOf m2⟩ ?_
            clear hKv Kv he3
            have HR6 := As.mk (hwf.blk HR4.out (fun e => e.2 rfl))
            have HST5 := HST
            clear HST HCP hwf HX3 HX2 HR4 HBB
            generalize w3 = w5 at HST5 HR6 ⊢
        case' br2 =>
          refine wpT.ev (h := fun Kv hKv => ?_)
          go_wp2_with fail
          have hex := HEX.out.al (.cells #[.slice none 0 0, .slice none 0 0, .slice none 0 0, .bool false] 64)
          have hr6 : MB _ _ (.slice none 0 0) (.slice none 0 0) (.slice none 0 0) false := al_new wx (.cells #[.slice none 0 0, .slice none 0 0, .slice none 0 0, .bool false] 64)
          have hg6 : wr.heap.size ≤ wx.heap.size := HEX.out.size
          have hlt6 : wx.heap.size < (wx.alloc (.cells #[.slice none 0 0, .slice none 0 0, .slice none 0 0, .bool false] 64)).heap.size := by rw [al_size]; omega
          clear HEX
          have HEX := As.mk hex
          clear hex
          generalize wx.heap.size = g6' at hr6 hg6 hlt6 ⊢
          generalize wx.alloc (.cells #[.slice none 0 0, .slice none 0 0, .slice none 0 0, .bool false] 64) = w4 at HEX hr6 hlt6 ⊢
          have HL6 := As.mk hlt6
          clear hlt6
          have HBB : As (∀ k, (w4.heap.size ≤ k) → wr.heap.size ≤ k) := ⟨fun k hk => Nat.le_trans HEX.out.size hk⟩
          have he3 := HEX.out
          refine hKv.out _ _ ⟨he3.cellOf c0, he3.cellOf c1, he3.cellOf c2, he3.cellOf c3, he3.cellOf m1, he3.cellOf m2⟩ (wpT.lin ?_)
          clear hKv Kv he3
          have HR4 := As.mk hr6
          clear hr6
          refine wpP.ev (h := fun Kv hKv => ?_)
          go_wp2_with (go_at_call 118; refine (scopyMachine_c _ _ _ _ _ _ s.m _ (HRM.out.ext HEX.out) (by omega) HKB.out).mono ?_; rintro e w2 ⟨l2, C1, p1, o1, C2, p2, o2, C3, p3, o3, rfl, hv, hf⟩; have hx2 := HEX.out.trans (hf.ext (fun _ hk => hk)); have HCP := As.mk hv; have HX2 := As.mk hx2; have HXX := As.mk (hf.ext (fun _ hk => hk)); clear hv hf hx2)
          refine hKv.out _ _ ⟨HX2.out.cellOf c0, HX2.out.cellOf c1, HX2.out.cellOf c2, HX2.out.cellOf c3, HX2.out.cellOf m1, HX2.out.cellOf m2⟩ ?_
          clear hKv Kv
          have HR5 := As.mk (HXX.out.blk HR4.out)
          clear HR4
          refine wpP.ev (h := fun Kv hKv => ?_)
          go_wp2_with (go_at_call 123; refine ((show Calls Try.prog 123 #[.agg #[.slice C1 p1 o1, .slice C2 p2 o2, .slice C3 p3 o3, .bool s.m.done], .agg #[.int .i64 oc, .int .i64 oa]] _ _ from by rw [HOC.out, HOA.out]; exact mstep_c HCP.out HAT.out.ok hkb HKZ.out ops[k] HOO.out)).mono ?_; rw [HRR.out]; rintro e w3 ht; obtain ⟨B1, n1, e1, B2, n2, e2, B3, n3, e3, x, rfl, hf, hp⟩ := ht; have HST : As (StepM wr w3 r (.slice B1 n1 e1) (.slice B2 n2 e2) (.slice B3 n3 e3) x) := ⟨stepM_of HX2.out HBB.out hf hp⟩; have hwf := hf; clear hf hp)
          have he3 := HST.out.1
          refine hKv.out _ _ ⟨he3.cellOf c0, he3.cellOf c1, he3.cellOf c2, he3.cellOf c3, he3.cellOf m1, he3.cellOf m2⟩ ?_
          clear hKv Kv he3
          have HR6 := As.mk (hwf.blk HR5.out (fun e => by have := HL6.out; have e : w4.heap.size ≤ g6' := e; omega))
          have HST5 := HST
          clear HST HCP hwf HX2 HXX HR5 HEX HBB HL6
          generalize w3 = w5 at HST5 HR6 ⊢
        all_goals
          repeat (first | refine wpP.c0 (h := ?_))
          refine wpP.last (h := fun Kv hKv => ?_)
          have d0 := MB.c0 HR6.out; have d1 := MB.c1 HR6.out; have d2 := MB.c2 HR6.out; have d3 := MB.c3 HR6.out
          have f0 := MB.fz HR6.out 0; have f1 := MB.fz HR6.out 1; have f2 := MB.fz HR6.out 2; have f3 := MB.fz HR6.out 3
          go_wp2_with fail
          refine hKv.out _ _ ?_
          clear hKv Kv hS d0 d1 d2 d3 f0 f1 f2 f3
          repeat (first | refine wpP.c0 (h := ?_))
          refine wpP.done ?_
          have HTR := As.mk (tried_of HST5.out HR6.out hg6)
          go_wp2_with fail
          go_meet
          exact ⟨_, rfl, rfl, HTR⟩
      case rest =>
        obtain ⟨g10, rfl, rfl, htr⟩ := hcut
        obtain ⟨hx, hg10, B1, n1, e1, B2, n2, e2, B3, n3, e3, d, hb10, hres⟩ := htr.out
        have HQ1 := As.mk (HQ.out.ext hx)
        have HB10 := As.mk hb10
        have HRES := As.mk hres
        have HX := As.mk hx
        clear c0 c1 c2 c3 m1 m2 hx hb10 hres htr HQ
        cases r with
        | none =>
          have HMR := As.mk (HAT.out.stop HLT.out HRR.out)
          have u0 := MB.c0 HQ1.out.b6; have u1 := MB.c1 HQ1.out.b6; have u2 := MB.c2 HQ1.out.b6; have u3 := MB.c3 HQ1.out.b6
          have d0 := MB.c0 HQ1.out.b2; have d1 := MB.c1 HQ1.out.b2; have d2 := MB.c2 HQ1.out.b2; have d3 := MB.c3 HQ1.out.b2
          have f0 := MB.fz HQ1.out.b2 0; have f1 := MB.fz HQ1.out.b2 1; have f2 := MB.fz HQ1.out.b2 2; have f3 := MB.fz HQ1.out.b2 3
          go_wp2_with fail
          refine bodyPost_ret (results_cell2 rfl _ _ g2 _ rfl (loadM (MB.all _ _ _ _ HQ1.out.b2))) rfl ?_
          rw [HMR.out]
          exact HQ1.out.res (HAT.out.sv.mono (by omega))
        | some m' =>
          obtain ⟨hd, l', hmv⟩ := HRES.out m' rfl
          subst hd
          have HMV := As.mk hmv
          have p0 := MB.c0 HB10.out; have p1 := MB.c1 HB10.out; have p2 := MB.c2 HB10.out; have p3 := MB.c3 HB10.out
          have d0 := MB.c0 HQ1.out.b5; have d1 := MB.c1 HQ1.out.b5; have d2 := MB.c2 HQ1.out.b5; have d3 := MB.c3 HQ1.out.b5
          have f0 := MB.fz HQ1.out.b5 0; have f1 := MB.fz HQ1.out.b5 1; have f2 := MB.fz HQ1.out.b5 2; have f3 := MB.fz HQ1.out.b5 3
          have hq2 := HQ1.out.put (HMV.out.base (B' := fun _ => True) (fun _ _ _ => trivial) (fun _ _ => trivial)) (fun j hj hf => by
            have h1 := HMV.out.lo j hf
            have h2 : j < wr.heap.size := own_lt HQ0r.out hj
            omega)
          have HQ2 := As.mk hq2
          clear hmv hq2
          go_upto_region 11 with fail
          clear p0 p1 p2 p3 d0 d1 d2 d3 f0 f1 f2 f3
          generalize ((((wc.setCell ⟨g5, 0, none⟩ (.slice B1 n1 e1)).setCell ⟨g5, 1, none⟩ (.slice B2 n2 e2)).setCell ⟨g5, 2, none⟩ (.slice B3 n3 e3)).setCell ⟨g5, 3, none⟩ (.bool m'.done)) = w6 at HQ2 ⊢
          have hd : m'.done = true ∨ m'.done = false := by cases m'.done <;> simp
          rcases hd with hd | hd
          · have HD := As.mk hd
            have h5 := HQ2.out.b5
            rw [hd] at h5
            have HB5 := As.mk h5
            obtain ⟨x, hx1, hx2, hx3⟩ := step_one HAT.out.ok HAT.out.kk HOO.out HRR.out hd
            have HX1 := As.mk hx1
            have HX2 := As.mk hx2
            have hst : ∃ gS, B2 = some ⟨gS, 0, none⟩ ∧ n2 = 1 ∧ w6.cell? ⟨gS, 0, none⟩ = some (.int .i64 x) := by
              obtain ⟨A', c', e4, _, hz⟩ := own_form HQ2.out.mv.sr
              injection e4 with e4 e5
              obtain ⟨A2, c2, e6, _, hrd⟩ := HQ2.out.mv.sr.rd (by rw [hx1]; simp)
              injection e6 with e6
              obtain ⟨a3, e7, e8⟩ := hrd.2 0 (by rw [hx1]; simp)
              obtain ⟨z1, z2, _⟩ := hz a3 (by rw [← e4, e6]; exact e7)
              obtain ⟨gS, o, sp⟩ := a3
              simp only at z1 z2
              subst z1 z2
              refine ⟨gS, by rw [e6]; exact e7, by rw [e5, hx1]; rfl, ?_⟩
              have e9 : m'.stack[0]'(by rw [hx1]; simp) = x := by simp [hx1]
              rw [e9] at e8
              simpa [Addr.add] using e8
            obtain ⟨gS, rfl, rfl, hs0⟩ := hst
            have k1 := MB.c1 HB5.out; have k3 := MB.c3 HB5.out
            clear hd h5 hx1 hx2 hx3
            go_upto_region 13 with ((at_builtin; refine app_int rfl _ _ rfl (.slice R s.rs.length cR) s.rs x rfl rfl HQ2.out.r (by omega) ?_; intro gP cP w7 hap; have HAP := As.mk hap; clear hap))
            have HQ7 := As.mk (HQ2.out.app HAP.out)
            have HB57 : As (MB w7 g5 (.slice B1 n1 e1) (.slice (some ⟨gS, 0, none⟩) 1 e2) (.slice B3 n3 e3) true) := ⟨by have := HQ7.out.b5; rw [HD.out] at this; exact this⟩
            clear k1 k3 hs0 HAP HB5 HQ2
            have k1 := MB.c1 HB57.out; have k3 := MB.c3 HB57.out; have f1 := MB.fz HB57.out 1; have f3 := MB.fz HB57.out 3
            go_upto_region 14 with fail
            obtain ⟨wA, hwA⟩ : ∃ wA, wA = w7.setCell ⟨g5, 3, none⟩ (.bool false) := ⟨_, rfl⟩
            rw [← hwA]
            have HQ8 := As.mk (MyQ.stop hwA HQ7.out)
            have hba : MB wA g5 (.slice B1 n1 e1) (.slice (some ⟨gS, 0, none⟩) 1 e2) (.slice B3 n3 e3) false := by rw [hwA]; exact HB57.out.set.2.2 false
            have hbb := ((Ext.rf wA).al (.cells #[] 3)).blk hba
            clear k1 k3 f1 f3 HB57 hwA HQ7 hba
            have k1 := MB.c1 hbb; have f1 := MB.fz hbb 1
            clear hbb
            go_upto_region 15 with fail
            clear k1 f1
            generalize ((wA.alloc (.cells #[] 3)).setCell ⟨g5, 1, none⟩ (.slice (some ⟨wA.heap.size, 0, none⟩) 0 0)) = w8 at HQ8 ⊢
            generalize wA.heap.size = gE at HQ8 ⊢
            have k0 := MB.c0 HQ8.out.b5; have k1 := MB.c1 HQ8.out.b5; have k2 := MB.c2 HQ8.out.b5; have k3 := MB.c3 HQ8.out.b5
            have u0 := MB.c0 HQ8.out.b6; have u1 := MB.c1 HQ8.out.b6; have u2 := MB.c2 HQ8.out.b6; have u3 := MB.c3 HQ8.out.b6
            have f0 := MB.fz HQ8.out.b6 0; have f1 := MB.fz HQ8.out.b6 1; have f2 := MB.fz HQ8.out.b6 2; have f3 := MB.fz HQ8.out.b6 3
            have HQ9 := As.mk HQ8.out.save
            have hn := manyQ_of (s := ⟨stopM m', stopM m', s.rs ++ [x], k + 1⟩) (HAT.out.root HLT.out HOO.out HRR.out HD.out HX2.out) (by omega) HQ9.out
            have hen : ((k + 1 : Nat) : Int) = (k : Int) + 1 := rfl
            have hrl2 : (s.rs ++ [x]).length = s.rs.length + 1 := by simp
            simp only [hrl2, hen] at hn
            have HN := As.mk hn
            clear hn hen hrl2
            clear HQ8 HQ9
            go_wp2_with fail
            go_roundw
            case measure => simp only [intOf]; omega
            case rel => exact ⟨k + 1, by omega, by go_num, HN⟩
          · have HD := As.mk hd
            have k3 := MB.c3 HQ2.out.b5
            rw [hd] at k3
            have HN := As.mk (manyQ_of (s := { s with m := m' }) (HAT.out.go HLT.out HOO.out HRR.out HD.out) (by omega) HQ2.out)
            clear hd HQ2
            go_wp2_with fail
            go_roundw
            case measure => simp only [intOf]; omega
            case rel => exact ⟨k + 1, by omega, by go_num, HN⟩
    · have HMR := As.mk (HAT.out.done (by omega))
      have q1 : ¬ (k : Int) < ops.length := by omega
      have u0 := MB.c0 HQ.out.b6; have u1 := MB.c1 HQ.out.b6; have u2 := MB.c2 HQ.out.b6; have u3 := MB.c3 HQ.out.b6
      have d0 := MB.c0 HQ.out.b2; have d1 := MB.c1 HQ.out.b2; have d2 := MB.c2 HQ.out.b2; have d3 := MB.c3 HQ.out.b2
      have f0 := MB.fz HQ.out.b2 0; have f1 := MB.fz HQ.out.b2 1; have f2 := MB.fz HQ.out.b2 2; have f3 := MB.fz HQ.out.b2 3
      clear c0 c1 c2 c3
      go_wp2_with fail
      refine bodyPost_ret (results_cell2 rfl _ _ g2 _ rfl (loadM (MB.all _ _ _ _ HQ.out.b2))) rfl ?_
      rw [HMR.out]
      exact HQ.out.res (HAT.out.sv.mono (by omega))
end Go.Proofs.Ytcodbpjaamggeaa.C
