/- SafeRun: the reference. -/
import Derived.Test.YtcodbpjaamggeaaJb
import Derived.Test.YtcodbpjaamggeaaCz
import Derived.Test.YtcodbpjaamggeaaDa
import Derived.IntWalk
set_option linter.unusedVariables false
set_option linter.unusedSimpArgs false
namespace Go.Proofs.Ytcodbpjaamggeaa.C
open Go.RowKit Go.Proofs.Ytcodbpjaamggeaa.W Go.Proofs.Ytcodbpjaamggeaa.P

set_option maxRecDepth 100000 in
set_option maxHeartbeats 1000000 in
theorem breach_c (r : Rl) (A : Option Addr) (c : Nat) (oc oa : Int) (AK AF AS AM : Option Addr) (nK cK nF cF nS cS nM cM : Nat) (dn : Bool) (d : Int) (w : World) (hr : RdI w A r.cls) :
    Calls Try.prog 138 #[.agg #[.int .i64 r.steps, .int .i64 r.nodes, .int .i64 r.deep, .slice A r.cls.length c], .agg #[.int .i64 oc, .int .i64 oa], .agg #[.slice AK nK cK, .slice AF nF cF, .slice AS nS cS, .slice AM nM cM, .bool dn], .int .i64 d] w fun e w' => e = .returned (.int .i64 (why r ⟨oc, oa⟩ nK nS d)) ∧ Ext w w' := by
  have HR := As.mk hr
  clear hr
  go_enter Try.func138, Try.ntmps138
  go_upto_region 1 with fail
  have hb := al_new w (.cells #[.int .i64 r.steps, .int .i64 r.nodes, .int .i64 r.deep, .slice A r.cls.length c] 45)
  have ho := al_new (w.alloc (.cells #[.int .i64 r.steps, .int .i64 r.nodes, .int .i64 r.deep, .slice A r.cls.length c] 45)) (.cells #[.int .i64 oc, .int .i64 oa] 82)
  have hs := al_new ((w.alloc (.cells #[.int .i64 r.steps, .int .i64 r.nodes, .int .i64 r.deep, .slice A r.cls.length c] 45)).alloc (.cells #[.int .i64 oc, .int .i64 oa] 82)) (.cells #[.slice AK nK cK, .slice AF nF cF, .slice AS nS cS, .slice AM nM cM, .bool dn] 51)
  rw [al_size] at ho
  rw [al_size, al_size] at hs
  have hb3 := (((Ext.rf _).al (.cells #[.int .i64 oc, .int .i64 oa] 82)).al (.cells #[.slice AK nK cK, .slice AF nF cF, .slice AS nS cS, .slice AM nM cM, .bool dn] 51)).blk hb
  have ho3 := ((Ext.rf _).al (.cells #[.slice AK nK cK, .slice AF nF cF, .slice AS nS cS, .slice AM nM cM, .bool dn] 51)).blk ho
  have HE := As.mk ((((Ext.rf w).al (.cells #[.int .i64 r.steps, .int .i64 r.nodes, .int .i64 r.deep, .slice A r.cls.length c] 45)).al (.cells #[.int .i64 oc, .int .i64 oa] 82)).al (.cells #[.slice AK nK cK, .slice AF nF cF, .slice AS nS cS, .slice AM nM cM, .bool dn] 51))
  generalize ((w.alloc (.cells #[.int .i64 r.steps, .int .i64 r.nodes, .int .i64 r.deep, .slice A r.cls.length c] 45)).alloc (.cells #[.int .i64 oc, .int .i64 oa] 82)).alloc (.cells #[.slice AK nK cK, .slice AF nF cF, .slice AS nS cS, .slice AM nM cM, .bool dn] 51) = w1 at hb3 ho3 hs HE ⊢
  generalize w.heap.size = g at hb3 ho3 hs ⊢
  clear hb ho
  have b0 := RuB.c0 hb3; have b1 := RuB.c1 hb3; have b2 := RuB.c2 hb3; have b3 := RuB.c3 hb3
  have o0 : w1.cell? ⟨g + 1, 0, none⟩ = some (.int .i64 oc) := by simp [World.cell?, ho3]
  have o1 : w1.cell? ⟨g + 1, 1, none⟩ = some (.int .i64 oa) := by simp [World.cell?, ho3]
  have s0 : w1.cell? ⟨g + 1 + 1, 0, none⟩ = some (.slice AK nK cK) := by simp [World.cell?, hs]
  have s2 : w1.cell? ⟨g + 1 + 1, 2, none⟩ = some (.slice AS nS cS) := by simp [World.cell?, hs]
  clear hb3 ho3 hs
  rcases (show r.steps < d ∨ d ≤ r.steps by omega) with h1 | h1
  · have HW : As (why r ⟨oc, oa⟩ nK nS d = 2) := ⟨by unfold why; rw [if_pos h1]⟩
    go_wp2_with fail
    go_ret
    exact ⟨ret_int HW.out.symm, HE.out⟩
  · have h1' : ¬ r.steps < d := by omega
    have HW1 : As (why r ⟨oc, oa⟩ nK nS d = if oc = 13 ∧ r.cls.contains oa = false then 3 else if r.nodes < nK then 4 else if r.deep < nS then 5 else 0) := ⟨by unfold why; rw [if_neg h1']⟩
    clear h1'
    rcases bceq' oc 13 with rfl | q13
    · obtain ⟨p, hp⟩ : ∃ p, p = plc r.cls oa := ⟨_, rfl⟩
      have hpc := plc_con r.cls oa
      rw [← hp] at hpc
      have HP := As.mk hp
      have HPC := As.mk hpc
      clear hp hpc
      rcases (show p < 0 ∨ 0 ≤ p by omega) with p0 | p0
      · have HW : As (why r ⟨13, oa⟩ nK nS d = 3) := ⟨by rw [HW1.out, if_pos ⟨rfl, by rw [← HPC.out]; simp; omega⟩]⟩
        go_wp2_with (go_at_call 137; refine (placeIn_k _ _ _ _ _ _ (HR.out.ext HE.out) rfl).mono ?_; rw [← HP.out]; rintro e w2 ⟨rfl, rfl⟩)
        go_ret
        exact ⟨ret_int HW.out.symm, HE.out⟩
      · have HW2 : As (why r ⟨13, oa⟩ nK nS d = if r.nodes < nK then 4 else if r.deep < nS then 5 else 0) := ⟨by rw [HW1.out, if_neg]; rw [← HPC.out]; simp; omega⟩
        rcases (show r.nodes < nK ∨ (nK : Int) ≤ r.nodes by omega) with hn | hn
        · have HW : As (why r ⟨13, oa⟩ nK nS d = 4) := ⟨by rw [HW2.out, if_pos hn]⟩
          go_wp2_with (go_at_call 137; refine (placeIn_k _ _ _ _ _ _ (HR.out.ext HE.out) rfl).mono ?_; rw [← HP.out]; rintro e w2 ⟨rfl, rfl⟩)
          go_ret
          exact ⟨ret_int HW.out.symm, HE.out⟩
        · rcases (show r.deep < nS ∨ (nS : Int) ≤ r.deep by omega) with hd | hd
          · have HW : As (why r ⟨13, oa⟩ nK nS d = 5) := ⟨by rw [HW2.out, if_neg (by omega), if_pos hd]⟩
            go_wp2_with (go_at_call 137; refine (placeIn_k _ _ _ _ _ _ (HR.out.ext HE.out) rfl).mono ?_; rw [← HP.out]; rintro e w2 ⟨rfl, rfl⟩)
            go_ret
            exact ⟨ret_int HW.out.symm, HE.out⟩
          · have HW : As (why r ⟨13, oa⟩ nK nS d = 0) := ⟨by rw [HW2.out, if_neg (by omega), if_neg (by omega)]⟩
            go_wp2_with (go_at_call 137; refine (placeIn_k _ _ _ _ _ _ (HR.out.ext HE.out) rfl).mono ?_; rw [← HP.out]; rintro e w2 ⟨rfl, rfl⟩)
            go_ret
            exact ⟨ret_int HW.out.symm, HE.out⟩
    · have HW2 : As (why r ⟨oc, oa⟩ nK nS d = if r.nodes < nK then 4 else if r.deep < nS then 5 else 0) := ⟨by rw [HW1.out, if_neg]; simp at q13; simp [q13]⟩
      rcases (show r.nodes < nK ∨ (nK : Int) ≤ r.nodes by omega) with hn | hn
      · have HW : As (why r ⟨oc, oa⟩ nK nS d = 4) := ⟨by rw [HW2.out, if_pos hn]⟩
        go_wp2_with fail
        go_ret
        exact ⟨ret_int HW.out.symm, HE.out⟩
      · rcases (show r.deep < nS ∨ (nS : Int) ≤ r.deep by omega) with hd | hd
        · have HW : As (why r ⟨oc, oa⟩ nK nS d = 5) := ⟨by rw [HW2.out, if_neg (by omega), if_pos hd]⟩
          go_wp2_with fail
          go_ret
          exact ⟨ret_int HW.out.symm, HE.out⟩
        · have HW : As (why r ⟨oc, oa⟩ nK nS d = 0) := ⟨by rw [HW2.out, if_neg (by omega), if_neg (by omega)]⟩
          go_wp2_with fail
          go_ret
          exact ⟨ret_int HW.out.symm, HE.out⟩
theorem slen {w : World} {B1 B3 : Option Addr} {n1 e1 n3 e3 : Nat} {l1 l3 : List Int} (h1 : IR w (.slice B1 n1 e1) l1) (h3 : IR w (.slice B3 n3 e3) l3) : n1 = l1.length ∧ n3 = l3.length := by
  obtain ⟨_, _, h, _, _⟩ := own_form h1
  obtain ⟨_, _, h', _, _⟩ := own_form h3
  injection h with _ h
  injection h' with _ h'
  exact ⟨h, h'⟩
/-- What safe keeps. -/
def SafeSAt (r : Rl) (A : Option Addr) (c : Nat) (ops : List Opr) (w : World) (gr g : Nat) (k : Nat) (wr : World) : Prop :=
  ∃ vK vF vS vM m, SafeAt r ops k m ∧ SB wr g vK vF vS vM (shp m).done ∧ RuB wr gr r A c ∧ SV wr vK vF vS vM (shp m) ∧ Ext w wr ∧ (∀ k, SF vK vF vS vM k → w.heap.size ≤ k) ∧ w.heap.size ≤ gr ∧ gr < g
set_option maxRecDepth 100000 in
set_option maxHeartbeats 2000000 in
theorem safe_c (A0 : Option Addr) (c0 : Nat) (ops : List Opr) (A : Option Addr) (c : Nat) (r : Rl) (w : World) (hr : RdO w A0 ops) (hops : ops.all okO = true) (hcl : RdI w A r.cls) :
    Calls Try.prog 98 #[.slice A0 ops.length c0, .agg #[.int .i64 r.steps, .int .i64 r.nodes, .int .i64 r.deep, .slice A r.cls.length c]] w fun e w' => e = .returned (.tuple #[.int .i64 (safeP r newM 0 ops).1, .int .i64 (safeP r newM 0 ops).2]) ∧ Ext w w' := by
  have hlen := hr.1
  have HR := As.mk hr
  have HCL := As.mk hcl
  have HOP := As.mk hops
  clear hr hops hcl
  go_enter Try.func98, Try.ntmps98
  go_upto_region 1 with fail
  have hb := al_new w (.cells #[.int .i64 r.steps, .int .i64 r.nodes, .int .i64 r.deep, .slice A r.cls.length c] 45)
  have HE1 := As.mk ((Ext.rf w).al (.cells #[.int .i64 r.steps, .int .i64 r.nodes, .int .i64 r.deep, .slice A r.cls.length c] 45))
  have hgr : w.heap.size < (w.alloc (.cells #[.int .i64 r.steps, .int .i64 r.nodes, .int .i64 r.deep, .slice A r.cls.length c] 45)).heap.size := by rw [al_size]; omega
  generalize w.alloc (.cells #[.int .i64 r.steps, .int .i64 r.nodes, .int .i64 r.deep, .slice A r.cls.length c] 45) = w0 at hb HE1 hgr ⊢
  obtain ⟨gr, hgre⟩ : ∃ gr, gr = w.heap.size := ⟨_, rfl⟩
  rw [← hgre] at hb hgr ⊢
  have HB := As.mk hb
  have hgr0 : w.heap.size ≤ gr := by omega
  clear hb hgre
  go_upto_region 2 with (go_at_call 86; refine (newShapes_c _).mono ?_; rintro e w1 ⟨vK, vF, vS, vM, rfl, hv, he, hf⟩; obtain ⟨A1, c1, A2, c2, A3, c3, A4, c4, rfl, rfl, rfl, rfl⟩ := hv.forms; have HV0 := As.mk hv; have HE0 := As.mk he; have HF0 := As.mk hf; clear hv he hf)
  have hrun : SafeSAt r A c ops w gr w1.heap.size 0 (w1.alloc (.cells #[.slice A1 newS.kinds.length c1, .slice A2 newS.full.length c2, .slice A3 newS.stack.length c3, .slice A4 newS.memo.length c4, .bool false] 51)) := by
    have he := HE0.out
    have hsz := he.size
    have hx : Ext w w1 := HE1.out.trans he
    have hs1 := HE1.out.size
    exact ⟨_, _, _, _, newM, SafeAt.new r ops, al_new _ _, ((Ext.rf _).al _).blk (he.blk HB.out), HV0.out.ext ((Ext.rf _).al _), hx.al _, fun k hk => by have := HF0.out k hk; omega, hgr0, by omega⟩
  have HRUN := As.mk hrun
  obtain ⟨g, hg⟩ : ∃ g, g = w1.heap.size := ⟨_, rfl⟩
  rw [← hg] at HRUN ⊢
  clear hrun HV0 HE0 HF0 hg HB HE1 hgr
  generalize (w1.alloc (.cells #[.slice A1 newS.kinds.length c1, .slice A2 newS.full.length c2, .slice A3 newS.stack.length c3, .slice A4 newS.memo.length c4, .bool false] 51)) = w2 at HRUN ⊢
  go_wp2_with fail
  go_loopw [7] (fun i wr => ∃ k : Nat, k ≤ ops.length ∧ i = .int .i64 k ∧ As (SafeSAt r A c ops w gr g k wr)) (fun i _ => ops.length - (intOf i).toNat)
  case atStart => exact ⟨0, Nat.zero_le _, rfl, HRUN⟩
  case round =>
    obtain ⟨k, hk, rfl, hst⟩ := hrel
    obtain ⟨vK, vF, vS, vM, m, h1, h3, h4, h5, h6, h7, h8, hgw⟩ := hst.out
    obtain ⟨AK, cK, AF, cF, AS, cS, AM, cM, rfl, rfl, rfl, rfl⟩ := h5.forms
    have HSA := As.mk h1
    obtain ⟨s, hsm⟩ : ∃ s, s = shp m := ⟨_, rfl⟩
    rw [← hsm] at h3 h5
    have HSM := As.mk hsm
    have HOKS : As (okS s) := ⟨by rw [hsm]; exact shp_ok h1.ok h1.kk⟩
    have HBG := As.mk h3
    have HRU := As.mk h4
    have HV := As.mk h5
    have HEW := As.mk h6
    have HFW : As (∀ k, SF (.slice AK s.kinds.length cK) (.slice AF s.full.length cF) (.slice AS s.stack.length cS) (.slice AM s.memo.length cM) k → w.heap.size ≤ k) := ⟨by rw [hsm]; exact h7⟩
    have hgl := h3.lt
    have hews := h6.size
    clear hst h1 h3 h4 h5 h6 h7 hsm HRUN
    have c0 := SB.c0 HBG.out; have c1 := SB.c1 HBG.out; have c2 := SB.c2 HBG.out; have c3 := SB.c3 HBG.out; have c4 := SB.c4 HBG.out
    by_cases hlt : k < ops.length
    · obtain ⟨ad, rfl, m1, m2⟩ := (HR.out.ext HEW.out).2 k hlt
      obtain ⟨oc, hoc⟩ : ∃ oc, oc = ops[k].code := ⟨_, rfl⟩
      obtain ⟨oa, hoa⟩ : ∃ oa, oa = ops[k].arg := ⟨_, rfl⟩
      rw [← hoc] at m1
      rw [← hoa] at m2
      have HOO : As (okO ops[k] = true) := ⟨List.all_eq_true.1 HOP.out _ (List.getElem_mem hlt)⟩
      have HOC := As.mk hoc
      have HOA := As.mk hoa
      have HLT := As.mk hlt
      have q1 : (k : Int) < ops.length := by omega
      have hss := stepS_shp HSA.out.ok HSA.out.kk ops[k] HOO.out
      rw [← HSM.out] at hss
      clear hoc hoa
      cases hsp : stepP m ops[k] with
      | none =>
        rw [hsp] at hss
        have HRR : As (stepS s ops[k] = none) := ⟨hss⟩
        have HSP := As.mk hsp
        clear hss hsp
        go_upto_region 5 with fail
        refine region_tree (fun w' => w'.cell? ⟨g, 0, none⟩ = some (.slice AK s.kinds.length cK) ∧ w'.cell? ⟨g, 1, none⟩ = some (.slice AF s.full.length cF) ∧ w'.cell? ⟨g, 2, none⟩ = some (.slice AS s.stack.length cS) ∧ w'.cell? ⟨g, 3, none⟩ = some (.slice AM s.memo.length cM) ∧ w'.cell? ⟨g, 4, none⟩ = some (.bool s.done) ∧ w'.cell? (ad.add (k * 2)) = some (.int .i64 oc) ∧ w'.cell? ⟨(ad.add (k * 2)).block, (ad.add (k * 2)).off + 1, none⟩ = some (.int .i64 oa)) [11]
          (.fork [(0, 1), (2, 0), (3, 0), (4, 0), (5, 1)] 1 10 (.fork [] 6 10 (.lin [(7, 0), (8, 0), (9, 0), (10, 2), (11, 3), (12, 0)]) (.lin [(6, 2), (7, 0), (8, 0), (9, 0), (11, 3), (12, 0)])) (.lin [(1, 2), (6, 2), (7, 0), (8, 0), (9, 0), (11, 3), (12, 0)])) (by kernel_rfl) (by kernel_rfl) rfl (by kernel_rfl) (fun _ _ _ _ h => h) (wpT.fork ?_)
        have hS := And.intro c0 (And.intro c1 (And.intro c2 (And.intro c3 (And.intro c4 (And.intro m1 m2)))))
        repeat (first | refine wpP.c0 (h := ?_) | refine wpP.c1 (w := wr.drew) hS (h := ?_))
        refine wpP.fork ?br1 ?br2
        case' br1 =>
          refine wpT.ev (h := fun Kv hKv => ?_)
          have HEX : As (Ext wr wr.drew) := ⟨(Ext.rf _).dr⟩
          go_wp2_with (go_at_call 89; refine (copyShapes_c _ _ _ _ s _ (HV.out.ext HEX.out) HOKS.out.siz).mono ?_; rintro e w2 ⟨C1, C2, C3, C4, rfl, hv, he, hf⟩; have HCP : As (CopyS wr w2 s C1 C2 C3 C4) := ⟨⟨hv, HEX.out.trans he, fun k hk => Nat.le_trans HEX.out.size (hf k hk)⟩⟩; have HX2 : As (Ext wr w2) := ⟨HEX.out.trans he⟩; have HXX := As.mk he; clear hv he hf)
          refine hKv.out _ _ ⟨HX2.out.cellOf c0, HX2.out.cellOf c1, HX2.out.cellOf c2, HX2.out.cellOf c3, HX2.out.cellOf c4, HX2.out.cellOf m1, HX2.out.cellOf m2⟩ (wpT.fork (wpP.fork ?br3 ?br4))
          clear hKv Kv
          case' br3 =>
            refine wpT.ev (h := fun Kv hKv => ?_)
            go_wp2_with (go_at_call 88; refine ((show Calls Try.prog 88 #[.agg #[C1, C2, C3, C4, .bool s.done], .agg #[.int .i64 oc, .int .i64 oa]] _ _ from by rw [HOC.out, HOA.out]; exact stepShapes_c _ _ _ _ s ops[k] _ HCP.out.1 HOKS.out HOO.out)).mono ?_; rw [HRR.out]; rintro e w3 ht; obtain ⟨B1, n1, e1, B2, n2, e2, B3, n3, e3, B4, n4, e4, x, rfl, hf, hp⟩ := ht; have HST : As (StepAt wr w3 none (.slice B1 n1 e1) (.slice B2 n2 e2) (.slice B3 n3 e3) (.slice B4 n4 e4) x) := ⟨HCP.out.step hf hp⟩; have hwf := hf; clear hf hp)
            have he3 := HST.out.1
            refine hKv.out _ _ ⟨he3.cellOf c0, he3.cellOf c1, he3.cellOf c2, he3.cellOf c3, he3.cellOf c4, he3.cellOf m1, he3.cellOf m2⟩ (wpT.lin ?_)
            clear hKv Kv he3
            repeat (first | refine wpP.c0 (h := ?_))
            refine wpP.ev (h := fun Kv hKv => ?_)
            go_wp2_with fail
            have HST5 := As.mk (HST.out.ext ((Ext.rf w3).al (.cells #[.slice none 0 0, .slice none 0 0, .slice none 0 0, .slice none 0 0, .bool false] 51)))
            have hr6 := al_new w3 (.cells #[.slice none 0 0, .slice none 0 0, .slice none 0 0, .slice none 0 0, .bool false] 51)
            have hg6 : wr.heap.size ≤ w3.heap.size := HST.out.1.size
            generalize w3.heap.size = g6 at hr6 hg6 ⊢
            generalize w3.alloc (.cells #[.slice none 0 0, .slice none 0 0, .slice none 0 0, .slice none 0 0, .bool false] 51) = w5 at HST5 hr6 ⊢
            have he3 := HST5.out.1
            refine hKv.out _ _ ⟨he3.cellOf c0, he3.cellOf c1, he3.cellOf c2, he3.cellOf c3, he3.cellOf c4, he3.cellOf m1, he3.cellOf m2⟩ ?_
            clear hKv Kv he3 HST HCP hwf HX2 HXX
            have HR6 := As.mk hr6
            clear hr6
          case' br4 =>
            refine wpT.ev (h := fun Kv hKv => ?_)
            go_wp2_with fail
            have HX3 := As.mk (HX2.out.al (.cells #[.slice none 0 0, .slice none 0 0, .slice none 0 0, .slice none 0 0, .bool false] 51))
            have HCP4 := As.mk (HCP.out.ext ((Ext.rf w2).al (.cells #[.slice none 0 0, .slice none 0 0, .slice none 0 0, .slice none 0 0, .bool false] 51)))
            have hr6 := al_new w2 (.cells #[.slice none 0 0, .slice none 0 0, .slice none 0 0, .slice none 0 0, .bool false] 51)
            have hg6 : wr.heap.size ≤ w2.heap.size := HX2.out.size
            clear HCP HX2 HXX
            have HCP := HCP4
            clear HCP4
            generalize w2.heap.size = g6 at hr6 hg6 ⊢
            generalize w2.alloc (.cells #[.slice none 0 0, .slice none 0 0, .slice none 0 0, .slice none 0 0, .bool false] 51) = w4 at HX3 HCP hr6 ⊢
            have he3 := HX3.out
            refine hKv.out _ _ ⟨he3.cellOf c0, he3.cellOf c1, he3.cellOf c2, he3.cellOf c3, he3.cellOf c4, he3.cellOf m1, he3.cellOf m2⟩ (wpT.lin ?_)
            clear hKv Kv he3
            have HR4 := As.mk hr6
            clear hr6
            refine wpP.ev (h := fun Kv hKv => ?_)
            go_wp2_with (go_at_call 88; refine ((show Calls Try.prog 88 #[.agg #[C1, C2, C3, C4, .bool s.done], .agg #[.int .i64 oc, .int .i64 oa]] _ _ from by rw [HOC.out, HOA.out]; exact stepShapes_c _ _ _ _ s ops[k] _ HCP.out.1 HOKS.out HOO.out)).mono ?_; rw [HRR.out]; rintro e w3 ht; obtain ⟨B1, n1, e1, B2, n2, e2, B3, n3, e3, B4, n4, e4, x, rfl, hf, hp⟩ := ht; have HST : As (StepAt wr w3 none (.slice B1 n1 e1) (.slice B2 n2 e2) (.slice B3 n3 e3) (.slice B4 n4 e4) x) := ⟨HCP.out.step hf hp⟩; have hwf := hf; clear hf hp)
            have he3 := HST.out.1
            refine hKv.out _ _ ⟨he3.cellOf c0, he3.cellOf c1, he3.cellOf c2, he3.cellOf c3, he3.cellOf c4, he3.cellOf m1, he3.cellOf m2⟩ ?_
            clear hKv Kv he3
            have HR6 := As.mk (hwf.blk HR4.out (fun e => HCP.out.1.nb HR4.out e))
            have HST5 := HST
            clear HST HCP hwf HX3 HR4
            generalize w3 = w5 at HST5 HR6 ⊢
        case' br2 =>
          refine wpT.ev (h := fun Kv hKv => ?_)
          go_wp2_with fail
          have HEX : As (Ext wr (wr.alloc (.cells #[.slice none 0 0, .slice none 0 0, .slice none 0 0, .slice none 0 0, .bool false] 51)).drew) := ⟨((Ext.rf _).al _).dr⟩
          have hr6 : SB (wr.alloc (.cells #[.slice none 0 0, .slice none 0 0, .slice none 0 0, .slice none 0 0, .bool false] 51)).drew wr.heap.size (.slice none 0 0) (.slice none 0 0) (.slice none 0 0) (.slice none 0 0) false := al_new wr _
          obtain ⟨g6, hg6e⟩ : ∃ g6, g6 = wr.heap.size := ⟨_, rfl⟩
          rw [← hg6e] at hr6 ⊢
          have hg6 : wr.heap.size ≤ g6 := by omega
          clear hg6e
          generalize (wr.alloc (.cells #[.slice none 0 0, .slice none 0 0, .slice none 0 0, .slice none 0 0, .bool false] 51)).drew = w4 at HEX hr6 ⊢
          have he3 := HEX.out
          refine hKv.out _ _ ⟨he3.cellOf c0, he3.cellOf c1, he3.cellOf c2, he3.cellOf c3, he3.cellOf c4, he3.cellOf m1, he3.cellOf m2⟩ (wpT.lin ?_)
          clear hKv Kv he3
          have HR4 := As.mk hr6
          clear hr6
          refine wpP.ev (h := fun Kv hKv => ?_)
          go_wp2_with (go_at_call 89; refine (copyShapes_c _ _ _ _ s _ (HV.out.ext HEX.out) HOKS.out.siz).mono ?_; rintro e w2 ⟨C1, C2, C3, C4, rfl, hv, he, hf⟩; have HCP : As (CopyS wr w2 s C1 C2 C3 C4) := ⟨⟨hv, HEX.out.trans he, fun k hk => Nat.le_trans HEX.out.size (hf k hk)⟩⟩; have HX2 : As (Ext wr w2) := ⟨HEX.out.trans he⟩; have HXX := As.mk he; clear hv he hf)
          refine hKv.out _ _ ⟨HX2.out.cellOf c0, HX2.out.cellOf c1, HX2.out.cellOf c2, HX2.out.cellOf c3, HX2.out.cellOf c4, HX2.out.cellOf m1, HX2.out.cellOf m2⟩ ?_
          clear hKv Kv
          have HR5 := As.mk (HXX.out.blk HR4.out)
          clear HR4
          refine wpP.ev (h := fun Kv hKv => ?_)
          go_wp2_with (go_at_call 88; refine ((show Calls Try.prog 88 #[.agg #[C1, C2, C3, C4, .bool s.done], .agg #[.int .i64 oc, .int .i64 oa]] _ _ from by rw [HOC.out, HOA.out]; exact stepShapes_c _ _ _ _ s ops[k] _ HCP.out.1 HOKS.out HOO.out)).mono ?_; rw [HRR.out]; rintro e w3 ht; obtain ⟨B1, n1, e1, B2, n2, e2, B3, n3, e3, B4, n4, e4, x, rfl, hf, hp⟩ := ht; have HST : As (StepAt wr w3 none (.slice B1 n1 e1) (.slice B2 n2 e2) (.slice B3 n3 e3) (.slice B4 n4 e4) x) := ⟨HCP.out.step hf hp⟩; have hwf := hf; clear hf hp)
          have he3 := HST.out.1
          refine hKv.out _ _ ⟨he3.cellOf c0, he3.cellOf c1, he3.cellOf c2, he3.cellOf c3, he3.cellOf c4, he3.cellOf m1, he3.cellOf m2⟩ ?_
          clear hKv Kv he3
          have HR6 := As.mk (hwf.blk HR5.out (fun e => HCP.out.1.nb HR5.out e))
          have HST5 := HST
          clear HST HCP hwf HX2 HXX HR5 HEX
          generalize w3 = w5 at HST5 HR6 ⊢
        all_goals
          repeat (first | refine wpP.c0 (h := ?_))
          refine wpP.last (h := fun Kv hKv => ?_)
          have d0 := SB.c0 HR6.out; have d1 := SB.c1 HR6.out; have d2 := SB.c2 HR6.out; have d3 := SB.c3 HR6.out; have d4 := SB.c4 HR6.out
          have f0 := SB.fz HR6.out 0; have f1 := SB.fz HR6.out 1; have f2 := SB.fz HR6.out 2; have f3 := SB.fz HR6.out 3; have f4 := SB.fz HR6.out 4
          go_wp2_with fail
          refine hKv.out _ _ ?_
          clear hKv Kv hS d0 d1 d2 d3 d4 f0 f1 f2 f3 f4
          repeat (first | refine wpP.c0 (h := ?_))
          refine wpP.done ?_
          have hs5 := Fr.set5 (S := fun k => k = g6) (w := w5) (g := g6) rfl (.slice B1 n1 e1) (.slice B2 n2 e2) (.slice B3 n3 e3) (.slice B4 n4 e4) (.bool x)
          have hn6 := SB.all (.slice B1 n1 e1) (.slice B2 n2 e2) (.slice B3 n3 e3) (.slice B4 n4 e4) x HR6.out
          have hE6 := (Fr.then (S := fun _ => False) (Fr.ofExt HST5.out.1) hs5 (fun i hi => .inr (by omega))).ext (fun _ h => h.elim)
          generalize (((((w5.setCell ⟨g6, 0, none⟩ (.slice B1 n1 e1)).setCell ⟨g6, 1, none⟩ (.slice B2 n2 e2)).setCell ⟨g6, 2, none⟩ (.slice B3 n3 e3)).setCell ⟨g6, 3, none⟩ (.slice B4 n4 e4)).setCell ⟨g6, 4, none⟩ (.bool x)) = w6 at hE6 hn6 ⊢
          clear hs5 HST5 HR6 hn6 c0 c1 c2 c3 c4 m1 m2
          have HE6 := As.mk hE6
          clear hE6
          go_wp2_with fail
          go_ret2
          rw [HSA.out.bad HLT.out HSP.out]
          exact ⟨rfl, HEW.out.trans HE6.out⟩
      | some m1' =>
        rw [hsp] at hss
        obtain ⟨s1, hs1⟩ : ∃ s1, s1 = shp m1' := ⟨_, rfl⟩
        have HS1 := As.mk hs1
        have HRR : As (stepS s ops[k] = some s1) := ⟨by rw [hs1]; exact hss⟩
        have HSP := As.mk hsp
        clear hss hsp hs1
        go_upto_region 5 with fail
        refine region_tree (fun w' => w'.cell? ⟨g, 0, none⟩ = some (.slice AK s.kinds.length cK) ∧ w'.cell? ⟨g, 1, none⟩ = some (.slice AF s.full.length cF) ∧ w'.cell? ⟨g, 2, none⟩ = some (.slice AS s.stack.length cS) ∧ w'.cell? ⟨g, 3, none⟩ = some (.slice AM s.memo.length cM) ∧ w'.cell? ⟨g, 4, none⟩ = some (.bool s.done) ∧ w'.cell? (ad.add (k * 2)) = some (.int .i64 oc) ∧ w'.cell? ⟨(ad.add (k * 2)).block, (ad.add (k * 2)).off + 1, none⟩ = some (.int .i64 oa)) [11]
          (.fork [(0, 1), (2, 0), (3, 0), (4, 0), (5, 1)] 1 10 (.fork [] 6 10 (.lin [(7, 0), (8, 0), (9, 0), (10, 2), (11, 3), (12, 0)]) (.lin [(6, 2), (7, 0), (8, 0), (9, 0), (11, 3), (12, 0)])) (.lin [(1, 2), (6, 2), (7, 0), (8, 0), (9, 0), (11, 3), (12, 0)])) (by kernel_rfl) (by kernel_rfl) rfl (by kernel_rfl) (fun _ _ _ _ h => h) (wpT.fork ?_)
        have hS := And.intro c0 (And.intro c1 (And.intro c2 (And.intro c3 (And.intro c4 (And.intro m1 m2)))))
        repeat (first | refine wpP.c0 (h := ?_) | refine wpP.c1 (w := wr.drew) hS (h := ?_))
        refine wpP.fork ?bs1 ?bs2
        case' bs1 =>
          refine wpT.ev (h := fun Kv hKv => ?_)
          have HEX : As (Ext wr wr.drew) := ⟨(Ext.rf _).dr⟩
          go_wp2_with (go_at_call 89; refine (copyShapes_c _ _ _ _ s _ (HV.out.ext HEX.out) HOKS.out.siz).mono ?_; rintro e w2 ⟨C1, C2, C3, C4, rfl, hv, he, hf⟩; have HCP : As (CopyS wr w2 s C1 C2 C3 C4) := ⟨⟨hv, HEX.out.trans he, fun k hk => Nat.le_trans HEX.out.size (hf k hk)⟩⟩; have HX2 : As (Ext wr w2) := ⟨HEX.out.trans he⟩; have HXX := As.mk he; clear hv he hf)
          refine hKv.out _ _ ⟨HX2.out.cellOf c0, HX2.out.cellOf c1, HX2.out.cellOf c2, HX2.out.cellOf c3, HX2.out.cellOf c4, HX2.out.cellOf m1, HX2.out.cellOf m2⟩ (wpT.fork (wpP.fork ?bs3 ?bs4))
          clear hKv Kv
          case' bs3 =>
            refine wpT.ev (h := fun Kv hKv => ?_)
            go_wp2_with (go_at_call 88; refine ((show Calls Try.prog 88 #[.agg #[C1, C2, C3, C4, .bool s.done], .agg #[.int .i64 oc, .int .i64 oa]] _ _ from by rw [HOC.out, HOA.out]; exact stepShapes_c _ _ _ _ s ops[k] _ HCP.out.1 HOKS.out HOO.out)).mono ?_; rw [HRR.out]; rintro e w3 ht; obtain ⟨B1, n1, e1, B2, n2, e2, B3, n3, e3, B4, n4, e4, x, rfl, hf, hp⟩ := ht; have HST : As (StepAt wr w3 (some s1) (.slice B1 n1 e1) (.slice B2 n2 e2) (.slice B3 n3 e3) (.slice B4 n4 e4) x) := ⟨HCP.out.step hf hp⟩; have hwf := hf; clear hf hp)
            have he3 := HST.out.1
            refine hKv.out _ _ ⟨he3.cellOf c0, he3.cellOf c1, he3.cellOf c2, he3.cellOf c3, he3.cellOf c4, he3.cellOf m1, he3.cellOf m2⟩ (wpT.lin ?_)
            clear hKv Kv he3
            repeat (first | refine wpP.c0 (h := ?_))
            refine wpP.ev (h := fun Kv hKv => ?_)
            go_wp2_with fail
            have HST5 := As.mk (HST.out.ext ((Ext.rf w3).al (.cells #[.slice none 0 0, .slice none 0 0, .slice none 0 0, .slice none 0 0, .bool false] 51)))
            have hr6 := al_new w3 (.cells #[.slice none 0 0, .slice none 0 0, .slice none 0 0, .slice none 0 0, .bool false] 51)
            have hg6 : wr.heap.size ≤ w3.heap.size := HST.out.1.size
            generalize w3.heap.size = g6 at hr6 hg6 ⊢
            generalize w3.alloc (.cells #[.slice none 0 0, .slice none 0 0, .slice none 0 0, .slice none 0 0, .bool false] 51) = w5 at HST5 hr6 ⊢
            have he3 := HST5.out.1
            refine hKv.out _ _ ⟨he3.cellOf c0, he3.cellOf c1, he3.cellOf c2, he3.cellOf c3, he3.cellOf c4, he3.cellOf m1, he3.cellOf m2⟩ ?_
            clear hKv Kv he3 HST HCP hwf HX2 HXX
            have HR6 := As.mk hr6
            clear hr6
          case' bs4 =>
            refine wpT.ev (h := fun Kv hKv => ?_)
            go_wp2_with fail
            have HX3 := As.mk (HX2.out.al (.cells #[.slice none 0 0, .slice none 0 0, .slice none 0 0, .slice none 0 0, .bool false] 51))
            have HCP4 := As.mk (HCP.out.ext ((Ext.rf w2).al (.cells #[.slice none 0 0, .slice none 0 0, .slice none 0 0, .slice none 0 0, .bool false] 51)))
            have hr6 := al_new w2 (.cells #[.slice none 0 0, .slice none 0 0, .slice none 0 0, .slice none 0 0, .bool false] 51)
            have hg6 : wr.heap.size ≤ w2.heap.size := HX2.out.size
            clear HCP HX2 HXX
            have HCP := HCP4
            clear HCP4
            generalize w2.heap.size = g6 at hr6 hg6 ⊢
            generalize w2.alloc (.cells #[.slice none 0 0, .slice none 0 0, .slice none 0 0, .slice none 0 0, .bool false] 51) = w4 at HX3 HCP hr6 ⊢
            have he3 := HX3.out
            refine hKv.out _ _ ⟨he3.cellOf c0, he3.cellOf c1, he3.cellOf c2, he3.cellOf c3, he3.cellOf c4, he3.cellOf m1, he3.cellOf m2⟩ (wpT.lin ?_)
            clear hKv Kv he3
            have HR4 := As.mk hr6
            clear hr6
            refine wpP.ev (h := fun Kv hKv => ?_)
            go_wp2_with (go_at_call 88; refine ((show Calls Try.prog 88 #[.agg #[C1, C2, C3, C4, .bool s.done], .agg #[.int .i64 oc, .int .i64 oa]] _ _ from by rw [HOC.out, HOA.out]; exact stepShapes_c _ _ _ _ s ops[k] _ HCP.out.1 HOKS.out HOO.out)).mono ?_; rw [HRR.out]; rintro e w3 ht; obtain ⟨B1, n1, e1, B2, n2, e2, B3, n3, e3, B4, n4, e4, x, rfl, hf, hp⟩ := ht; have HST : As (StepAt wr w3 (some s1) (.slice B1 n1 e1) (.slice B2 n2 e2) (.slice B3 n3 e3) (.slice B4 n4 e4) x) := ⟨HCP.out.step hf hp⟩; have hwf := hf; clear hf hp)
            have he3 := HST.out.1
            refine hKv.out _ _ ⟨he3.cellOf c0, he3.cellOf c1, he3.cellOf c2, he3.cellOf c3, he3.cellOf c4, he3.cellOf m1, he3.cellOf m2⟩ ?_
            clear hKv Kv he3
            have HR6 := As.mk (hwf.blk HR4.out (fun e => HCP.out.1.nb HR4.out e))
            have HST5 := HST
            clear HST HCP hwf HX3 HR4
            generalize w3 = w5 at HST5 HR6 ⊢
        case' bs2 =>
          refine wpT.ev (h := fun Kv hKv => ?_)
          go_wp2_with fail
          have HEX : As (Ext wr (wr.alloc (.cells #[.slice none 0 0, .slice none 0 0, .slice none 0 0, .slice none 0 0, .bool false] 51)).drew) := ⟨((Ext.rf _).al _).dr⟩
          have hr6 : SB (wr.alloc (.cells #[.slice none 0 0, .slice none 0 0, .slice none 0 0, .slice none 0 0, .bool false] 51)).drew wr.heap.size (.slice none 0 0) (.slice none 0 0) (.slice none 0 0) (.slice none 0 0) false := al_new wr _
          obtain ⟨g6, hg6e⟩ : ∃ g6, g6 = wr.heap.size := ⟨_, rfl⟩
          rw [← hg6e] at hr6 ⊢
          have hg6 : wr.heap.size ≤ g6 := by omega
          clear hg6e
          generalize (wr.alloc (.cells #[.slice none 0 0, .slice none 0 0, .slice none 0 0, .slice none 0 0, .bool false] 51)).drew = w4 at HEX hr6 ⊢
          have he3 := HEX.out
          refine hKv.out _ _ ⟨he3.cellOf c0, he3.cellOf c1, he3.cellOf c2, he3.cellOf c3, he3.cellOf c4, he3.cellOf m1, he3.cellOf m2⟩ (wpT.lin ?_)
          clear hKv Kv he3
          have HR4 := As.mk hr6
          clear hr6
          refine wpP.ev (h := fun Kv hKv => ?_)
          go_wp2_with (go_at_call 89; refine (copyShapes_c _ _ _ _ s _ (HV.out.ext HEX.out) HOKS.out.siz).mono ?_; rintro e w2 ⟨C1, C2, C3, C4, rfl, hv, he, hf⟩; have HCP : As (CopyS wr w2 s C1 C2 C3 C4) := ⟨⟨hv, HEX.out.trans he, fun k hk => Nat.le_trans HEX.out.size (hf k hk)⟩⟩; have HX2 : As (Ext wr w2) := ⟨HEX.out.trans he⟩; have HXX := As.mk he; clear hv he hf)
          refine hKv.out _ _ ⟨HX2.out.cellOf c0, HX2.out.cellOf c1, HX2.out.cellOf c2, HX2.out.cellOf c3, HX2.out.cellOf c4, HX2.out.cellOf m1, HX2.out.cellOf m2⟩ ?_
          clear hKv Kv
          have HR5 := As.mk (HXX.out.blk HR4.out)
          clear HR4
          refine wpP.ev (h := fun Kv hKv => ?_)
          go_wp2_with (go_at_call 88; refine ((show Calls Try.prog 88 #[.agg #[C1, C2, C3, C4, .bool s.done], .agg #[.int .i64 oc, .int .i64 oa]] _ _ from by rw [HOC.out, HOA.out]; exact stepShapes_c _ _ _ _ s ops[k] _ HCP.out.1 HOKS.out HOO.out)).mono ?_; rw [HRR.out]; rintro e w3 ht; obtain ⟨B1, n1, e1, B2, n2, e2, B3, n3, e3, B4, n4, e4, x, rfl, hf, hp⟩ := ht; have HST : As (StepAt wr w3 (some s1) (.slice B1 n1 e1) (.slice B2 n2 e2) (.slice B3 n3 e3) (.slice B4 n4 e4) x) := ⟨HCP.out.step hf hp⟩; have hwf := hf; clear hf hp)
          have he3 := HST.out.1
          refine hKv.out _ _ ⟨he3.cellOf c0, he3.cellOf c1, he3.cellOf c2, he3.cellOf c3, he3.cellOf c4, he3.cellOf m1, he3.cellOf m2⟩ ?_
          clear hKv Kv he3
          have HR6 := As.mk (hwf.blk HR5.out (fun e => HCP.out.1.nb HR5.out e))
          have HST5 := HST
          clear HST HCP hwf HX2 HXX HR5 HEX
          generalize w3 = w5 at HST5 HR6 ⊢
        all_goals
          repeat (first | refine wpP.c0 (h := ?_))
          refine wpP.last (h := fun Kv hKv => ?_)
          have d0 := SB.c0 HR6.out; have d1 := SB.c1 HR6.out; have d2 := SB.c2 HR6.out; have d3 := SB.c3 HR6.out; have d4 := SB.c4 HR6.out
          have f0 := SB.fz HR6.out 0; have f1 := SB.fz HR6.out 1; have f2 := SB.fz HR6.out 2; have f3 := SB.fz HR6.out 3; have f4 := SB.fz HR6.out 4
          go_wp2_with fail
          refine hKv.out _ _ ?_
          clear hKv Kv hS d0 d1 d2 d3 d4 f0 f1 f2 f3 f4
          repeat (first | refine wpP.c0 (h := ?_))
          refine wpP.done ?_
          have hs5 := Fr.set5 (S := fun k => k = g6) (w := w5) (g := g6) rfl (.slice B1 n1 e1) (.slice B2 n2 e2) (.slice B3 n3 e3) (.slice B4 n4 e4) (.bool x)
          have hn6 := SB.all (.slice B1 n1 e1) (.slice B2 n2 e2) (.slice B3 n3 e3) (.slice B4 n4 e4) x HR6.out
          have hE6 := (Fr.then (S := fun _ => False) (Fr.ofExt HST5.out.1) hs5 (fun i hi => .inr (by omega))).ext (fun _ h => h.elim)
          obtain ⟨hxd, hvs, hfs⟩ := HST5.out.2 s1 rfl
          have hv6 := hvs.fr hs5 (fun k hk e => hvs.nb HR6.out (by rw [← e]; exact hk))
          generalize (((((w5.setCell ⟨g6, 0, none⟩ (.slice B1 n1 e1)).setCell ⟨g6, 1, none⟩ (.slice B2 n2 e2)).setCell ⟨g6, 2, none⟩ (.slice B3 n3 e3)).setCell ⟨g6, 3, none⟩ (.slice B4 n4 e4)).setCell ⟨g6, 4, none⟩ (.bool x)) = w6 at hE6 hn6 hv6 ⊢
          subst hxd
          obtain ⟨hn1, hn3⟩ := slen hv6.k hv6.t
          subst hn1 hn3
          have HB6 := As.mk hn6
          have HE6 := As.mk hE6
          have HV6 := As.mk hv6
          have HFS := As.mk hfs
          have m16 := hE6.cellOf m1
          have m26 := hE6.cellOf m2
          have hru6 := hE6.blk HRU.out
          clear hs5 HST5 HR6 hvs c0 c1 c2 c3 c4 m1 m2 hE6 hv6 hfs
          have c0 := SB.c0 hn6; have c1 := SB.c1 hn6; have c2 := SB.c2 hn6; have c3 := SB.c3 hn6; have c4 := SB.c4 hn6
          have b0 := RuB.c0 hru6; have b1 := RuB.c1 hru6; have b2 := RuB.c2 hru6; have b3 := RuB.c3 hru6
          have HRU6 := As.mk hru6
          clear hn6 hru6
          have hw1 : IntKind.i64.wrap ((k : Int) + 1) = (k : Int) + 1 := IntWalk.i64_in _ (by omega)
          go_upto_region 8 with fail
          obtain ⟨y, hy⟩ : ∃ y, y = why r ⟨oc, oa⟩ s1.kinds.length s1.stack.length ((k : Int) + 1) := ⟨_, rfl⟩
          have HY := As.mk hy
          have HW1 := As.mk hw1
          clear hy
          refine region_perm (fun w' => w'.cell? ⟨gr, 0, none⟩ = some (.int .i64 r.steps) ∧ w'.cell? ⟨gr, 1, none⟩ = some (.int .i64 r.nodes) ∧ w'.cell? ⟨gr, 2, none⟩ = some (.int .i64 r.deep) ∧ w'.cell? ⟨gr, 3, none⟩ = some (.slice A r.cls.length c) ∧ w'.cell? (ad.add (k * 2)) = some (.int .i64 oc) ∧ w'.cell? ⟨(ad.add (k * 2)).block, (ad.add (k * 2)).off + 1, none⟩ = some (.int .i64 oa) ∧
            w'.cell? ⟨g6, 0, none⟩ = some (.slice B1 s1.kinds.length e1) ∧ w'.cell? ⟨g6, 1, none⟩ = some (.slice B2 n2 e2) ∧ w'.cell? ⟨g6, 2, none⟩ = some (.slice B3 s1.stack.length e3) ∧ w'.cell? ⟨g6, 3, none⟩ = some (.slice B4 n4 e4) ∧ w'.cell? ⟨g6, 4, none⟩ = some (.bool s1.done)) [] [(0, 1), (1, 0), (2, 0), (3, 0), (4, 1), (5, 1), (6, 0), (7, 0), (8, 2), (9, 0)] (by kernel_rfl) (by kernel_rfl) rfl (by kernel_rfl) (fun _ _ _ _ h => h) ?_
          have hS := And.intro b0 (And.intro b1 (And.intro b2 (And.intro b3 (And.intro m16 (And.intro m26 (And.intro c0 (And.intro c1 (And.intro c2 (And.intro c3 c4)))))))))
          repeat (first | refine wpP.c0 (h := ?_) | refine wpP.c1 (w := w6.drew) hS (h := ?_))
          refine wpP.ev (h := fun Kv hKv => ?_)
          have HED : As (Ext w6 w6.drew) := ⟨(Ext.rf _).dr⟩
          generalize w6.drew = w7 at HED ⊢
          clear hw1
          go_wp2_with (go_at_call 138; refine (breach_c r A c oc oa _ _ _ _ _ _ _ _ _ _ _ _ _ _ _ (HCL.out.ext (HEW.out.trans (HE6.out.trans HED.out)))).mono ?_; rw [← HY.out]; rintro e w8 ⟨rfl, he⟩; have HE8 := As.mk (HED.out.trans he); clear he)
          refine hKv.out _ _ ⟨HE8.out.cellOf b0, HE8.out.cellOf b1, HE8.out.cellOf b2, HE8.out.cellOf b3, HE8.out.cellOf m16, HE8.out.cellOf m26, HE8.out.cellOf c0, HE8.out.cellOf c1, HE8.out.cellOf c2, HE8.out.cellOf c3, HE8.out.cellOf c4⟩ ?_
          repeat (first | refine wpP.c0 (h := ?_))
          refine wpP.done ?_
          clear hKv Kv hS b0 b1 b2 b3 m16 m26 c0 c1 c2 c3 c4
          have hyy : y = why r ops[k] m1'.nodes.length m1'.stack.length ((k : Int) + 1) := by
            rw [HY.out, HOC.out, HOA.out, HS1.out]
            simp [shp]
          have HYY := As.mk hyy
          clear hyy
          rcases bceq' y 0 with rfl | qy
          · have hbg := HE8.out.blk HB6.out
            have hbb := HE8.out.blk (HE6.out.blk HBG.out)
            have c0 := SB.c0 hbg; have c1 := SB.c1 hbg; have c2 := SB.c2 hbg; have c3 := SB.c3 hbg; have c4 := SB.c4 hbg
            have d0 := SB.c0 hbb; have d1 := SB.c1 hbb; have d2 := SB.c2 hbb; have d3 := SB.c3 hbb; have d4 := SB.c4 hbb
            have f0 := SB.fz hbb 0; have f1 := SB.fz hbb 1; have f2 := SB.fz hbb 2; have f3 := SB.fz hbb 3; have f4 := SB.fz hbb 4
            have HBB := As.mk hbb
            clear hbg hbb
            go_wp2_with fail
            go_roundw
            case measure => simp only [intOf]; omega
            case rel =>
              have hs6 := Fr.set5 (S := fun k => k = g) (w := w8) (g := g) rfl (.slice B1 s1.kinds.length e1) (.slice B2 n2 e2) (.slice B3 s1.stack.length e3) (.slice B4 n4 e4) (.bool s1.done)
              have hx8 := HE6.out.trans HE8.out
              have hnx := HSA.out.next HLT.out HOO.out HSP.out HYY.out.symm
              exact ⟨k + 1, by omega, by go_num, ⟨_, _, _, _, m1', hnx, by rw [← HS1.out]; exact SB.all _ _ _ _ _ HBB.out, hs6.blk (hx8.blk HRU.out) (by omega), by rw [← HS1.out]; exact (HV6.out.ext HE8.out).fr hs6 (fun k hk e => (HV6.out.ext HE8.out).nb HBB.out (by rw [← e]; exact hk)), (Fr.then (S := fun _ => False) (Fr.ofExt (HEW.out.trans hx8)) hs6 (fun i hi => .inr (by omega))).ext (fun _ h => h.elim), fun k hk => Nat.le_trans HEW.out.size (HFS.out k hk), h8, hgw⟩⟩
          · have HQ := As.mk qy
            go_wp2_with fail
            go_ret2
            rw [HSA.out.stop HLT.out HSP.out (by rw [← HYY.out]; have := HQ.out; simpa using this), ← HYY.out]
            exact ⟨rfl, HEW.out.trans (HE6.out.trans HE8.out)⟩
    · have hkl : k = ops.length := by omega
      have hend := HSA.out.done (by omega) (by omega)
      have hdn : m.done = s.done := by rw [HSM.out]; rfl
      rw [hdn] at hend
      have HEND := As.mk hend
      subst hkl
      clear hend hdn
      cases hd : s.done with
      | true =>
        rw [hd] at c4
        have HD := As.mk hd
        clear hd
        go_wp2_with fail
        go_ret2
        rw [HEND.out, HD.out]
        exact ⟨rfl, HEW.out⟩
      | false =>
        rw [hd] at c4
        have HD := As.mk hd
        clear hd
        go_wp2_with fail
        go_ret2
        rw [HEND.out, HD.out]
        exact ⟨rfl, HEW.out⟩
end Go.Proofs.Ytcodbpjaamggeaa.C
