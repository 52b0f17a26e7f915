/- impl.ForbidClass. -/
import Derived.Test.YtcodbpjaamggeaaIh
import Derived.Test.YtcodbpjaamggeaaPf
import Derived.Test.YtcodbpjaamggeaaJd
set_option linter.unusedVariables false
set_option linter.unusedSimpArgs false
namespace Go.Proofs.Ytcodbpjaamggeaa.C
open Go.RowKit Go.Proofs.Ytcodbpjaamggeaa.W Go.Proofs.Ytcodbpjaamggeaa.P

theorem forb_can {c : Int} {ops : List Opr} {k : Nat} {m : Mc} (h : Forb c ops k m) (hk : k < ops.length) (hr : (runP newM ops).2 = ops.length) : ∃ m1, stepP m ops[k] = some m1 := by
  cases hs : stepP m ops[k] with
  | some m1 => exact ⟨m1, rfl⟩
  | none =>
    have h2 := (runP_stop (ops.take k) (ops.drop (k + 1)) newM m ops[k] h.run hs).1
    rw [← List.drop_eq_getElem_cons hk, List.take_append_drop] at h2
    rw [h2, List.length_take] at hr
    simp only at hr
    omega
theorem EI.new {w W : World} {gM : Nat} (hI : IR W (.slice (some ⟨gM, 0, none⟩) 20 20) newM.memo) (hg : w.heap.size ≤ gM) (e : Ext w W) :
    EI w (W.alloc (.cells #[.slice none 0 0, .slice none 0 0, .slice (some ⟨gM, 0, none⟩) 20 20, .bool false] 64)) W.heap.size 0 newM (.slice none 0 0) [] (.slice none 0 0) [] := by
  have hs := e.size
  refine ⟨⟨fun j => w.heap.size ≤ j, [], .slice none 0 0, .slice none 0 0, .slice (some ⟨gM, 0, none⟩) 20 20, ?_, fun k hk => hk, fun k hk => (nil_own hk).elim, fun k hk => (nil_own hk).elim⟩, okM_new, nilO _, nilO _, e.al _, fun k hk => (nil_own hk).elim, fun k hk => (nil_own hk).elim, fun k hk => (nil_own hk).elim⟩
  refine ⟨al_new _ _, NR.nil _, rfl, IR.nil _, hI.ext ((Ext.rf _).al _), fun j hj => ?_, List.Pairwise.nil, by simp, by simp, fun j hj => by simp [Value.ownBlock] at hj, fun j hj => by rw [al_size] at hj; show w.heap.size ≤ j; omega⟩
  rcases hj with e | e | e | e | ⟨p, hp, e⟩
  · show w.heap.size ≤ j; omega
  · simp [Value.ownBlock] at e
  · simp [Value.ownBlock] at e
  · have e : gM = j := by injection e
    show w.heap.size ≤ j; omega
  · simp at hp
/-- An order is done; a block of orders stays. -/
theorem EI.stepX {w W g Bd m v x u y} (h : EI w W g Bd m v x u y) (hBd : Bd ≤ 2000000) (o : Opr) (ho : okO o = true) {b : Nat} {cs : Array Value} {fr : Nat × Nat} (hb : W.heap[b]? = some (.cells cs 82 fr)) :
    Calls Try.prog 91 #[.pointer (some ⟨g, 0, none⟩), .agg #[.int .i64 o.code, .int .i64 o.arg]] W fun e W' => e = .returned (.bool (stepP m o).isSome) ∧ EI w W' g (Bd + 301) ((stepP m o).getD m) v x u y ∧ W'.heap[b]? = some (.cells cs 82 fr) := by
  obtain ⟨B, l, vN, vS, vM, h1, h2, h3, h4⟩ := h.mm
  have hlt := (Array.getElem?_eq_some_iff.1 hb).1
  have hne : ∀ k, Foot g l vN vS vM k → k ≠ b := by
    intro k hk e
    subst e
    rcases hk with e | e | e | e | ⟨p, hp, e⟩
    · subst e
      have hmb : W.heap[k]? = _ := h1.mb
      rw [hmb] at hb
      injection hb with hb
      injection hb with _ ht
      exact absurd ht (by decide)
    · exact own_ne_blk h1.nr.1 hb (by decide) e
    · exact own_ne_blk h1.sr hb (by decide) e
    · exact own_ne_blk h1.me hb (by decide) e
    · exact own_ne_blk (h1.nr.2 p hp).1 hb (by decide) e
  have hx : MR (fun j => B j ∧ j ≠ b) W g l vN vS vM m := h1.base (fun k hk => ⟨h1.lo k hk, hne k hk⟩) (fun k hk => ⟨h1.up k hk, by omega⟩)
  refine (step_m hx h.ok hBd o ho).mono ?_
  rintro e W' ⟨k1, k2, l', vN', vS', k3⟩
  refine ⟨k1, ⟨⟨fun j => B j ∧ j ≠ b, l', vN', vS', vM, k3, fun k hk => h2 k hk.1, fun k hk hB => h3 k hk hB.1, fun k hk hB => h4 k hk hB.1⟩, ?_, h.ov.fr k2 (fun k hk hB => h3 k hk hB.1), h.ou.fr k2 (fun k hk hB => h4 k hk hB.1), (Fr.then (S := fun _ => False) (Fr.ofExt h.e) k2 (fun k hk => .inr (h2 k hk.1))).ext (fun _ h => h.elim), h.fv, h.fu, h.a⟩, k2.blk hb (fun hB => hB.2 rfl)⟩
  cases hs : stepP m o with
  | none => exact h.ok.mono (by omega)
  | some m' => exact okM_step h.ok ho hs
/-- A box of an order is written. -/
theorem EI.box2 {w W g Bd m v x u y} (h : EI w W g Bd m v x u y) {b : Nat} {oc oa : Int} (hb : OB W b oc oa) (hv : v.ownBlock ≠ some b) (hu : u.ownBlock ≠ some b) (hw : w.heap.size ≤ b) (oc' oa' : Int) :
    EI w ((W.setCell ⟨b, 0, none⟩ (.int .i64 oc')).setCell ⟨b, 1, none⟩ (.int .i64 oa')) g Bd m v x u y ∧ OB ((W.setCell ⟨b, 0, none⟩ (.int .i64 oc')).setCell ⟨b, 1, none⟩ (.int .i64 oa')) b oc' oa' := by
  obtain ⟨B, l, vN, vS, vM, h1, h2, h3, h4⟩ := h.mm
  have hf : Fr (fun k => k = b) W ((W.setCell ⟨b, 0, none⟩ (.int .i64 oc')).setCell ⟨b, 1, none⟩ (.int .i64 oa')) := (Fr.set (S := fun k => k = b) W _ rfl).trans (Fr.set _ _ rfl)
  have hne : ∀ k, Foot g l vN vS vM k → k ≠ b := by
    intro k hk e
    subst e
    rcases hk with e | e | e | e | ⟨p, hp, e⟩
    · subst e
      have hmb : W.heap[k]? = _ := h1.mb
      have hb' : W.heap[k]? = _ := hb
      rw [hmb] at hb'
      injection hb' with hb'
      injection hb' with _ ht
      exact absurd ht (by decide)
    · exact own_ne_blk h1.nr.1 hb (by decide) e
    · exact own_ne_blk h1.sr hb (by decide) e
    · exact own_ne_blk h1.me hb (by decide) e
    · exact own_ne_blk (h1.nr.2 p hp).1 hb (by decide) e
  refine ⟨⟨⟨B, l, vN, vS, vM, h1.keep hf.size (fun k hk => hf.block k (h1.foot_lt k hk) (hne k hk)), h2, h3, h4⟩, h.ok, h.ov.fr hf (fun k hk e => hv (by rw [hk, e])), h.ou.fr hf (fun k hk e => hu (by rw [hk, e])), (Fr.then (S := fun _ => False) (Fr.ofExt h.e) hf (fun k hk => .inr (by omega))).ext (fun _ h => h.elim), h.fv, h.fu, h.a⟩, ?_⟩
  have hlt := (Array.getElem?_eq_some_iff.1 hb).1
  have h' : W.heap[b]? = _ := hb
  simp [OB, World.setCell, Array.getElem?_modify, h']
theorem OB.fz {w g c a} (h : OB w g c a) (j : Nat) : w.frozen? ⟨g, j, none⟩ = false := by simp [World.frozen?, h]
theorem EI.cells5 {w W g Bd m v x u y} (h : EI w W g Bd m v x u y) : ∃ AN cN AS cS AM cM, W.cell? ⟨g, 0, none⟩ = some (.slice AN m.nodes.length cN) ∧ W.cell? ⟨g, 1, none⟩ = some (.slice AS m.stack.length cS) ∧ W.cell? ⟨g, 2, none⟩ = some (.slice AM m.memo.length cM) ∧ W.cell? ⟨g, 3, none⟩ = some (.bool m.done) ∧ RM W AN AS AM m := by
  obtain ⟨B, l, vN, vS, vM, h1, _, _, _⟩ := h.mm
  obtain ⟨AN, cN, AS, cS, AM, cM, rfl, rfl, rfl, hr⟩ := h1.rm (by have := h.ok.nl; omega) (by have := h.ok.sl; omega) (by have := h.ok.ml; omega)
  exact ⟨AN, cN, AS, cS, AM, cM, MB.c0 h1.mb, MB.c1 h1.mb, MB.c2 h1.mb, MB.c3 h1.mb, hr⟩
def forbidR (ops : List Opr) (c : Int) : List Opr := if vOps ops = true ∧ (runP newM ops).2 = ops.length ∧ 0 ≤ c ∧ c ≤ 9 then forb c newM ops else []
/-- What the loop keeps. -/
def FbAt (c : Int) (ops : List Opr) (w : World) (g k : Nat) (o : Value) (W : World) : Prop := ∃ A' c' m, o = .slice A' k c' ∧ Forb c ops k m ∧ EI w W g (301 * k) (forbM c newM (ops.take k)) (.slice none 0 0) [] (.slice A' k c') (forb c newM (ops.take k))
theorem fb_next {c : Int} {ops : List Opr} {w W W' : World} {g k : Nat} {m1 m' : Mc} {A' : Option Addr} {c' gP cP : Nat} (hk : k < ops.length) (hf : Forb c ops (k + 1) m1) (hm : m' = forbM c newM (ops.take (k + 1)))
    (h : EI w W g (301 * k + 301) m' (.slice none 0 0) [] (.slice A' k c') (forb c newM (ops.take k))) {o : Opr} (ho : turnP c (forbM c newM (ops.take k)) ops[k] = o)
    (hap : AppO (.slice A' k c') (forb c newM (ops.take k)) (forb c newM (ops.take k) ++ [o]) W gP cP W') : FbAt c ops w g (k + 1) (.slice (some ⟨gP, 0, none⟩) (k + 1) cP) W' := by
  have h2 := h.app hap
  have hl : (forb c newM (ops.take k)).length = k := by rw [forb_len, List.length_take]; omega
  rw [hl, ← ho, ← (forb_snoc c (ops.take k) newM ops[k]).1, ← List.take_succ_eq_append_getElem hk] at h2
  rw [hm] at h2
  exact ⟨_, _, m1, rfl, hf, by rw [show 301 * (k + 1) = 301 * k + 301 by omega]; exact h2⟩
set_option maxRecDepth 100000 in
set_option maxHeartbeats 4000000 in
theorem ForbidClass_c (A : Option Addr) (c0 : Nat) (ops : List Opr) (c : Int) (w : World) (hr : RdO w A ops) :
    Calls Try.prog 38 #[.slice A ops.length c0, .int .i64 c] w (OwnO (forbidR ops c) w) := by
  have hlen := hr.1
  have HR := As.mk hr
  clear hr
  by_cases hall : vOps ops = true ∧ (runP newM ops).2 = ops.length ∧ 0 ≤ c ∧ c ≤ 9
  · have HB : As (forbidR ops c = forb c newM ops) := ⟨by unfold forbidR; rw [if_pos hall]⟩
    have HF : As (firstBad ops = -1) := ⟨by unfold firstBad; rw [if_pos hall.1, if_pos hall.2.1]⟩
    have hv := vOps_all hall.1
    have HALL := As.mk hv
    have HRUN := As.mk hall.2.1
    obtain ⟨-, -, hc0, hc9⟩ := hall
    have hl3 : ops.length ≤ 300 := hv.2
    clear hv
    go_enter Try.func38, Try.ntmps38
    go_upto_region 4 with (first | (go_at_call 22; refine (FirstBad_c _ _ _ _ HR.out).mono ?_; rw [HF.out]; rintro e w1 ⟨rfl, he⟩; have HE := As.mk he; clear he) | (go_at_call 90; refine (NewMachine_c _).mono ?_; rintro e w3 ⟨gM, rfl, he, hI, hM⟩; have hmi := EI.new (w := w) hI (Nat.le_trans HE.out.size hM) (HE.out.trans he); have HMI := As.mk hmi; clear he hI hM hmi))
    generalize w3.alloc (.cells #[.slice none 0 0, .slice none 0 0, .slice (some ⟨gM, 0, none⟩) 20 20, .bool false] 64) = w4 at HMI ⊢
    generalize w3.heap.size = g at HMI ⊢
    clear HE
    go_upto_region 5 with fail
    have HL := As.mk HMI.out.lit
    generalize w4.alloc (.cells #[] 82) = w5 at HL ⊢
    generalize w4.heap.size = b0 at HL ⊢
    clear HMI
    go_upto_region 6 with fail
    go_loopw [6, 24] (fun o i wr => ∃ k : Nat, k ≤ ops.length ∧ i = .int .i64 k ∧ As (FbAt c ops w g k o wr)) (fun _ i _ => ops.length - (intOf i).toNat)
    case atStart => exact ⟨0, Nat.zero_le _, rfl, ⟨⟨_, _, newM, rfl, Forb.new c ops, HL.out⟩⟩⟩
    case round =>
      obtain ⟨k, hk, rfl, hst⟩ := hrel
      obtain ⟨A', c', m, rfl, hfb, hei⟩ := hst.out
      have HFB := As.mk hfb
      have HEI := As.mk hei
      clear hst hfb hei HL
      by_cases hlt : k < ops.length
      · obtain ⟨ad, rfl, m1, m2⟩ := (HR.out.ext HEI.out.e).2 k hlt
        obtain ⟨mo, hso⟩ := forb_can HFB.out hlt HRUN.out
        have hoo : okO ops[k] = true := List.all_eq_true.1 HALL.out.1 _ (List.getElem_mem hlt)
        obtain ⟨h14, ⟨mn, hsn, hmn⟩, hfn⟩ := HFB.out.next hlt hoo hso
        have hlk : (forb c newM (ops.take k)).length = k := by rw [forb_len, List.length_take]; omega
        have hto := turn_ok (c := c) (m := forbM c newM (ops.take k)) hoo
        obtain ⟨mm, hmm⟩ : ∃ mm, mm = forbM c newM (ops.take k) := ⟨_, rfl⟩
        obtain ⟨y, hy⟩ : ∃ y, y = forb c newM (ops.take k) := ⟨_, rfl⟩
        obtain ⟨oc, hoc⟩ : ∃ oc, oc = ops[k].code := ⟨_, rfl⟩
        obtain ⟨oa, hoa⟩ : ∃ oa, oa = ops[k].arg := ⟨_, rfl⟩
        have HO : As (ops[k] = ⟨oc, oa⟩) := ⟨by rw [hoc, hoa]⟩
        rw [← hoc] at m1
        rw [← hoa] at m2
        rw [← hmm] at h14 hsn hto
        have HMM := As.mk hmm
        have HY := As.mk hy
        have HLK : As (y.length = k) := ⟨by rw [hy]; exact hlk⟩
        have HEI2 : As (EI w wr g (301 * k) mm (.slice none 0 0) [] (.slice A' k c') y) := ⟨by rw [hmm, hy]; exact HEI.out⟩
        have HN := As.mk (And.intro h14 (And.intro hsn (And.intro hmn (And.intro hfn hto))))
        have q1 : (k : Int) < ops.length := by omega
        clear h14 hsn hmn hfn hto hlk hmm hy hoc hoa hoo hso HEI HFB
        have hub : (Value.slice A' k c').ownBlock ≠ some wr.heap.size := fun e => by have := own_lt HEI2.out.ou e; omega
        have hwb : w.heap.size ≤ wr.heap.size := HEI2.out.e.size
        have HUB := As.mk hub
        clear hub
        by_cases ha : oc = 13 ∧ oa = c
        · obtain ⟨rfl, rfl⟩ := ha
          have HT : As (turnP oa mm ops[k] = ⟨7, 0⟩) := ⟨by rw [HO.out]; unfold turnP; rw [if_pos ⟨rfl, rfl⟩]⟩
          go_upto_region 10 with fail
          have hob := al_new wr (.cells #[.int .i64 7, .int .i64 0] 82)
          have HE6 := As.mk (HEI2.out.ext ((Ext.rf wr).al (.cells #[.int .i64 7, .int .i64 0] 82)))
          generalize wr.alloc (.cells #[.int .i64 7, .int .i64 0] 82) = w6 at hob HE6 ⊢
          obtain ⟨b, hbb⟩ : ∃ b, b = wr.heap.size := ⟨_, rfl⟩
          rw [← hbb] at hob HUB hwb ⊢
          have hob : OB w6 b 7 0 := hob
          have HOB := As.mk hob
          have o0 := OB.c0 hob; have o1 := OB.c1 hob
          clear hob hbb
          go_quiet (fail)
          have hss := HN.out.2.1
          rw [HT.out] at hss
          have HSS := As.mk hss
          have hok := HN.out.2.2.2.2
          rw [HT.out] at hok
          have HOK := As.mk hok
          clear hss hok
          go_upto_region 13 with (go_at_call 91; refine (EI.stepX (HE6.out.ext ((Ext.rf _).dN _)) (by omega) ⟨7, 0⟩ HOK.out (b := b) HOB.out).mono ?_; rw [HSS.out]; rintro e w7 ⟨rfl, he, hb⟩; have HE7 : As (EI w w7 g (301 * k + 301) mn (.slice none 0 0) [] (.slice A' k c') y) := ⟨he⟩; have hb : OB w7 b 7 0 := hb; have o0 := OB.c0 hb; have o1 := OB.c1 hb; clear he hb)
          go_wp2_with ((at_builtin; refine app_op rfl _ _ rfl (.slice A' k c') y ⟨7, 0⟩ rfl rfl HE7.out.ou (by rw [HLK.out]; omega) ?_; rw [HLK.out]; intro gP cP w8 hap; have HO8 : As (FbAt oa ops w g (k + 1) (.slice (some ⟨gP, 0, none⟩) (k + 1) cP) w8) := ⟨fb_next (o := ⟨7, 0⟩) hlt HN.out.2.2.2.1 HN.out.2.2.1 (by rw [← HY.out]; exact HE7.out) (by rw [← HMM.out]; exact HT.out) (by rw [← HY.out]; exact hap)⟩; clear hap))
          go_roundw
          case measure => simp only [intOf]; omega
          case rel => exact ⟨k + 1, by omega, by go_num, HO8⟩
        · by_cases h14 : oc = 14
          · subst h14
            obtain ⟨s1, s2, s3⟩ := HN.out.1 (by rw [HO.out])
            go_upto_region 10 with fail
            have hob := al_new wr (.cells #[.int .i64 14, .int .i64 oa] 82)
            have HE6 := As.mk (HEI2.out.ext ((Ext.rf wr).al (.cells #[.int .i64 14, .int .i64 oa] 82)))
            generalize wr.alloc (.cells #[.int .i64 14, .int .i64 oa] 82) = w6 at hob HE6 ⊢
            obtain ⟨b, hbb⟩ : ∃ b, b = wr.heap.size := ⟨_, rfl⟩
            rw [← hbb] at hob HUB hwb ⊢
            have hob : OB w6 b 14 oa := hob
            have HOB := As.mk hob
            have o0 := OB.c0 hob; have o1 := OB.c1 hob
            clear hob hbb
            obtain ⟨AN, cN, AS, cS, AM, cM, p0, p1, p2, p3, hrm⟩ := HE6.out.cells5
            obtain ⟨n2, hn2⟩ : ∃ n2, mm.stack.length = n2 + 2 := ⟨mm.stack.length - 2, by omega⟩
            have hsl : mm.stack.length ≤ 300 := HEI2.out.ok.sl
            have hnl : mm.nodes.length ≤ 300 := HEI2.out.ok.nl
            obtain ⟨a3, rfl, r1⟩ := hrm.s.2 n2 (by omega)
            have hst2 : mm.stack[n2]'(by omega) = st mm.stack 1 := by rw [st_at _ _ s1]; congr 1; omega
            rw [hst2] at r1
            obtain ⟨xn, hxn⟩ := Int.eq_ofNat_of_zero_le s2
            rw [hxn] at r1 s3
            obtain ⟨a4, K4, cK4, rfl, r2, -, -, -, -⟩ := hrm.n.2 xn (by omega)
            obtain ⟨kd, hkd⟩ : ∃ kd, kd = (nd mm (st mm.stack 1)).kind := ⟨_, rfl⟩
            have hkd2 : (mm.nodes[xn]'(by omega)).kind = kd := by
              rw [hkd, hxn]; unfold nd
              rw [Int.toNat_natCast, List.getD_eq_getElem?_getD, List.getElem?_eq_getElem (by omega)]; rfl
            rw [hkd2] at r2
            obtain ⟨nn, hnn⟩ : ∃ nn, nn = mm.nodes.length := ⟨_, rfl⟩
            rw [← hnn] at p0 hnl s3
            rw [hn2] at p1
            have HKD := As.mk hkd
            have hn23 : n2 + 2 ≤ 300 := by omega
            have q2 : (xn : Int) < nn := by omega
            have w1 : IntKind.i64.wrap ((n2 : Int) + 2 - 2) = (n2 : Int) := by rw [IntWalk.i64_in _ (by omega)]; omega
            have w2 : IntKind.i64.wrap (n2 : Int) = (n2 : Int) := IntWalk.i64_in _ (by omega)
            have hxl : xn < nn := by omega
            clear hrm hkd hkd2 hnn s1 s2 s3 hn2 hst2 hxn hsl p2 p3 ha
            rcases bceq' kd 3 with rfl | k3
            · have HT : As (turnP c mm ops[k] = ⟨8, 0⟩) := ⟨by rw [HO.out]; unfold turnP; rw [if_neg (by simp), if_pos ⟨rfl, HKD.out.symm⟩]⟩
              go_quiet (fail)
              clear w1 w2 p0 p1 r1 r2
              have hss := HN.out.2.1
              rw [HT.out] at hss
              have HSS := As.mk hss
              have hok := HN.out.2.2.2.2
              rw [HT.out] at hok
              have HOK := As.mk hok
              clear hss hok
              have f0 := OB.fz HOB.out 0; have f1 := OB.fz HOB.out 1
              go_upto_region 13 with (go_at_call 91; refine (EI.stepX (EI.box2 (HE6.out.ext ((Ext.rf _).dN _)) HOB.out (by simp [Value.ownBlock]) HUB.out hwb 8 0).1 (by omega) ⟨8, 0⟩ HOK.out (b := b) (EI.box2 (HE6.out.ext ((Ext.rf _).dN _)) HOB.out (by simp [Value.ownBlock]) HUB.out hwb 8 0).2).mono ?_; rw [HSS.out]; rintro e w7 ⟨rfl, he, hb⟩; have HE7 : As (EI w w7 g (301 * k + 301) mn (.slice none 0 0) [] (.slice A' k c') y) := ⟨he⟩; have hb : OB w7 b 8 0 := hb; have o0 := OB.c0 hb; have o1 := OB.c1 hb; clear he hb)
              go_wp2_with ((at_builtin; refine app_op rfl _ _ rfl (.slice A' k c') y ⟨8, 0⟩ rfl rfl HE7.out.ou (by rw [HLK.out]; omega) ?_; rw [HLK.out]; intro gP cP w8 hap; have HO8 : As (FbAt c ops w g (k + 1) (.slice (some ⟨gP, 0, none⟩) (k + 1) cP) w8) := ⟨fb_next (o := ⟨8, 0⟩) hlt HN.out.2.2.2.1 HN.out.2.2.1 (by rw [← HY.out]; exact HE7.out) (by rw [← HMM.out]; exact HT.out) (by rw [← HY.out]; exact hap)⟩; clear hap))
              go_roundw
              case measure => simp only [intOf]; omega
              case rel => exact ⟨k + 1, by omega, by go_num, HO8⟩
            · have HT : As (turnP c mm ops[k] = ⟨14, oa⟩) := ⟨by rw [HO.out]; unfold turnP; rw [if_neg (by simp), if_neg (by rw [← HKD.out]; simp at k3; simp [k3])]⟩
              go_quiet (fail)
              clear w1 w2 p0 p1 r1 r2
              have hss := HN.out.2.1
              rw [HT.out] at hss
              have HSS := As.mk hss
              have hok := HN.out.2.2.2.2
              rw [HT.out] at hok
              have HOK := As.mk hok
              clear hss hok
              go_upto_region 13 with (go_at_call 91; refine (EI.stepX (HE6.out.ext ((Ext.rf _).dN _)) (by omega) ⟨14, oa⟩ HOK.out (b := b) HOB.out).mono ?_; rw [HSS.out]; rintro e w7 ⟨rfl, he, hb⟩; have HE7 : As (EI w w7 g (301 * k + 301) mn (.slice none 0 0) [] (.slice A' k c') y) := ⟨he⟩; have hb : OB w7 b 14 oa := hb; have o0 := OB.c0 hb; have o1 := OB.c1 hb; clear he hb)
              go_wp2_with ((at_builtin; refine app_op rfl _ _ rfl (.slice A' k c') y ⟨14, oa⟩ rfl rfl HE7.out.ou (by rw [HLK.out]; omega) ?_; rw [HLK.out]; intro gP cP w8 hap; have HO8 : As (FbAt c ops w g (k + 1) (.slice (some ⟨gP, 0, none⟩) (k + 1) cP) w8) := ⟨fb_next (o := ⟨14, oa⟩) hlt HN.out.2.2.2.1 HN.out.2.2.1 (by rw [← HY.out]; exact HE7.out) (by rw [← HMM.out]; exact HT.out) (by rw [← HY.out]; exact hap)⟩; clear hap))
              go_roundw
              case measure => simp only [intOf]; omega
              case rel => exact ⟨k + 1, by omega, by go_num, HO8⟩
          · have HT : As (turnP c mm ops[k] = ⟨oc, oa⟩) := ⟨by rw [HO.out]; unfold turnP; rw [if_neg ha, if_neg (by simp [h14])]⟩
            have q14 : (oc == 14) = false := by simpa using h14
            rcases bceq' oc 13 with rfl | q13
            · have qc : (oa == c) = false := by simp at ha; simpa using ha
              clear ha h14
              go_upto_region 10 with fail
              have hob := al_new wr (.cells #[.int .i64 13, .int .i64 oa] 82)
              have HE6 := As.mk (HEI2.out.ext ((Ext.rf wr).al (.cells #[.int .i64 13, .int .i64 oa] 82)))
              generalize wr.alloc (.cells #[.int .i64 13, .int .i64 oa] 82) = w6 at hob HE6 ⊢
              obtain ⟨b, hbb⟩ : ∃ b, b = wr.heap.size := ⟨_, rfl⟩
              rw [← hbb] at hob HUB hwb ⊢
              have hob : OB w6 b 13 oa := hob
              have HOB := As.mk hob
              have o0 := OB.c0 hob; have o1 := OB.c1 hob
              clear hob hbb
              go_quiet (fail)
              have hss := HN.out.2.1
              rw [HT.out] at hss
              have HSS := As.mk hss
              have hok := HN.out.2.2.2.2
              rw [HT.out] at hok
              have HOK := As.mk hok
              clear hss hok
              go_upto_region 13 with (go_at_call 91; refine (EI.stepX (HE6.out.ext ((Ext.rf _).dN _)) (by omega) ⟨13, oa⟩ HOK.out (b := b) HOB.out).mono ?_; rw [HSS.out]; rintro e w7 ⟨rfl, he, hb⟩; have HE7 : As (EI w w7 g (301 * k + 301) mn (.slice none 0 0) [] (.slice A' k c') y) := ⟨he⟩; have hb : OB w7 b 13 oa := hb; have o0 := OB.c0 hb; have o1 := OB.c1 hb; clear he hb)
              go_wp2_with ((at_builtin; refine app_op rfl _ _ rfl (.slice A' k c') y ⟨13, oa⟩ rfl rfl HE7.out.ou (by rw [HLK.out]; omega) ?_; rw [HLK.out]; intro gP cP w8 hap; have HO8 : As (FbAt c ops w g (k + 1) (.slice (some ⟨gP, 0, none⟩) (k + 1) cP) w8) := ⟨fb_next (o := ⟨13, oa⟩) hlt HN.out.2.2.2.1 HN.out.2.2.1 (by rw [← HY.out]; exact HE7.out) (by rw [← HMM.out]; exact HT.out) (by rw [← HY.out]; exact hap)⟩; clear hap))
              go_roundw
              case measure => simp only [intOf]; omega
              case rel => exact ⟨k + 1, by omega, by go_num, HO8⟩
            · clear ha h14
              go_upto_region 10 with fail
              have hob := al_new wr (.cells #[.int .i64 oc, .int .i64 oa] 82)
              have HE6 := As.mk (HEI2.out.ext ((Ext.rf wr).al (.cells #[.int .i64 oc, .int .i64 oa] 82)))
              generalize wr.alloc (.cells #[.int .i64 oc, .int .i64 oa] 82) = w6 at hob HE6 ⊢
              obtain ⟨b, hbb⟩ : ∃ b, b = wr.heap.size := ⟨_, rfl⟩
              rw [← hbb] at hob HUB hwb ⊢
              have hob : OB w6 b oc oa := hob
              have HOB := As.mk hob
              have o0 := OB.c0 hob; have o1 := OB.c1 hob
              clear hob hbb
              go_quiet (fail)
              have hss := HN.out.2.1
              rw [HT.out] at hss
              have HSS := As.mk hss
              have hok := HN.out.2.2.2.2
              rw [HT.out] at hok
              have HOK := As.mk hok
              clear hss hok
              go_upto_region 13 with (go_at_call 91; refine (EI.stepX (HE6.out.ext ((Ext.rf _).dN _)) (by omega) ⟨oc, oa⟩ HOK.out (b := b) HOB.out).mono ?_; rw [HSS.out]; rintro e w7 ⟨rfl, he, hb⟩; have HE7 : As (EI w w7 g (301 * k + 301) mn (.slice none 0 0) [] (.slice A' k c') y) := ⟨he⟩; have hb : OB w7 b oc oa := hb; have o0 := OB.c0 hb; have o1 := OB.c1 hb; clear he hb)
              go_wp2_with ((at_builtin; refine app_op rfl _ _ rfl (.slice A' k c') y ⟨oc, oa⟩ rfl rfl HE7.out.ou (by rw [HLK.out]; omega) ?_; rw [HLK.out]; intro gP cP w8 hap; have HO8 : As (FbAt c ops w g (k + 1) (.slice (some ⟨gP, 0, none⟩) (k + 1) cP) w8) := ⟨fb_next (o := ⟨oc, oa⟩) hlt HN.out.2.2.2.1 HN.out.2.2.1 (by rw [← HY.out]; exact HE7.out) (by rw [← HMM.out]; exact HT.out) (by rw [← HY.out]; exact hap)⟩; clear hap))
              go_roundw
              case measure => simp only [intOf]; omega
              case rel => exact ⟨k + 1, by omega, by go_num, HO8⟩
      · have hkl : k = ops.length := by omega
        subst hkl
        go_wp2_with fail
        go_ret
        have h2 := HEI.out
        rw [List.take_length] at h2
        rw [HB.out]
        have hl : (forb c newM ops).length = ops.length := forb_len c ops newM
        exact ⟨A', c', by rw [hl]; rfl, by rw [hl]; exact h2.ou, h2.e, by rw [hl]; exact h2.fu⟩
  · have HB : As (forbidR ops c = []) := ⟨by unfold forbidR; rw [if_neg hall]⟩
    obtain ⟨fb, hfb⟩ : ∃ fb, fb = firstBad ops := ⟨_, rfl⟩
    have hcase : fb = -1 → c < 0 ∨ 9 < c := by
      intro e
      rw [hfb] at e
      unfold firstBad at e
      split at e
      · rename_i h1
        split at e
        · rename_i h2
          by_cases h3 : c < 0
          · exact .inl h3
          · by_cases h4 : 9 < c
            · exact .inr h4
            · exact absurd ⟨h1, h2, by omega, by omega⟩ hall
        · omega
      · omega
    have HFB := As.mk hfb
    have HCS := As.mk hcase
    clear hfb hcase hall
    rcases bceq' fb (-1) with rfl | q
    · rcases HCS.out rfl with hc | hc
      · go_enter Try.func38, Try.ntmps38
        go_wp2_with (go_at_call 22; refine (FirstBad_c _ _ _ _ HR.out).mono ?_; rw [← HFB.out]; rintro e w1 ⟨rfl, he⟩; have HE := As.mk he; clear he)
        go_ret
        rw [HB.out]
        exact (OwnO.nil _).ext HE.out
      · have hc0 : 0 ≤ c := by omega
        go_enter Try.func38, Try.ntmps38
        go_wp2_with (go_at_call 22; refine (FirstBad_c _ _ _ _ HR.out).mono ?_; rw [← HFB.out]; rintro e w1 ⟨rfl, he⟩; have HE := As.mk he; clear he)
        go_ret
        rw [HB.out]
        exact (OwnO.nil _).ext HE.out
    · have q2 : (fb != -1) = true := by simp at q; simp [q]
      go_enter Try.func38, Try.ntmps38
      go_wp2_with (go_at_call 22; refine (FirstBad_c _ _ _ _ HR.out).mono ?_; rw [← HFB.out]; rintro e w1 ⟨rfl, he⟩; have HE := As.mk he; clear he)
      go_ret
      rw [HB.out]
      exact (OwnO.nil _).ext HE.out
end Go.Proofs.Ytcodbpjaamggeaa.C
