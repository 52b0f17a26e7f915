/- spec.ForbidClass. -/
import Derived.Test.YtcodbpjaamggeaaKa
import Derived.Test.YtcodbpjaamggeaaIi
set_option linter.unusedVariables false
set_option linter.unusedSimpArgs false
namespace Go.Proofs.Ytcodbpjaamggeaa.C
open Go.RowKit Go.Proofs.Ytcodbpjaamggeaa.W Go.Proofs.Ytcodbpjaamggeaa.P

theorem shapeAt_k (AK AS AF AM : Option Addr) (cK cS nF cF nM cM : Nat) (dn : Bool) (s : Sh) (w : World) (hK : RdI w AK s.kinds) (hS : RdI w AS s.stack) (hi : ∀ x ∈ s.stack, x < s.kinds.length) {z : Int} (hz : z = atS s 1) :
    Calls Try.prog 87 #[.agg #[.slice AK s.kinds.length cK, .slice AF nF cF, .slice AS s.stack.length cS, .slice AM nM cM, .bool dn], .int .i64 1] w fun e w' => e = .returned (.int .i64 z) ∧ Ext w w' := by
  refine (shapeAt_i AK AS AF AM cK cS nF cF nM cM dn s 1 w hK hS hi (by omega) (by omega)).mono ?_
  rintro e w' ⟨z', rfl, h, he⟩
  exact ⟨by rw [hz, h]; rfl, he⟩
/-- The shapes in their variable are the next ones. -/
theorem ob_ne {w : World} {b g : Nat} {oc oa : Int} {a1 a2 a3 a4 : Value} {d : Bool} (hb : OB w b oc oa) (hg : SB w g a1 a2 a3 a4 d) : b ≠ g := by
  intro e
  subst e
  have h1 : w.heap[b]? = _ := hb
  have h2 : w.heap[b]? = _ := hg
  rw [h1] at h2
  injection h2 with h2
  injection h2 with _ ht
  exact absurd ht (by decide)
theorem EJ.next {w W W3 g sh vK vF vS vM v x u y} {s1 : Sh} {a b c d : Value} (h : EJ w W g sh vK vF vS vM v x u y) (hg : w.heap.size ≤ g) (hs : StepAt W W3 (some s1) a b c d s1.done) :
    EJ w (((((W3.setCell ⟨g, 0, none⟩ a).setCell ⟨g, 1, none⟩ b).setCell ⟨g, 2, none⟩ c).setCell ⟨g, 3, none⟩ d).setCell ⟨g, 4, none⟩ (.bool s1.done)) g s1 a b c d v x u y := by
  have hb3 := hs.1.blk h.b
  have hf := Fr.set5 (S := fun k => k = g) (w := W3) (g := g) rfl a b c d (.bool s1.done)
  obtain ⟨_, hv, hfr⟩ := hs.2 s1 rfl
  have hlt := h.b.lt
  have hwg := h.e.size
  exact ⟨SB.all _ _ _ _ _ hb3, hv.fr hf (fun k hk e => hv.nb hb3 (by rw [← e]; exact hk)), (h.ov.ext hs.1).fr hf (fun k hk e => own_ne_blk (h.ov.ext hs.1) hb3 (by decide) (by rw [← e]; exact hk)), (h.ou.ext hs.1).fr hf (fun k hk e => own_ne_blk (h.ou.ext hs.1) hb3 (by decide) (by rw [← e]; exact hk)),
    (Fr.then (S := fun _ => False) (Fr.ofExt (h.e.trans hs.1)) hf (fun k hk => .inr (by omega))).ext (fun _ h => h.elim), h.fv, h.fu, h.a⟩
def SfAt (c : Int) (ops : List Opr) (w : World) (g k : Nat) (o : Value) (W : World) : Prop := ∃ A' c' m vK vF vS vM, o = .slice A' k c' ∧ Forb c ops k m ∧ EJ w W g (shp (forbM c newM (ops.take k))) vK vF vS vM (.slice none 0 0) [] (.slice A' k c') (forb c newM (ops.take k)) ∧ w.heap.size ≤ g
theorem sf_next {c : Int} {ops : List Opr} {w W W' : World} {g k : Nat} {m1 m' : Mc} {A' : Option Addr} {c' gP cP : Nat} {vK vF vS vM : Value} (hk : k < ops.length) (hf : Forb c ops (k + 1) m1) (hm : m' = forbM c newM (ops.take (k + 1)))
    (h : EJ w W g (shp m') vK vF vS vM (.slice none 0 0) [] (.slice A' k c') (forb c newM (ops.take k))) {o : Opr} (ho : turnP c (forbM c newM (ops.take k)) ops[k] = o) (hg : w.heap.size ≤ g)
    (hap : AppO (.slice A' k c') (forb c newM (ops.take k)) (forb c newM (ops.take k) ++ [o]) W gP cP W') : SfAt c ops w g (k + 1) (.slice (some ⟨gP, 0, none⟩) (k + 1) cP) W' := by
  have h2 := h.app hap
  have hl : (forb c newM (ops.take k)).length = k := by rw [forb_len, List.length_take]; omega
  rw [hl, ← ho, ← (forb_snoc c (ops.take k) newM ops[k]).1, ← List.take_succ_eq_append_getElem hk] at h2
  rw [hm] at h2
  exact ⟨_, _, m1, _, _, _, _, rfl, hf, h2, hg⟩
theorem EJ.box2 {w W g sh vK vF vS vM v x u y} (h : EJ w W g sh vK vF vS vM v x u y) {b : Nat} {oc oa : Int} (hb : OB W b oc oa) (hv : v.ownBlock ≠ some b) (hu : u.ownBlock ≠ some b) (hw : w.heap.size ≤ b) (oc' oa' : Int) :
    EJ w ((W.setCell ⟨b, 0, none⟩ (.int .i64 oc')).setCell ⟨b, 1, none⟩ (.int .i64 oa')) g sh vK vF vS vM v x u y ∧ OB ((W.setCell ⟨b, 0, none⟩ (.int .i64 oc')).setCell ⟨b, 1, none⟩ (.int .i64 oa')) b oc' oa' := by
  have hf : Fr (fun k => k = b) W ((W.setCell ⟨b, 0, none⟩ (.int .i64 oc')).setCell ⟨b, 1, none⟩ (.int .i64 oa')) := (Fr.set (S := fun k => k = b) W _ rfl).trans (Fr.set _ _ rfl)
  have h' : W.heap[b]? = _ := hb
  have hgb : g ≠ b := by
    intro e
    subst e
    have hbb : W.heap[g]? = _ := h.b
    rw [hbb] at h'
    injection h' with h'
    injection h' with _ ht
    exact absurd ht (by decide)
  refine ⟨⟨hf.blk h.b hgb, h.s.fr hf (fun k hk e => ?_), h.ov.fr hf (fun k hk e => hv (by rw [hk, e])), h.ou.fr hf (fun k hk e => hu (by rw [hk, e])), (Fr.then (S := fun _ => False) (Fr.ofExt h.e) hf (fun k hk => .inr (by omega))).ext (fun _ h => h.elim), h.fv, h.fu, h.a⟩, ?_⟩
  · subst e
    rcases hk with e | e | e | e
    · exact own_ne_blk h.s.k hb (by decide) e
    · exact own_ne_blk h.s.f hb (by decide) e
    · exact own_ne_blk h.s.t hb (by decide) e
    · exact own_ne_blk h.s.m hb (by decide) e
  have hlt := (Array.getElem?_eq_some_iff.1 hb).1
  simp [OB, World.setCell, Array.getElem?_modify, h']
set_option maxRecDepth 100000 in
set_option maxHeartbeats 4000000 in
theorem sForbidClass_c (A : Option Addr) (c0 : Nat) (ops : List Opr) (c : Int) (w : World) (hr : RdO w A ops) :
    Calls Try.prog 37 #[.slice A ops.length c0, .int .i64 c] w (OwnO (forbidR ops c) w) := by
  have hlen := hr.1
  have HR := As.mk hr
  clear hr
  cases hv : vOps ops with
  | false =>
    have HB : As (forbidR ops c = []) := ⟨by unfold forbidR; rw [if_neg (by rw [hv]; simp)]⟩
    have HV := As.mk hv
    clear hv
    go_enter Try.func37, Try.ntmps37
    go_wp2_with (go_at_call 74; refine (validOps_c _ _ _ _ HR.out).mono ?_; rw [HV.out]; rintro e w1 ⟨rfl, he⟩; have HE := As.mk he; clear he)
    go_ret
    rw [HB.out]
    exact (OwnO.nil _).ext HE.out
  | true =>
    have HV := As.mk hv
    have hva := vOps_all hv
    have HALL := As.mk hva
    clear hv
    cases hc : inR c 0 9 with
    | false =>
      have HB : As (forbidR ops c = []) := ⟨by unfold forbidR; rw [if_neg (fun h => by have := of_decide_eq_false hc; exact this ⟨h.2.2.1, h.2.2.2⟩)]⟩
      have HC := As.mk hc
      clear hc
      go_enter Try.func37, Try.ntmps37
      go_wp2_with (first | (go_at_call 74; refine (validOps_c _ _ _ _ HR.out).mono ?_; rw [HV.out]; rintro e w1 ⟨rfl, he⟩; have HE := As.mk he; clear he) | (go_at_call 85; refine (inRange_c _ _ _ _).mono ?_; rw [HC.out]; rintro e w2 ⟨rfl, rfl⟩))
      go_ret
      rw [HB.out]
      exact (OwnO.nil _).ext HE.out
    | true =>
      have HC := As.mk hc
      have hc09 : 0 ≤ c ∧ c ≤ 9 := of_decide_eq_true hc
      have HC09 := As.mk hc09
      clear hc hc09
      have hrun := runS_new hva.1
      obtain ⟨nn, hnn⟩ : ∃ nn, nn = (runS newS ops).2 := ⟨_, rfl⟩
      have hnr : nn = (runP newM ops).2 := by rw [hnn, hrun]
      have hnl : nn ≤ ops.length := by rw [hnr]; exact runP_le ops newM
      have HNN := As.mk hnn
      have HNR := As.mk hnr
      have hl3 : ops.length ≤ 300 := hva.2
      clear hnn hnr hrun hva
      go_enter Try.func37, Try.ntmps37
      go_upto_region 4 with (first | (go_at_call 74; refine (validOps_c _ _ _ _ HR.out).mono ?_; rw [HV.out]; rintro e w1 ⟨rfl, he⟩; have HE := As.mk he; clear he) | (go_at_call 85; refine (inRange_c _ _ _ _).mono ?_; rw [HC.out]; rintro e w2 ⟨rfl, rfl⟩) | (go_at_call 75; refine (runShapes_c _ _ _ _ (HR.out.ext HE.out) HALL.out.1).mono ?_; rw [← HNN.out]; rintro e w3 ⟨vK, vF, vS, vM, rfl, hsv, he, _, _⟩; obtain ⟨D1, d1, D2, d2, D3, d3, D4, d4, rfl, rfl, rfl, rfl⟩ := hsv.forms; have HE3 := As.mk (HE.out.trans he); clear he hsv))
      have hx := HE3.out.al (.cells #[.slice D1 (runS newS ops).1.kinds.length d1, .slice D2 (runS newS ops).1.full.length d2, .slice D3 (runS newS ops).1.stack.length d3, .slice D4 (runS newS ops).1.memo.length d4, .bool (runS newS ops).1.done] 51)
      generalize w3.alloc (.cells #[.slice D1 (runS newS ops).1.kinds.length d1, .slice D2 (runS newS ops).1.full.length d2, .slice D3 (runS newS ops).1.stack.length d3, .slice D4 (runS newS ops).1.memo.length d4, .bool (runS newS ops).1.done] 51) = w4 at hx ⊢
      have HE4 := As.mk hx
      clear hx HE HE3
      by_cases hlt : nn < ops.length
      · have HB : As (forbidR ops c = []) := ⟨by unfold forbidR; rw [if_neg (fun h => by have := h.2.1; rw [← HNR.out] at this; omega)]⟩
        have q1 : (nn : Int) < ops.length := by omega
        go_wp2_with fail
        go_ret
        rw [HB.out]
        exact (OwnO.nil _).ext HE4.out
      · have hfull : (runP newM ops).2 = ops.length := by rw [← HNR.out]; omega
        have HB : As (forbidR ops c = forb c newM ops) := ⟨by unfold forbidR; rw [if_pos ⟨HV.out, hfull, HC09.out⟩]⟩
        have HRUN := As.mk hfull
        have q1 : ¬ (nn : Int) < ops.length := by omega
        clear hfull hlt
        go_upto_region 7 with fail
        have HLR : As (OR (w4.alloc (.cells #[] 82)) (.slice (some ⟨w4.heap.size, 0, none⟩) 0 0) []) := ⟨own_zero (World.ownsRow_lit (base := 0) (size := 2) w4 #[] 0 (Nat.zero_le _) (by simp) rfl)⟩
        have HE5 := As.mk (HE4.out.al (.cells #[] 82))
        have hb0 : w.heap.size ≤ w4.heap.size := HE4.out.size
        generalize w4.alloc (.cells #[] 82) = w5 at HLR HE5 ⊢
        generalize w4.heap.size = b0 at HLR hb0 ⊢
        clear HE4 q1
        go_upto_region 8 with (go_at_call 86; refine (newShapes_c _).mono ?_; rintro e w6 ⟨vK, vF, vS, vM, rfl, hv, he, hf⟩; obtain ⟨A1, c1, A2, c2, A3, c3, A4, c4, rfl, rfl, rfl, rfl⟩ := hv.forms; have HV0 := As.mk hv; have HE6 := As.mk he; clear hv he hf)
        have hej : EJ w (w6.alloc (.cells #[.slice A1 newS.kinds.length c1, .slice A2 newS.full.length c2, .slice A3 newS.stack.length c3, .slice A4 newS.memo.length c4, .bool false] 51)) w6.heap.size (shp newM) (.slice A1 newS.kinds.length c1) (.slice A2 newS.full.length c2) (.slice A3 newS.stack.length c3) (.slice A4 newS.memo.length c4) (.slice none 0 0) [] (.slice (some ⟨b0, 0, none⟩) 0 0) [] :=
          ⟨al_new _ _, HV0.out.ext ((Ext.rf _).al _), nilO _, HLR.out.ext (HE6.out.al _), (HE5.out.trans HE6.out).al _, fun k hk => (nil_own hk).elim, fun k hk => (by (have hbk : b0 = k := by simpa [Value.ownBlock] using hk); omega), fun k hk => (nil_own hk).elim⟩
        have hgw : w.heap.size ≤ w6.heap.size := (HE5.out.trans HE6.out).size
        have HEJ := As.mk hej
        generalize w6.alloc (.cells #[.slice A1 newS.kinds.length c1, .slice A2 newS.full.length c2, .slice A3 newS.stack.length c3, .slice A4 newS.memo.length c4, .bool false] 51) = w7 at HEJ ⊢
        generalize w6.heap.size = g at HEJ hgw ⊢
        clear hej HV0 HE6 HE5 HLR
        go_upto_region 9 with fail
        go_loopw [7, 9] (fun o i wr => ∃ k : Nat, k ≤ ops.length ∧ i = .int .i64 k ∧ As (SfAt c ops w g k o wr)) (fun _ i _ => ops.length - (intOf i).toNat)
        case atStart => exact ⟨0, Nat.zero_le _, rfl, ⟨⟨_, _, newM, _, _, _, _, rfl, Forb.new c ops, HEJ.out, hgw⟩⟩⟩
        case round =>
          obtain ⟨k, hk, rfl, hst⟩ := hrel
          obtain ⟨A', c', m, vK, vF, vS, vM, rfl, hfb, hei, hgw2⟩ := hst.out
          have HFB := As.mk hfb
          have HEI := As.mk hei
          clear hst hfb hei HEJ hgw2
          by_cases hlt : k < ops.length
          · obtain ⟨ad, rfl, m1, m2⟩ := (HR.out.ext HEI.out.e).2 k hlt
            obtain ⟨mo, hso⟩ := forb_can HFB.out hlt HRUN.out
            have hoo : okO ops[k] = true := List.all_eq_true.1 HALL.out.1 _ (List.getElem_mem hlt)
            obtain ⟨h14, ⟨mn, hsn, hmn⟩, hfn⟩ := HFB.out.next hlt hoo hso
            have hlk : (forb c newM (ops.take k)).length = k := by rw [forb_len, List.length_take]; omega
            have hto := turn_ok (c := c) (m := forbM c newM (ops.take k)) hoo
            have hoks := shp_ok HFB.out.ok' HFB.out.kk'
            have hss := stepS_shp HFB.out.ok' HFB.out.kk' _ hto
            have htt := turn_shp (c := c) (m := forbM c newM (ops.take k)) (o := ops[k]) (fun e => ⟨(h14 e).1, (h14 e).2.1⟩)
            obtain ⟨mm, hmm⟩ : ∃ mm, mm = forbM c newM (ops.take k) := ⟨_, rfl⟩
            obtain ⟨y, hy⟩ : ∃ y, y = forb c newM (ops.take k) := ⟨_, rfl⟩
            obtain ⟨oc, hoc⟩ : ∃ oc, oc = ops[k].code := ⟨_, rfl⟩
            obtain ⟨oa, hoa⟩ : ∃ oa, oa = ops[k].arg := ⟨_, rfl⟩
            have HO : As (ops[k] = ⟨oc, oa⟩) := ⟨by rw [hoc, hoa]⟩
            rw [← hoc] at m1
            rw [← hoa] at m2
            have hej := HEI.out
            rw [← hmm, ← hy] at hej
            rw [← hmm] at hsn hto hoks hss htt
            rw [hsn] at hss
            obtain ⟨s, hs⟩ : ∃ s, s = shp mm := ⟨_, rfl⟩
            rw [← hs] at hej hoks hss htt
            obtain ⟨AK, cK, AF, cF, AS, cS, AM, cM, rfl, rfl, rfl, rfl⟩ := hej.s.forms
            have HMM := As.mk hmm
            have HY := As.mk hy
            have HLK : As (y.length = k) := ⟨by rw [hy]; exact hlk⟩
            have HEJ2 := As.mk hej
            have HOKS := As.mk hoks
            have HSS := As.mk hss
            have HTT := As.mk htt
            have HN := As.mk (And.intro hmn (And.intro hfn hto))
            have q1 : (k : Int) < ops.length := by omega
            have hub : (Value.slice A' k c').ownBlock ≠ some wr.heap.size := fun e => by have := own_lt hej.ou e; omega
            have hwb : w.heap.size ≤ wr.heap.size := hej.e.size
            have HUB := As.mk hub
            clear h14 hsn hmn hfn hto hlk hmm hy hoc hoa hoo hso HEI HFB hej hoks hss htt hs hub
            by_cases ha : oc = 13 ∧ oa = c
            · obtain ⟨rfl, rfl⟩ := ha
              have HT : As (turnP oa mm ops[k] = ⟨7, 0⟩) := ⟨by rw [HO.out]; unfold turnP; rw [if_pos ⟨rfl, rfl⟩]⟩
              go_upto_region 14 with fail
              have hob := al_new wr (.cells #[.int .i64 7, .int .i64 0] 82)
              have HE6 := As.mk (HEJ2.out.ext ((Ext.rf wr).al (.cells #[.int .i64 7, .int .i64 0] 82)))
              generalize wr.alloc (.cells #[.int .i64 7, .int .i64 0] 82) = w8 at hob HE6 ⊢
              obtain ⟨b, hbb⟩ : ∃ b, b = wr.heap.size := ⟨_, rfl⟩
              rw [← hbb] at hob HUB hwb ⊢
              have hob : OB w8 b 7 0 := hob
              have HOB := As.mk hob
              have o0 := OB.c0 hob; have o1 := OB.c1 hob
              clear hob hbb
              have c0 := SB.c0 HE6.out.b; have c1 := SB.c1 HE6.out.b; have c2 := SB.c2 HE6.out.b; have c3 := SB.c3 HE6.out.b; have c4 := SB.c4 HE6.out.b
              go_upto_region 16 with fail
              have hok := HN.out.2.2
              rw [HT.out] at hok
              have hst := HSS.out
              rw [HT.out] at hst
              have HOK := As.mk hok
              have HST0 : As (stepS s ⟨7, 0⟩ = some (shp mn)) := ⟨hst⟩
              clear hok hst
              refine region_perm (fun w' => w'.cell? ⟨g, 0, none⟩ = some (.slice AK s.kinds.length cK) ∧ w'.cell? ⟨g, 1, none⟩ = some (.slice AF s.full.length cF) ∧ w'.cell? ⟨g, 2, none⟩ = some (.slice AS s.stack.length cS) ∧ w'.cell? ⟨g, 3, none⟩ = some (.slice AM s.memo.length cM) ∧ w'.cell? ⟨g, 4, none⟩ = some (.bool s.done) ∧ w'.cell? ⟨b, 0, none⟩ = some (.int .i64 7) ∧ w'.cell? ⟨b, 1, none⟩ = some (.int .i64 0)) [7] [(0, 1), (2, 1), (1, 2), (3, 2), (4, 0), (5, 0), (6, 0), (7, 3)] (by kernel_rfl) (by kernel_rfl) rfl (by kernel_rfl) (fun _ _ _ _ h => h) ?_
              have hS := And.intro c0 (And.intro c1 (And.intro c2 (And.intro c3 (And.intro c4 (And.intro o0 o1)))))
              repeat (first | refine wpP.c0 (h := ?_) | refine wpP.c1 (w := w8.drew) hS (h := ?_))
              refine wpP.ev (h := fun Kv hKv => ?_)
              have HEX : As (Ext w8 w8.drew) := ⟨(Ext.rf _).dr⟩
              generalize hwd : w8.drew = wd at HEX ⊢
              clear hwd
              go_wp2_with (go_at_call 89; refine (copyShapes_c _ _ _ _ s _ (HE6.out.s.ext HEX.out) HOKS.out.siz).mono ?_; rintro e w10 ⟨C1, C2, C3, C4, rfl, hv, he, hf⟩; have HCP : As (CopyS w8 w10 s C1 C2 C3 C4) := ⟨⟨hv, HEX.out.trans he, fun k hk => Nat.le_trans HEX.out.size (hf k hk)⟩⟩; have HX2 : As (Ext w8 w10) := ⟨HEX.out.trans he⟩; clear hv he hf)
              refine hKv.out _ _ ⟨HX2.out.cellOf c0, HX2.out.cellOf c1, HX2.out.cellOf c2, HX2.out.cellOf c3, HX2.out.cellOf c4, HX2.out.cellOf o0, HX2.out.cellOf o1⟩ ?_
              clear hKv Kv
              refine wpP.ev (h := fun Kv hKv => ?_)
              go_wp2_with (go_at_call 88; refine (stepShapes_c _ _ _ _ s ⟨7, 0⟩ _ HCP.out.1 HOKS.out HOK.out).mono ?_; rw [HST0.out]; rintro e w11 ht; obtain ⟨B1, n1, e1, B2, n2, e2, B3, n3, e3, B4, n4, e4, x, rfl, hf, hp⟩ := ht; have HST : As (StepAt w8 w11 (some (shp mn)) (.slice B1 n1 e1) (.slice B2 n2 e2) (.slice B3 n3 e3) (.slice B4 n4 e4) x) := ⟨HCP.out.step hf hp⟩; have hxd : x = (shp mn).done := (hp _ rfl).1; clear hf hp)
              subst hxd
              have he3 := HST.out.1
              refine hKv.out _ _ ⟨he3.cellOf c0, he3.cellOf c1, he3.cellOf c2, he3.cellOf c3, he3.cellOf c4, he3.cellOf o0, he3.cellOf o1⟩ ?_
              clear hKv Kv HX2 HCP HEX
              repeat (first | refine wpP.c0 (h := ?_))
              refine wpP.last (h := fun Kv hKv => ?_)
              have d0 := he3.cellOf c0; have d1 := he3.cellOf c1; have d2 := he3.cellOf c2; have d3 := he3.cellOf c3; have d4 := he3.cellOf c4
              have hbg := he3.blk HE6.out.b
              have f0 := SB.fz hbg 0; have f1 := SB.fz hbg 1; have f2 := SB.fz hbg 2; have f3 := SB.fz hbg 3; have f4 := SB.fz hbg 4
              have HOB9 : As (OB w11 b 7 0) := ⟨he3.blk HOB.out⟩
              clear hbg he3
              go_wp2_with fail
              have hnx := EJ.next HE6.out hgw HST.out
              have hbx := (Fr.set5 (S := fun k => k = g) (w := w11) (g := g) rfl (.slice B1 n1 e1) (.slice B2 n2 e2) (.slice B3 n3 e3) (.slice B4 n4 e4) (.bool (shp mn).done)).blk HOB9.out (ob_ne HOB.out HE6.out.b)
              refine hKv.out _ _ ?_
              clear hKv Kv hS d0 d1 d2 d3 d4 f0 f1 f2 f3 f4 c0 c1 c2 c3 c4 o0 o1 HOB9
              refine wpP.done ?_
              have HE7 := As.mk hnx
              have hbx : OB _ b 7 0 := hbx
              have HB7 := As.mk hbx
              generalize (((((w11.setCell ⟨g, 0, none⟩ (.slice B1 n1 e1)).setCell ⟨g, 1, none⟩ (.slice B2 n2 e2)).setCell ⟨g, 2, none⟩ (.slice B3 n3 e3)).setCell ⟨g, 3, none⟩ (.slice B4 n4 e4)).setCell ⟨g, 4, none⟩ (.bool (shp mn).done)) = w12 at HE7 HB7 ⊢
              have o0 := OB.c0 HB7.out; have o1 := OB.c1 HB7.out
              clear hnx hbx HST
              go_wp2_with ((at_builtin; refine app_op rfl _ _ rfl (.slice A' k c') y ⟨7, 0⟩ rfl rfl HE7.out.ou (by rw [HLK.out]; omega) ?_; rw [HLK.out]; intro gP cP w13 hap; have HO8 : As (SfAt oa ops w g (k + 1) (.slice (some ⟨gP, 0, none⟩) (k + 1) cP) w13) := ⟨sf_next (o := ⟨7, 0⟩) hlt HN.out.2.1 HN.out.1 (by rw [← HY.out]; exact HE7.out) (by rw [← HMM.out]; exact HT.out) hgw (by rw [← HY.out]; exact hap)⟩; clear hap))
              go_roundw
              case measure => simp only [intOf]; omega
              case rel => exact ⟨k + 1, by omega, by go_num, HO8⟩
            · by_cases h14 : oc = 14
              · subst h14
                obtain ⟨kd, hkd⟩ : ∃ kd, kd = atS s 1 := ⟨_, rfl⟩
                have HKD := As.mk hkd
                clear hkd ha
                go_upto_region 14 with fail
                have hob := al_new wr (.cells #[.int .i64 14, .int .i64 oa] 82)
                have HE6 := As.mk (HEJ2.out.ext ((Ext.rf wr).al (.cells #[.int .i64 14, .int .i64 oa] 82)))
                generalize wr.alloc (.cells #[.int .i64 14, .int .i64 oa] 82) = w8 at hob HE6 ⊢
                obtain ⟨b, hbb⟩ : ∃ b, b = wr.heap.size := ⟨_, rfl⟩
                rw [← hbb] at hob HUB hwb ⊢
                have hob : OB w8 b 14 oa := hob
                have HOB := As.mk hob
                have o0 := OB.c0 hob; have o1 := OB.c1 hob
                clear hob hbb
                have c0 := SB.c0 HE6.out.b; have c1 := SB.c1 HE6.out.b; have c2 := SB.c2 HE6.out.b; have c3 := SB.c3 HE6.out.b; have c4 := SB.c4 HE6.out.b
                rcases bceq' kd 3 with rfl | k3
                · have HT : As (turnP c mm ops[k] = ⟨8, 0⟩) := ⟨by rw [HTT.out, HO.out]; unfold turnS; rw [if_neg (by simp), if_pos ⟨rfl, HKD.out.symm⟩]⟩
                  go_upto_region 16 with (go_at_call 87; refine (shapeAt_k _ _ _ _ _ _ _ _ _ _ _ s _ (rdA_I HE6.out.s.k (by have := HOKS.out.kl; omega)) (rdA_I HE6.out.s.t (by have := HOKS.out.sl; omega)) (fun x hx => (HOKS.out.si x hx).2) HKD.out).mono ?_; rintro e w9 ⟨rfl, he⟩; have HE6 := As.mk (HE6.out.ext he); have HOB : As (OB w9 b 14 oa) := ⟨he.blk HOB.out⟩; have o0 := OB.c0 HOB.out; have o1 := OB.c1 HOB.out; have f0 := OB.fz HOB.out 0; have f1 := OB.fz HOB.out 1; have c0 := he.cellOf c0; have c1 := he.cellOf c1; have c2 := he.cellOf c2; have c3 := he.cellOf c3; have c4 := he.cellOf c4; clear he)
                  have hb2 := EJ.box2 HE6.out HOB.out (by simp [Value.ownBlock]) HUB.out hwb 8 0
                  have HE6 := As.mk hb2.1
                  have HOB := As.mk hb2.2
                  generalize ((w9.setCell ⟨b, 0, none⟩ (.int .i64 8)).setCell ⟨b, 1, none⟩ (.int .i64 0)) = w14 at HE6 HOB ⊢
                  clear hb2 o0 o1 f0 f1 c0 c1 c2 c3 c4
                  have o0 := OB.c0 HOB.out; have o1 := OB.c1 HOB.out
                  have c0 := SB.c0 HE6.out.b; have c1 := SB.c1 HE6.out.b; have c2 := SB.c2 HE6.out.b; have c3 := SB.c3 HE6.out.b; have c4 := SB.c4 HE6.out.b
                  have hok := HN.out.2.2
                  rw [HT.out] at hok
                  have hst := HSS.out
                  rw [HT.out] at hst
                  have HOK := As.mk hok
                  have HST0 : As (stepS s ⟨8, 0⟩ = some (shp mn)) := ⟨hst⟩
                  clear hok hst
                  refine region_perm (fun w' => w'.cell? ⟨g, 0, none⟩ = some (.slice AK s.kinds.length cK) ∧ w'.cell? ⟨g, 1, none⟩ = some (.slice AF s.full.length cF) ∧ w'.cell? ⟨g, 2, none⟩ = some (.slice AS s.stack.length cS) ∧ w'.cell? ⟨g, 3, none⟩ = some (.slice AM s.memo.length cM) ∧ w'.cell? ⟨g, 4, none⟩ = some (.bool s.done) ∧ w'.cell? ⟨b, 0, none⟩ = some (.int .i64 8) ∧ w'.cell? ⟨b, 1, none⟩ = some (.int .i64 0)) [7] [(0, 1), (2, 1), (1, 2), (3, 2), (4, 0), (5, 0), (6, 0), (7, 3)] (by kernel_rfl) (by kernel_rfl) rfl (by kernel_rfl) (fun _ _ _ _ h => h) ?_
                  have hS := And.intro c0 (And.intro c1 (And.intro c2 (And.intro c3 (And.intro c4 (And.intro o0 o1)))))
                  repeat (first | refine wpP.c0 (h := ?_) | refine wpP.c1 (w := w14.drew) hS (h := ?_))
                  refine wpP.ev (h := fun Kv hKv => ?_)
                  have HEX : As (Ext w14 w14.drew) := ⟨(Ext.rf _).dr⟩
                  generalize hwd : w14.drew = wd at HEX ⊢
                  clear hwd
                  go_wp2_with (go_at_call 89; refine (copyShapes_c _ _ _ _ s _ (HE6.out.s.ext HEX.out) HOKS.out.siz).mono ?_; rintro e w10 ⟨C1, C2, C3, C4, rfl, hv, he, hf⟩; have HCP : As (CopyS w14 w10 s C1 C2 C3 C4) := ⟨⟨hv, HEX.out.trans he, fun k hk => Nat.le_trans HEX.out.size (hf k hk)⟩⟩; have HX2 : As (Ext w14 w10) := ⟨HEX.out.trans he⟩; clear hv he hf)
                  refine hKv.out _ _ ⟨HX2.out.cellOf c0, HX2.out.cellOf c1, HX2.out.cellOf c2, HX2.out.cellOf c3, HX2.out.cellOf c4, HX2.out.cellOf o0, HX2.out.cellOf o1⟩ ?_
                  clear hKv Kv
                  refine wpP.ev (h := fun Kv hKv => ?_)
                  go_wp2_with (go_at_call 88; refine (stepShapes_c _ _ _ _ s ⟨8, 0⟩ _ HCP.out.1 HOKS.out HOK.out).mono ?_; rw [HST0.out]; rintro e w11 ht; obtain ⟨B1, n1, e1, B2, n2, e2, B3, n3, e3, B4, n4, e4, x, rfl, hf, hp⟩ := ht; have HST : As (StepAt w14 w11 (some (shp mn)) (.slice B1 n1 e1) (.slice B2 n2 e2) (.slice B3 n3 e3) (.slice B4 n4 e4) x) := ⟨HCP.out.step hf hp⟩; have hxd : x = (shp mn).done := (hp _ rfl).1; clear hf hp)
                  subst hxd
                  have he3 := HST.out.1
                  refine hKv.out _ _ ⟨he3.cellOf c0, he3.cellOf c1, he3.cellOf c2, he3.cellOf c3, he3.cellOf c4, he3.cellOf o0, he3.cellOf o1⟩ ?_
                  clear hKv Kv HX2 HCP HEX
                  repeat (first | refine wpP.c0 (h := ?_))
                  refine wpP.last (h := fun Kv hKv => ?_)
                  have d0 := he3.cellOf c0; have d1 := he3.cellOf c1; have d2 := he3.cellOf c2; have d3 := he3.cellOf c3; have d4 := he3.cellOf c4
                  have hbg := he3.blk HE6.out.b
                  have f0 := SB.fz hbg 0; have f1 := SB.fz hbg 1; have f2 := SB.fz hbg 2; have f3 := SB.fz hbg 3; have f4 := SB.fz hbg 4
                  have HOB9 : As (OB w11 b 8 0) := ⟨he3.blk HOB.out⟩
                  clear hbg he3
                  go_wp2_with fail
                  have hnx := EJ.next HE6.out hgw HST.out
                  have hbx := (Fr.set5 (S := fun k => k = g) (w := w11) (g := g) rfl (.slice B1 n1 e1) (.slice B2 n2 e2) (.slice B3 n3 e3) (.slice B4 n4 e4) (.bool (shp mn).done)).blk HOB9.out (ob_ne HOB.out HE6.out.b)
                  refine hKv.out _ _ ?_
                  clear hKv Kv hS d0 d1 d2 d3 d4 f0 f1 f2 f3 f4 c0 c1 c2 c3 c4 o0 o1 HOB9
                  refine wpP.done ?_
                  have HE7 := As.mk hnx
                  have hbx : OB _ b 8 0 := hbx
                  have HB7 := As.mk hbx
                  generalize (((((w11.setCell ⟨g, 0, none⟩ (.slice B1 n1 e1)).setCell ⟨g, 1, none⟩ (.slice B2 n2 e2)).setCell ⟨g, 2, none⟩ (.slice B3 n3 e3)).setCell ⟨g, 3, none⟩ (.slice B4 n4 e4)).setCell ⟨g, 4, none⟩ (.bool (shp mn).done)) = w12 at HE7 HB7 ⊢
                  have o0 := OB.c0 HB7.out; have o1 := OB.c1 HB7.out
                  clear hnx hbx HST
                  go_wp2_with ((at_builtin; refine app_op rfl _ _ rfl (.slice A' k c') y ⟨8, 0⟩ rfl rfl HE7.out.ou (by rw [HLK.out]; omega) ?_; rw [HLK.out]; intro gP cP w13 hap; have HO8 : As (SfAt c ops w g (k + 1) (.slice (some ⟨gP, 0, none⟩) (k + 1) cP) w13) := ⟨sf_next (o := ⟨8, 0⟩) hlt HN.out.2.1 HN.out.1 (by rw [← HY.out]; exact HE7.out) (by rw [← HMM.out]; exact HT.out) hgw (by rw [← HY.out]; exact hap)⟩; clear hap))
                  go_roundw
                  case measure => simp only [intOf]; omega
                  case rel => exact ⟨k + 1, by omega, by go_num, HO8⟩
                · have HT : As (turnP c mm ops[k] = ⟨14, oa⟩) := ⟨by rw [HTT.out, HO.out]; unfold turnS; rw [if_neg (by simp), if_neg (by rw [← HKD.out]; simp at k3; simp [k3])]⟩
                  go_upto_region 16 with (go_at_call 87; refine (shapeAt_k _ _ _ _ _ _ _ _ _ _ _ s _ (rdA_I HE6.out.s.k (by have := HOKS.out.kl; omega)) (rdA_I HE6.out.s.t (by have := HOKS.out.sl; omega)) (fun x hx => (HOKS.out.si x hx).2) HKD.out).mono ?_; rintro e w9 ⟨rfl, he⟩; have HE6 := As.mk (HE6.out.ext he); have HOB : As (OB w9 b 14 oa) := ⟨he.blk HOB.out⟩; have o0 := OB.c0 HOB.out; have o1 := OB.c1 HOB.out; have f0 := OB.fz HOB.out 0; have f1 := OB.fz HOB.out 1; have c0 := he.cellOf c0; have c1 := he.cellOf c1; have c2 := he.cellOf c2; have c3 := he.cellOf c3; have c4 := he.cellOf c4; clear he)
                  clear c0 c1 c2 c3 c4 f0 f1
                  have c0 := SB.c0 HE6.out.b; have c1 := SB.c1 HE6.out.b; have c2 := SB.c2 HE6.out.b; have c3 := SB.c3 HE6.out.b; have c4 := SB.c4 HE6.out.b
                  have hok := HN.out.2.2
                  rw [HT.out] at hok
                  have hst := HSS.out
                  rw [HT.out] at hst
                  have HOK := As.mk hok
                  have HST0 : As (stepS s ⟨14, oa⟩ = some (shp mn)) := ⟨hst⟩
                  clear hok hst
                  refine region_perm (fun w' => w'.cell? ⟨g, 0, none⟩ = some (.slice AK s.kinds.length cK) ∧ w'.cell? ⟨g, 1, none⟩ = some (.slice AF s.full.length cF) ∧ w'.cell? ⟨g, 2, none⟩ = some (.slice AS s.stack.length cS) ∧ w'.cell? ⟨g, 3, none⟩ = some (.slice AM s.memo.length cM) ∧ w'.cell? ⟨g, 4, none⟩ = some (.bool s.done) ∧ w'.cell? ⟨b, 0, none⟩ = some (.int .i64 14) ∧ w'.cell? ⟨b, 1, none⟩ = some (.int .i64 oa)) [7] [(0, 1), (2, 1), (1, 2), (3, 2), (4, 0), (5, 0), (6, 0), (7, 3)] (by kernel_rfl) (by kernel_rfl) rfl (by kernel_rfl) (fun _ _ _ _ h => h) ?_
                  have hS := And.intro c0 (And.intro c1 (And.intro c2 (And.intro c3 (And.intro c4 (And.intro o0 o1)))))
                  repeat (first | refine wpP.c0 (h := ?_) | refine wpP.c1 (w := w9.drew) hS (h := ?_))
                  refine wpP.ev (h := fun Kv hKv => ?_)
                  have HEX : As (Ext w9 w9.drew) := ⟨(Ext.rf _).dr⟩
                  generalize hwd : w9.drew = wd at HEX ⊢
                  clear hwd
                  go_wp2_with (go_at_call 89; refine (copyShapes_c _ _ _ _ s _ (HE6.out.s.ext HEX.out) HOKS.out.siz).mono ?_; rintro e w10 ⟨C1, C2, C3, C4, rfl, hv, he, hf⟩; have HCP : As (CopyS w9 w10 s C1 C2 C3 C4) := ⟨⟨hv, HEX.out.trans he, fun k hk => Nat.le_trans HEX.out.size (hf k hk)⟩⟩; have HX2 : As (Ext w9 w10) := ⟨HEX.out.trans he⟩; clear hv he hf)
                  refine hKv.out _ _ ⟨HX2.out.cellOf c0, HX2.out.cellOf c1, HX2.out.cellOf c2, HX2.out.cellOf c3, HX2.out.cellOf c4, HX2.out.cellOf o0, HX2.out.cellOf o1⟩ ?_
                  clear hKv Kv
                  refine wpP.ev (h := fun Kv hKv => ?_)
                  go_wp2_with (go_at_call 88; refine (stepShapes_c _ _ _ _ s ⟨14, oa⟩ _ HCP.out.1 HOKS.out HOK.out).mono ?_; rw [HST0.out]; rintro e w11 ht; obtain ⟨B1, n1, e1, B2, n2, e2, B3, n3, e3, B4, n4, e4, x, rfl, hf, hp⟩ := ht; have HST : As (StepAt w9 w11 (some (shp mn)) (.slice B1 n1 e1) (.slice B2 n2 e2) (.slice B3 n3 e3) (.slice B4 n4 e4) x) := ⟨HCP.out.step hf hp⟩; have hxd : x = (shp mn).done := (hp _ rfl).1; clear hf hp)
                  subst hxd
                  have he3 := HST.out.1
                  refine hKv.out _ _ ⟨he3.cellOf c0, he3.cellOf c1, he3.cellOf c2, he3.cellOf c3, he3.cellOf c4, he3.cellOf o0, he3.cellOf o1⟩ ?_
                  clear hKv Kv HX2 HCP HEX
                  repeat (first | refine wpP.c0 (h := ?_))
                  refine wpP.last (h := fun Kv hKv => ?_)
                  have d0 := he3.cellOf c0; have d1 := he3.cellOf c1; have d2 := he3.cellOf c2; have d3 := he3.cellOf c3; have d4 := he3.cellOf c4
                  have hbg := he3.blk HE6.out.b
                  have f0 := SB.fz hbg 0; have f1 := SB.fz hbg 1; have f2 := SB.fz hbg 2; have f3 := SB.fz hbg 3; have f4 := SB.fz hbg 4
                  have HOB9 : As (OB w11 b 14 oa) := ⟨he3.blk HOB.out⟩
                  clear hbg he3
                  go_wp2_with fail
                  have hnx := EJ.next HE6.out hgw HST.out
                  have hbx := (Fr.set5 (S := fun k => k = g) (w := w11) (g := g) rfl (.slice B1 n1 e1) (.slice B2 n2 e2) (.slice B3 n3 e3) (.slice B4 n4 e4) (.bool (shp mn).done)).blk HOB9.out (ob_ne HOB.out HE6.out.b)
                  refine hKv.out _ _ ?_
                  clear hKv Kv hS d0 d1 d2 d3 d4 f0 f1 f2 f3 f4 c0 c1 c2 c3 c4 o0 o1 HOB9
                  refine wpP.done ?_
                  have HE7 := As.mk hnx
                  have hbx : OB _ b 14 oa := hbx
                  have HB7 := As.mk hbx
                  generalize (((((w11.setCell ⟨g, 0, none⟩ (.slice B1 n1 e1)).setCell ⟨g, 1, none⟩ (.slice B2 n2 e2)).setCell ⟨g, 2, none⟩ (.slice B3 n3 e3)).setCell ⟨g, 3, none⟩ (.slice B4 n4 e4)).setCell ⟨g, 4, none⟩ (.bool (shp mn).done)) = w12 at HE7 HB7 ⊢
                  have o0 := OB.c0 HB7.out; have o1 := OB.c1 HB7.out
                  clear hnx hbx HST
                  go_wp2_with ((at_builtin; refine app_op rfl _ _ rfl (.slice A' k c') y ⟨14, oa⟩ rfl rfl HE7.out.ou (by rw [HLK.out]; omega) ?_; rw [HLK.out]; intro gP cP w13 hap; have HO8 : As (SfAt c ops w g (k + 1) (.slice (some ⟨gP, 0, none⟩) (k + 1) cP) w13) := ⟨sf_next (o := ⟨14, oa⟩) hlt HN.out.2.1 HN.out.1 (by rw [← HY.out]; exact HE7.out) (by rw [← HMM.out]; exact HT.out) hgw (by rw [← HY.out]; exact hap)⟩; clear hap))
                  go_roundw
                  case measure => simp only [intOf]; omega
                  case rel => exact ⟨k + 1, by omega, by go_num, HO8⟩
              · have HT : As (turnP c mm ops[k] = ⟨oc, oa⟩) := ⟨by rw [HO.out]; unfold turnP; rw [if_neg ha, if_neg (by simp [h14])]⟩
                have q14 : (oc == 14) = false := by simpa using h14
                rcases bceq' oc 13 with rfl | q13
                · have qc : (oa == c) = false := by simp at ha; simpa using ha
                  clear ha h14
                  go_upto_region 14 with fail
                  have hob := al_new wr (.cells #[.int .i64 13, .int .i64 oa] 82)
                  have HE6 := As.mk (HEJ2.out.ext ((Ext.rf wr).al (.cells #[.int .i64 13, .int .i64 oa] 82)))
                  generalize wr.alloc (.cells #[.int .i64 13, .int .i64 oa] 82) = w8 at hob HE6 ⊢
                  obtain ⟨b, hbb⟩ : ∃ b, b = wr.heap.size := ⟨_, rfl⟩
                  rw [← hbb] at hob HUB hwb ⊢
                  have hob : OB w8 b 13 oa := hob
                  have HOB := As.mk hob
                  have o0 := OB.c0 hob; have o1 := OB.c1 hob
                  clear hob hbb
                  have c0 := SB.c0 HE6.out.b; have c1 := SB.c1 HE6.out.b; have c2 := SB.c2 HE6.out.b; have c3 := SB.c3 HE6.out.b; have c4 := SB.c4 HE6.out.b
                  go_upto_region 16 with fail
                  have hok := HN.out.2.2
                  rw [HT.out] at hok
                  have hst := HSS.out
                  rw [HT.out] at hst
                  have HOK := As.mk hok
                  have HST0 : As (stepS s ⟨13, oa⟩ = some (shp mn)) := ⟨hst⟩
                  clear hok hst
                  refine region_perm (fun w' => w'.cell? ⟨g, 0, none⟩ = some (.slice AK s.kinds.length cK) ∧ w'.cell? ⟨g, 1, none⟩ = some (.slice AF s.full.length cF) ∧ w'.cell? ⟨g, 2, none⟩ = some (.slice AS s.stack.length cS) ∧ w'.cell? ⟨g, 3, none⟩ = some (.slice AM s.memo.length cM) ∧ w'.cell? ⟨g, 4, none⟩ = some (.bool s.done) ∧ w'.cell? ⟨b, 0, none⟩ = some (.int .i64 13) ∧ w'.cell? ⟨b, 1, none⟩ = some (.int .i64 oa)) [7] [(0, 1), (2, 1), (1, 2), (3, 2), (4, 0), (5, 0), (6, 0), (7, 3)] (by kernel_rfl) (by kernel_rfl) rfl (by kernel_rfl) (fun _ _ _ _ h => h) ?_
                  have hS := And.intro c0 (And.intro c1 (And.intro c2 (And.intro c3 (And.intro c4 (And.intro o0 o1)))))
                  repeat (first | refine wpP.c0 (h := ?_) | refine wpP.c1 (w := w8.drew) hS (h := ?_))
                  refine wpP.ev (h := fun Kv hKv => ?_)
                  have HEX : As (Ext w8 w8.drew) := ⟨(Ext.rf _).dr⟩
                  generalize hwd : w8.drew = wd at HEX ⊢
                  clear hwd
                  go_wp2_with (go_at_call 89; refine (copyShapes_c _ _ _ _ s _ (HE6.out.s.ext HEX.out) HOKS.out.siz).mono ?_; rintro e w10 ⟨C1, C2, C3, C4, rfl, hv, he, hf⟩; have HCP : As (CopyS w8 w10 s C1 C2 C3 C4) := ⟨⟨hv, HEX.out.trans he, fun k hk => Nat.le_trans HEX.out.size (hf k hk)⟩⟩; have HX2 : As (Ext w8 w10) := ⟨HEX.out.trans he⟩; clear hv he hf)
                  refine hKv.out _ _ ⟨HX2.out.cellOf c0, HX2.out.cellOf c1, HX2.out.cellOf c2, HX2.out.cellOf c3, HX2.out.cellOf c4, HX2.out.cellOf o0, HX2.out.cellOf o1⟩ ?_
                  clear hKv Kv
                  refine wpP.ev (h := fun Kv hKv => ?_)
                  go_wp2_with (go_at_call 88; refine (stepShapes_c _ _ _ _ s ⟨13, oa⟩ _ HCP.out.1 HOKS.out HOK.out).mono ?_; rw [HST0.out]; rintro e w11 ht; obtain ⟨B1, n1, e1, B2, n2, e2, B3, n3, e3, B4, n4, e4, x, rfl, hf, hp⟩ := ht; have HST : As (StepAt w8 w11 (some (shp mn)) (.slice B1 n1 e1) (.slice B2 n2 e2) (.slice B3 n3 e3) (.slice B4 n4 e4) x) := ⟨HCP.out.step hf hp⟩; have hxd : x = (shp mn).done := (hp _ rfl).1; clear hf hp)
                  subst hxd
                  have he3 := HST.out.1
                  refine hKv.out _ _ ⟨he3.cellOf c0, he3.cellOf c1, he3.cellOf c2, he3.cellOf c3, he3.cellOf c4, he3.cellOf o0, he3.cellOf o1⟩ ?_
                  clear hKv Kv HX2 HCP HEX
                  repeat (first | refine wpP.c0 (h := ?_))
                  refine wpP.last (h := fun Kv hKv => ?_)
                  have d0 := he3.cellOf c0; have d1 := he3.cellOf c1; have d2 := he3.cellOf c2; have d3 := he3.cellOf c3; have d4 := he3.cellOf c4
                  have hbg := he3.blk HE6.out.b
                  have f0 := SB.fz hbg 0; have f1 := SB.fz hbg 1; have f2 := SB.fz hbg 2; have f3 := SB.fz hbg 3; have f4 := SB.fz hbg 4
                  have HOB9 : As (OB w11 b 13 oa) := ⟨he3.blk HOB.out⟩
                  clear hbg he3
                  go_wp2_with fail
                  have hnx := EJ.next HE6.out hgw HST.out
                  have hbx := (Fr.set5 (S := fun k => k = g) (w := w11) (g := g) rfl (.slice B1 n1 e1) (.slice B2 n2 e2) (.slice B3 n3 e3) (.slice B4 n4 e4) (.bool (shp mn).done)).blk HOB9.out (ob_ne HOB.out HE6.out.b)
                  refine hKv.out _ _ ?_
                  clear hKv Kv hS d0 d1 d2 d3 d4 f0 f1 f2 f3 f4 c0 c1 c2 c3 c4 o0 o1 HOB9
                  refine wpP.done ?_
                  have HE7 := As.mk hnx
                  have hbx : OB _ b 13 oa := hbx
                  have HB7 := As.mk hbx
                  generalize (((((w11.setCell ⟨g, 0, none⟩ (.slice B1 n1 e1)).setCell ⟨g, 1, none⟩ (.slice B2 n2 e2)).setCell ⟨g, 2, none⟩ (.slice B3 n3 e3)).setCell ⟨g, 3, none⟩ (.slice B4 n4 e4)).setCell ⟨g, 4, none⟩ (.bool (shp mn).done)) = w12 at HE7 HB7 ⊢
                  have o0 := OB.c0 HB7.out; have o1 := OB.c1 HB7.out
                  clear hnx hbx HST
                  go_wp2_with ((at_builtin; refine app_op rfl _ _ rfl (.slice A' k c') y ⟨13, oa⟩ rfl rfl HE7.out.ou (by rw [HLK.out]; omega) ?_; rw [HLK.out]; intro gP cP w13 hap; have HO8 : As (SfAt c ops w g (k + 1) (.slice (some ⟨gP, 0, none⟩) (k + 1) cP) w13) := ⟨sf_next (o := ⟨13, oa⟩) hlt HN.out.2.1 HN.out.1 (by rw [← HY.out]; exact HE7.out) (by rw [← HMM.out]; exact HT.out) hgw (by rw [← HY.out]; exact hap)⟩; clear hap))
                  go_roundw
                  case measure => simp only [intOf]; omega
                  case rel => exact ⟨k + 1, by omega, by go_num, HO8⟩
                · clear ha h14
                  go_upto_region 14 with fail
                  have hob := al_new wr (.cells #[.int .i64 oc, .int .i64 oa] 82)
                  have HE6 := As.mk (HEJ2.out.ext ((Ext.rf wr).al (.cells #[.int .i64 oc, .int .i64 oa] 82)))
                  generalize wr.alloc (.cells #[.int .i64 oc, .int .i64 oa] 82) = w8 at hob HE6 ⊢
                  obtain ⟨b, hbb⟩ : ∃ b, b = wr.heap.size := ⟨_, rfl⟩
                  rw [← hbb] at hob HUB hwb ⊢
                  have hob : OB w8 b oc oa := hob
                  have HOB := As.mk hob
                  have o0 := OB.c0 hob; have o1 := OB.c1 hob
                  clear hob hbb
                  have c0 := SB.c0 HE6.out.b; have c1 := SB.c1 HE6.out.b; have c2 := SB.c2 HE6.out.b; have c3 := SB.c3 HE6.out.b; have c4 := SB.c4 HE6.out.b
                  go_upto_region 16 with fail
                  have hok := HN.out.2.2
                  rw [HT.out] at hok
                  have hst := HSS.out
                  rw [HT.out] at hst
                  have HOK := As.mk hok
                  have HST0 : As (stepS s ⟨oc, oa⟩ = some (shp mn)) := ⟨hst⟩
                  clear hok hst
                  refine region_perm (fun w' => w'.cell? ⟨g, 0, none⟩ = some (.slice AK s.kinds.length cK) ∧ w'.cell? ⟨g, 1, none⟩ = some (.slice AF s.full.length cF) ∧ w'.cell? ⟨g, 2, none⟩ = some (.slice AS s.stack.length cS) ∧ w'.cell? ⟨g, 3, none⟩ = some (.slice AM s.memo.length cM) ∧ w'.cell? ⟨g, 4, none⟩ = some (.bool s.done) ∧ w'.cell? ⟨b, 0, none⟩ = some (.int .i64 oc) ∧ w'.cell? ⟨b, 1, none⟩ = some (.int .i64 oa)) [7] [(0, 1), (2, 1), (1, 2), (3, 2), (4, 0), (5, 0), (6, 0), (7, 3)] (by kernel_rfl) (by kernel_rfl) rfl (by kernel_rfl) (fun _ _ _ _ h => h) ?_
                  have hS := And.intro c0 (And.intro c1 (And.intro c2 (And.intro c3 (And.intro c4 (And.intro o0 o1)))))
                  repeat (first | refine wpP.c0 (h := ?_) | refine wpP.c1 (w := w8.drew) hS (h := ?_))
                  refine wpP.ev (h := fun Kv hKv => ?_)
                  have HEX : As (Ext w8 w8.drew) := ⟨(Ext.rf _).dr⟩
                  generalize hwd : w8.drew = wd at HEX ⊢
                  clear hwd
                  go_wp2_with (go_at_call 89; refine (copyShapes_c _ _ _ _ s _ (HE6.out.s.ext HEX.out) HOKS.out.siz).mono ?_; rintro e w10 ⟨C1, C2, C3, C4, rfl, hv, he, hf⟩; have HCP : As (CopyS w8 w10 s C1 C2 C3 C4) := ⟨⟨hv, HEX.out.trans he, fun k hk => Nat.le_trans HEX.out.size (hf k hk)⟩⟩; have HX2 : As (Ext w8 w10) := ⟨HEX.out.trans he⟩; clear hv he hf)
                  refine hKv.out _ _ ⟨HX2.out.cellOf c0, HX2.out.cellOf c1, HX2.out.cellOf c2, HX2.out.cellOf c3, HX2.out.cellOf c4, HX2.out.cellOf o0, HX2.out.cellOf o1⟩ ?_
                  clear hKv Kv
                  refine wpP.ev (h := fun Kv hKv => ?_)
                  go_wp2_with (go_at_call 88; refine (stepShapes_c _ _ _ _ s ⟨oc, oa⟩ _ HCP.out.1 HOKS.out HOK.out).mono ?_; rw [HST0.out]; rintro e w11 ht; obtain ⟨B1, n1, e1, B2, n2, e2, B3, n3, e3, B4, n4, e4, x, rfl, hf, hp⟩ := ht; have HST : As (StepAt w8 w11 (some (shp mn)) (.slice B1 n1 e1) (.slice B2 n2 e2) (.slice B3 n3 e3) (.slice B4 n4 e4) x) := ⟨HCP.out.step hf hp⟩; have hxd : x = (shp mn).done := (hp _ rfl).1; clear hf hp)
                  subst hxd
                  have he3 := HST.out.1
                  refine hKv.out _ _ ⟨he3.cellOf c0, he3.cellOf c1, he3.cellOf c2, he3.cellOf c3, he3.cellOf c4, he3.cellOf o0, he3.cellOf o1⟩ ?_
                  clear hKv Kv HX2 HCP HEX
                  repeat (first | refine wpP.c0 (h := ?_))
                  refine wpP.last (h := fun Kv hKv => ?_)
                  have d0 := he3.cellOf c0; have d1 := he3.cellOf c1; have d2 := he3.cellOf c2; have d3 := he3.cellOf c3; have d4 := he3.cellOf c4
                  have hbg := he3.blk HE6.out.b
                  have f0 := SB.fz hbg 0; have f1 := SB.fz hbg 1; have f2 := SB.fz hbg 2; have f3 := SB.fz hbg 3; have f4 := SB.fz hbg 4
                  have HOB9 : As (OB w11 b oc oa) := ⟨he3.blk HOB.out⟩
                  clear hbg he3
                  go_wp2_with fail
                  have hnx := EJ.next HE6.out hgw HST.out
                  have hbx := (Fr.set5 (S := fun k => k = g) (w := w11) (g := g) rfl (.slice B1 n1 e1) (.slice B2 n2 e2) (.slice B3 n3 e3) (.slice B4 n4 e4) (.bool (shp mn).done)).blk HOB9.out (ob_ne HOB.out HE6.out.b)
                  refine hKv.out _ _ ?_
                  clear hKv Kv hS d0 d1 d2 d3 d4 f0 f1 f2 f3 f4 c0 c1 c2 c3 c4 o0 o1 HOB9
                  refine wpP.done ?_
                  have HE7 := As.mk hnx
                  have hbx : OB _ b oc oa := hbx
                  have HB7 := As.mk hbx
                  generalize (((((w11.setCell ⟨g, 0, none⟩ (.slice B1 n1 e1)).setCell ⟨g, 1, none⟩ (.slice B2 n2 e2)).setCell ⟨g, 2, none⟩ (.slice B3 n3 e3)).setCell ⟨g, 3, none⟩ (.slice B4 n4 e4)).setCell ⟨g, 4, none⟩ (.bool (shp mn).done)) = w12 at HE7 HB7 ⊢
                  have o0 := OB.c0 HB7.out; have o1 := OB.c1 HB7.out
                  clear hnx hbx HST
                  go_wp2_with ((at_builtin; refine app_op rfl _ _ rfl (.slice A' k c') y ⟨oc, oa⟩ rfl rfl HE7.out.ou (by rw [HLK.out]; omega) ?_; rw [HLK.out]; intro gP cP w13 hap; have HO8 : As (SfAt c ops w g (k + 1) (.slice (some ⟨gP, 0, none⟩) (k + 1) cP) w13) := ⟨sf_next (o := ⟨oc, oa⟩) hlt HN.out.2.1 HN.out.1 (by rw [← HY.out]; exact HE7.out) (by rw [← HMM.out]; exact HT.out) hgw (by rw [← HY.out]; exact hap)⟩; clear hap))
                  go_roundw
                  case measure => simp only [intOf]; omega
                  case rel => exact ⟨k + 1, by omega, by go_num, HO8⟩
          · have hkl : k = ops.length := by omega
            subst hkl
            go_wp2_with fail
            go_ret
            have h2 := HEI.out
            rw [List.take_length] at h2
            rw [HB.out]
            have hl : (forb c newM ops).length = ops.length := forb_len c ops newM
            exact ⟨A', c', by rw [hl]; rfl, by rw [hl]; exact h2.ou, h2.e, by rw [hl]; exact h2.fu⟩
end Go.Proofs.Ytcodbpjaamggeaa.C
