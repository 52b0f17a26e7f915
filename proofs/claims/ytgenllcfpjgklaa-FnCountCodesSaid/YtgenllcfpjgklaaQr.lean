/- The writer: the program of a valid graph. -/
import Derived.Test.YtgenllcfpjgklaaQo
set_option linter.unusedVariables false
set_option linter.unusedSimpArgs false
namespace Go.Proofs.Ytgenllcfpjgklaa.C
open Go.RowKit Go.Proofs.Ytgenllcfpjgklaa.W Go.Proofs.Ytgenllcfpjgklaa.P

/-- A fresh program. -/
def WrV (w : World) (e : Ending) (w' : World) : Prop := ∃ A c l, e = .returned (.slice A l.length c) ∧ OR w' (.slice A l.length c) l ∧ Ext w w' ∧ Fresh (.slice A l.length c) w ∧ As (l.length ≤ 30000)
theorem unm_rep (n : Nat) : unm (List.replicate n (-1)) ≤ n := Nat.le_trans (unm_all _) (by simp)
theorem wr_len {ns : List Nd} {root : Int} (hV : VG ns root) {m' : List Int} {n' : Nat} (h : Cost (er ns root) 1 0 (List.replicate ns.length (-1)) n' m') : n' ≤ 29000 := by
  have h1 := cost_bud h (er_le hV _)
  have h2 := unm_rep ns.length
  have h3 := hV.hi
  have h4 : (2030 + 14 * er ns root) * unm (List.replicate ns.length (-1)) ≤ 2198 * 12 := Nat.mul_le_mul (by have := er_le hV root; omega) (by omega)
  have h5 := h.2
  omega
set_option maxRecDepth 100000 in
set_option maxHeartbeats 2000000 in
theorem written_c {ns : List Nd} {A0 : Option Addr} {c0 : Nat} {root level : Int} (hV : VG ns root) (w : World) (hN : RdN w A0 ns) :
    Calls Try.prog 104 #[.agg #[.slice A0 ns.length c0, .int .i64 root], .int .i64 level] w (WrV w) := by
  have hx : Ext w (w.alloc (.cells #[.slice A0 ns.length c0, .int .i64 root] 105)) := (Ext.rf w).al _
  have ha : GB (w.alloc (.cells #[.slice A0 ns.length c0, .int .i64 root] 105)) w.heap.size (.slice A0 ns.length c0) (.int .i64 root) := al_new w _
  have HV := As.mk hV
  have HX := As.mk hx
  have HG := As.mk ha
  have HN := As.mk (hN.ext hx)
  clear hV hx ha hN
  go_enter Try.func104, Try.ntmps104
  go_upto_region 1 with fail
  generalize (w.alloc (.cells #[.slice A0 ns.length c0, .int .i64 root] 105)) = w0 at HX HG HN ⊢
  generalize w.heap.size = g at HG ⊢
  have g0 := gb_c0 HG.out; have g1 := gb_c1 HG.out
  go_cut [5, 6] (fun a b wx => ∃ (A : Option Addr) (c : Nat) (l : List Opr) (b' : Value), a = .slice A l.length c ∧ b = b' ∧ As (RdO wx A l ∧ Ext w wx ∧ l.length ≤ 29000))
  case first =>
    have HSV : As (∀ (W : World) (B : Option Addr) (cB : Nat) (L : World), Ext w0 W → RdI W B (List.replicate ns.length (-1)) → Calls Try.prog 125 #[.agg #[.slice A0 ns.length c0, .int .i64 root], .int .i64 level, .int .i64 root, .slice (some ⟨L.heap.size, 0, none⟩) 0 0, .slice B ns.length cB] W (SavV (fun l' m' => As (l'.length ≤ 29000)) W)) := ⟨by
      intro W B cB L he hr
      have h1 := HV.out.hi
      have h2 := unm_rep ns.length
      have h3 := er_le HV.out root
      have hc := save_ok (A0 := A0) (c0 := c0) (root := root) (level := level) HV.out (unm (List.replicate ns.length (-1)) * 13 + er ns root + 1) root (some ⟨L.heap.size, 0, none⟩) 0 [] B cB (List.replicate ns.length (-1)) W HV.out.r0 HV.out.r1 (HN.out.ext he) ⟨by simp, fun k h => by simp at h⟩ hr (by simp) (by simp only [List.length_nil]; omega) (Nat.lt_succ_self _)
      rw [List.length_replicate] at hc
      refine hc.mono ?_
      rintro e w3 ⟨A2, c2, l2, B2, d2, m2, rfl, h1, h2, h3, h4, -⟩
      exact ⟨A2, c2, l2, B2, d2, m2, rfl, h1, h2, h3, ⟨wr_len HV.out h4⟩⟩⟩
    refine region_tree (fun w' => w'.cell? ⟨g, 0, none⟩ = some (.slice A0 ns.length c0) ∧ w'.cell? ⟨g, 1, none⟩ = some (.int .i64 root)) [] (.fork [(0, 1), (1, 0), (2, 0), (3, 1), (5, 1)] 4 6 (.lin [(6, 2), (7, 2), (8, 0), (9, 0), (10, 0), (11, 0), (12, 0)]) (.lin [(4, 2), (7, 2), (8, 0), (9, 0), (10, 0), (11, 0), (12, 0)])) (by kernel_rfl) (by kernel_rfl) rfl (by kernel_rfl) (fun _ _ _ _ h => h) (wpT.fork ?_)
    have hS := And.intro g0 g1
    repeat (first | refine wpP.c0 (h := ?_) | refine wpP.c1 (w := w0.drew) hS (h := ?_))
    have HEwa : As (Ext w0 w0.drew) := ⟨(Ext.rf _).dr⟩
    generalize w0.drew = wa at HEwa ⊢
    clear hS
    refine wpP.fork ?br1 ?br2
    case br1 =>
      refine wpT.ev (h := fun Kv hKv => ?_)
      go_wp2_with fail
      have HEwb : As (Ext w0 (wa.alloc (.cells #[] 52))) := ⟨HEwa.out.al _⟩
      refine hKv.out _ _ ⟨HEwb.out.cellOf g0, HEwb.out.cellOf g1⟩ (wpT.lin ?_)
      clear hKv Kv
      generalize wa.alloc (.cells #[] 52) = wb at HEwb ⊢
      refine wpP.ev (h := fun Kv hKv => ?_)
      go_wp2_with (go_at_call 126; refine (emptyMemo_c _ _ _ _ _ (by have := HV.out.hi; omega)).mono ?_; rintro e wc ⟨B, cB, rfl, hI, he, hf⟩; have HIR := As.mk hI; have HEwc := As.mk (HEwb.out.trans he); clear hI he hf)
      refine hKv.out _ _ ⟨HEwc.out.cellOf g0, HEwc.out.cellOf g1⟩ ?_
      clear hKv Kv
      refine wpP.ev (h := fun Kv hKv => ?_)
      go_wp2_with (go_at_call 125; refine (HSV.out _ B cB _ HEwc.out (rdA_J5 HIR.out (by have := HV.out.hi; simp; omega))).mono ?_; rintro e wd ⟨A2, c2, l2, B2, d2, m2, rfl, h1, h2, h3, h4⟩; have HO := As.mk h1; have HED := As.mk (HEwc.out.trans h3); have HL := h4; clear h1 h2 h3 h4)
      refine hKv.out _ _ ⟨HED.out.cellOf g0, HED.out.cellOf g1⟩ ?_
      clear hKv Kv
      repeat (first | refine wpP.c0 (h := ?_))
      refine wpP.done ?_
      go_wp2_with fail
      go_meet
      exact ⟨A2, c2, l2, _, rfl, rfl, ⟨HO.out, HX.out.trans HED.out, HL.out⟩⟩
    case br2 =>
      refine wpT.ev (h := fun Kv hKv => ?_)
      go_wp2_with (go_at_call 126; refine (emptyMemo_c _ _ _ _ _ (by have := HV.out.hi; omega)).mono ?_; rintro e wc ⟨B, cB, rfl, hI, he, hf⟩; have HIR := As.mk hI; have HEwc := As.mk (HEwa.out.trans he); clear hI he hf)
      refine hKv.out _ _ ⟨HEwc.out.cellOf g0, HEwc.out.cellOf g1⟩ (wpT.lin ?_)
      clear hKv Kv
      refine wpP.ev (h := fun Kv hKv => ?_)
      go_wp2_with fail
      have HEwb : As (Ext w0 (wc.alloc (.cells #[] 52))) := ⟨HEwc.out.al _⟩
      have HIRb := As.mk (HIR.out.ext ((Ext.rf wc).al (.cells #[] 52)))
      refine hKv.out _ _ ⟨HEwb.out.cellOf g0, HEwb.out.cellOf g1⟩ ?_
      clear hKv Kv
      refine wpP.ev (h := fun Kv hKv => ?_)
      go_wp2_with (go_at_call 125; refine (HSV.out _ B cB _ HEwb.out (rdA_J5 HIRb.out (by have := HV.out.hi; simp; omega))).mono ?_; rintro e wd ⟨A2, c2, l2, B2, d2, m2, rfl, h1, h2, h3, h4⟩; have HO := As.mk h1; have HED := As.mk (HEwb.out.trans h3); have HL := h4; clear h1 h2 h3 h4)
      refine hKv.out _ _ ⟨HED.out.cellOf g0, HED.out.cellOf g1⟩ ?_
      clear hKv Kv
      repeat (first | refine wpP.c0 (h := ?_))
      refine wpP.done ?_
      go_wp2_with fail
      go_meet
      exact ⟨A2, c2, l2, _, rfl, rfl, ⟨HO.out, HX.out.trans HED.out, HL.out⟩⟩
  case rest =>
    clear g0 g1
    obtain ⟨A1, c1, l1, b', rfl, rfl, hst⟩ := hcut
    go_wp2_with (go_at_call 127; refine (emit_c A1 c1 l1 _ _ [⟨19, 0⟩] _ (hst.out.1.ext ((Ext.rf _).al _)) (rdO_one wc ⟨19, 0⟩) (by have := hst.out.2.2; simp only [List.length_singleton]; omega)).mono ?_; rintro e w5 ⟨A5, c5, rfl, ho, hx, hf⟩; have HO5 := As.mk ho; have HX5 := As.mk (hst.out.2.1.trans (((Ext.rf wc).al _).trans hx)); have HF5 := As.mk hf; clear ho hx hf)
    go_ret
    refine ⟨A5, c5, l1 ++ [⟨19, 0⟩], by rw [show (l1 ++ [(⟨19, 0⟩ : Opr)]).length = l1.length + 1 by simp]; rfl, HO5.out, HX5.out, fun k hk => ?_, ⟨by have := hst.out.2.2; simp; omega⟩⟩
    have h1 := HF5.out k hk
    have h2 := hst.out.2.1.size
    rw [al_size] at h1
    omega
end Go.Proofs.Ytgenllcfpjgklaa.C
