/- Likely orders are drawn. -/
import Derived.Test.YtgenllcfpjgklaaQs
import Derived.Test.YtgenllcfpjgklaaQi
import Derived.Test.YtgenllcfpjgklaaIi
import Derived.Test.YtgenllcfpjgklaaCz
set_option linter.unusedVariables false
set_option linter.unusedSimpArgs false
namespace Go.Proofs.Ytgenllcfpjgklaa.C
open Go.RowKit Go.Proofs.Ytgenllcfpjgklaa.W Go.Proofs.Ytgenllcfpjgklaa.P

/-- Shapes after a step lie in their own box. -/
def TriedS (wr wx : World) (g7 : Nat) (r : Option Sh) : Prop := ∃ B1 n1 e1 B2 n2 e2 B3 n3 e3 B4 n4 e4 x, SB wx g7 (.slice B1 n1 e1) (.slice B2 n2 e2) (.slice B3 n3 e3) (.slice B4 n4 e4) x ∧ StepAt wr wx r (.slice B1 n1 e1) (.slice B2 n2 e2) (.slice B3 n3 e3) (.slice B4 n4 e4) x ∧ wr.heap.size ≤ g7
theorem StepAt.put {wr w5 : World} {r : Option Sh} {vK vF vS vM a b c d : Value} {x y : Bool} {g6 : Nat} (h : StepAt wr w5 r vK vF vS vM x) (hb : SB w5 g6 a b c d y) (hg : wr.heap.size ≤ g6) :
    StepAt wr (((((w5.setCell ⟨g6, 0, none⟩ vK).setCell ⟨g6, 1, none⟩ vF).setCell ⟨g6, 2, none⟩ vS).setCell ⟨g6, 3, none⟩ vM).setCell ⟨g6, 4, none⟩ (.bool x)) r vK vF vS vM x := by
  have hs5 := Fr.set5 (S := fun k => k = g6) (w := w5) (g := g6) rfl vK vF vS vM (.bool x)
  refine ⟨(Fr.then (S := fun _ => False) (Fr.ofExt h.1) hs5 (fun i hi => .inr (by omega))).ext (fun _ h => h.elim), fun s' hs => ⟨(h.2 s' hs).1, (h.2 s' hs).2.1.fr hs5 (fun k hk e => ?_), (h.2 s' hs).2.2⟩⟩
  rw [e] at hk
  exact (h.2 s' hs).2.1.nb hb hk
/-- The row and the shapes while orders are drawn. -/
structure LkF (w : World) (g b4 : Nat) (ad : Addr) (n c : Nat) (l : List Opr) (vK vF vS vM : Value) (s : Sh) (W : World) : Prop where
  nn : n = l.length
  o : OR W (.slice (some ad) n c) l
  of : ∀ j, (Value.slice (some ad) n c).ownBlock = some j → w.heap.size ≤ j
  b : SB W b4 vK vF vS vM s.done
  k : okS s
  v : SV W vK vF vS vM s
  vf : ∀ j, SF vK vF vS vM j → w.heap.size ≤ j
  lo : w.heap.size ≤ b4
  gl : g < w.heap.size
  f : Fr (fun j => j = g) w W
theorem LkF.ext {w g b4 ad n c l vK vF vS vM s W W'} (h : LkF w g b4 ad n c l vK vF vS vM s W) (e : Ext W W') : LkF w g b4 ad n c l vK vF vS vM s W' :=
  ⟨h.nn, h.o.ext e, h.of, e.blk h.b, h.k, h.v.ext e, h.vf, h.lo, h.gl, h.f.trans (Fr.ofExt e)⟩
theorem LkF.fr {w g b4 ad n c l vK vF vS vM s W W'} (h : LkF w g b4 ad n c l vK vF vS vM s W) (e : Fr (fun j => j = g) W W') : LkF w g b4 ad n c l vK vF vS vM s W' :=
  ⟨h.nn, h.o.fr e (fun k hk x => by have := h.of k hk; have := h.gl; omega), h.of, e.blk h.b (by have := h.lo; have := h.gl; omega), h.k, h.v.fr e (fun k hk x => by have := h.vf k hk; have := h.gl; omega), h.vf, h.lo, h.gl, h.f.trans e⟩
theorem LkF.app {w g b4 ad n c l vK vF vS vM s W W'} {o : Opr} {gP cP : Nat} (h : LkF w g b4 ad n c l vK vF vS vM s W) (hap : AppO (.slice (some ad) n c) l (l ++ [o]) W gP cP W') : LkF w g b4 ⟨gP, 0, none⟩ (n + 1) cP (l ++ [o]) vK vF vS vM s W' := by
  obtain ⟨a1, a2, a3, _, _⟩ := hap
  have hs : (l ++ [o]).length = n + 1 := by rw [h.nn]; simp
  rw [hs] at a1
  refine ⟨hs.symm, a1, fun j hj => ?_, a2.blk h.b (fun e => own_ne_blk h.o h.b (by decide) e), h.k, h.v.fr a2 (fun k hk e => ?_), h.vf, h.lo, h.gl, h.f.then a2 (fun i hi => .inr (h.of i hi))⟩
  · have e : gP = j := by injection hj
    rcases a3 with a3 | a3
    · have := h.of _ a3; omega
    · have := h.f.size; omega
  · rcases hk with hk | hk | hk | hk
    · exact own_ne_type h.v.k h.o (by decide) hk e
    · exact own_ne_type h.v.f h.o (by decide) hk e
    · exact own_ne_type h.v.t h.o (by decide) hk e
    · exact own_ne_type h.v.m h.o (by decide) hk e
theorem LkF.put {w g b4 ad n c l vK vF vS vM s W vK' vF' vS' vM' s'} (h : LkF w g b4 ad n c l vK vF vS vM s W) (hk : okS s') (hv : SV W vK' vF' vS' vM' s') (hf : ∀ j, SF vK' vF' vS' vM' j → w.heap.size ≤ j) :
    LkF w g b4 ad n c l vK' vF' vS' vM' s' (((((W.setCell ⟨b4, 0, none⟩ vK').setCell ⟨b4, 1, none⟩ vF').setCell ⟨b4, 2, none⟩ vS').setCell ⟨b4, 3, none⟩ vM').setCell ⟨b4, 4, none⟩ (.bool s'.done)) := by
  have hs5 := Fr.set5 (S := fun k => k = b4) (w := W) (g := b4) rfl vK' vF' vS' vM' (.bool s'.done)
  exact ⟨h.nn, h.o.fr hs5 (fun k hk e => by rw [e] at hk; exact own_ne_blk h.o h.b (by decide) hk), h.of, SB.all vK' vF' vS' vM' s'.done h.b, hk, hv.fr hs5 (fun k hk e => by rw [e] at hk; exact hv.nb h.b hk), hf, h.lo, h.gl, h.f.then hs5 (fun i hi => .inr (by rw [hi]; exact h.lo))⟩
/-- While orders are drawn. -/
def LkA (w : World) (g p b4 : Nat) (k : Int) (ad : Addr) (n c : Nat) (wr : World) : Prop :=
  ∃ l A1 n1 c1 A2 n2 c2 A3 n3 c3 A4 n4 c4 s, ∃ q : Nat, LkF w g b4 ad n c l (.slice A1 n1 c1) (.slice A2 n2 c2) (.slice A3 n3 c3) (.slice A4 n4 c4) s wr ∧ (n : Int) + k ≤ 30 ∧ (q : Int) + 5 * k ≤ p + 152 ∧ Rdr wr g q
/-- Some orders come back, in a row of the caller's. -/
def LkV (w : World) (g p : Nat) (e : Ending) (w' : World) : Prop := ∃ A c l, e = .returned (.slice A l.length c) ∧ OR w' (.slice A l.length c) l ∧ Fresh (.slice A l.length c) w ∧ As (l.length ≤ 400) ∧ Drew w g p 160 w'
theorem endOps_le (l : List Opr) : (endOps l).1.length ≤ 300 := by
  unfold endOps
  split
  · split
    · simp
    · split
      · rename_i h
        unfold endOk at h
        simp only [Bool.and_eq_true, decide_eq_true_eq] at h
        show (endOut (runP newM l).1.stack).length ≤ 300
        omega
      · simp
  · simp
theorem cutOps_le (l : List Opr) : (cutOps l).length ≤ l.length := by
  unfold cutOps
  split
  · rw [List.length_take]; omega
  · simp
set_option maxRecDepth 100000 in
set_option maxHeartbeats 8000000 in
theorem likelyOps_c (w : World) (g p : Nat) (hr : Rdr w g p) (hp : p + 160 ≤ 1000000) :
    Calls Try.prog 62 #[.pointer (some ⟨g, 0, none⟩)] w (LkV w g p) := by
  have hg := hr.lt
  have hx : Ext w (w.alloc (.cells #[] 52)) := (Ext.rf w).al _
  have ho : OR (w.alloc (.cells #[] 52)) (.slice (some ⟨w.heap.size, 0, none⟩) 0 0) [] := World.ownsRow_lit (base := 0) (size := 2) w #[] 0 (Nat.zero_le _) (by simp) rfl
  have HX := As.mk hx
  have HO := As.mk ho
  have HR := As.mk hr
  clear hx ho hr
  go_enter Try.func62, Try.ntmps62
  go_upto_region 2 with fail
  generalize hw0 : (w.alloc (.cells #[] 52)) = w0 at HX HO ⊢
  have HS0 : As (w0.heap.size = w.heap.size + 1) := ⟨by rw [← hw0, al_size]⟩
  clear hw0
  obtain ⟨b0, hb0⟩ : ∃ b0, b0 = w.heap.size := ⟨_, rfl⟩
  have HB0 := As.mk hb0
  rw [← hb0] at HO hg ⊢
  clear hb0
  go_upto_region 3 with (go_at_call 93; refine (newShapes_c _).mono ?_; rintro e w1 ⟨vK, vF, vS, vM, rfl, hv, he, hf⟩; obtain ⟨A1, c1, A2, c2, A3, c3, A4, c4, rfl, rfl, rfl, rfl⟩ := hv.forms; have HV0 := As.mk hv; have HE0 := As.mk he; have HF0 := As.mk hf; clear hv he hf)
  have hx2 : Ext w1 (w1.alloc (.cells #[.slice A1 newS.kinds.length c1, .slice A2 newS.full.length c2, .slice A3 newS.stack.length c3, .slice A4 newS.memo.length c4, .bool false] 91)) := (Ext.rf w1).al _
  have hsb : SB (w1.alloc (.cells #[.slice A1 newS.kinds.length c1, .slice A2 newS.full.length c2, .slice A3 newS.stack.length c3, .slice A4 newS.memo.length c4, .bool false] 91)) w1.heap.size (.slice A1 newS.kinds.length c1) (.slice A2 newS.full.length c2) (.slice A3 newS.stack.length c3) (.slice A4 newS.memo.length c4) false := al_new _ _
  have HSB := As.mk hsb
  have HV2 := As.mk (HV0.out.ext hx2)
  have HX2 := As.mk (HE0.out.trans hx2)
  have HL4 : As (w.heap.size ≤ w1.heap.size) := ⟨Nat.le_trans HX.out.size HE0.out.size⟩
  clear hx2 hsb HV0 HE0
  generalize (w1.alloc (.cells #[.slice A1 newS.kinds.length c1, .slice A2 newS.full.length c2, .slice A3 newS.stack.length c3, .slice A4 newS.memo.length c4, .bool false] 91)) = w2 at HSB HV2 HX2 ⊢
  generalize w1.heap.size = b4 at HSB HL4 ⊢
  go_upto_region 4 with (go_at_call 87; refine (one_c _ _ _ (some ⟨w2.heap.size, 0, none⟩) 6 [12, 8, 20, 5, 30, 0] (((HR.out.ext HX.out).ext HX2.out).ext ((Ext.rf _).al _)) (by omega) (rdA_J5 (n := 6) (c := 6) (l := [12, 8, 20, 5, 30, 0]) (World.ownsRow_lit (base := 0) (e := 3) (size := 1) w2 #[.int .i64 12, .int .i64 8, .int .i64 20, .int .i64 5, .int .i64 30, .int .i64 0] 6 (Nat.zero_le _) (by decide) rfl) (by simp)) (fun ad e => by have h1 := HX.out.size; have h2 := HX2.out.size; have h3 := HB0.out; injection e with e; subst e; show w2.heap.size ≠ g; omega) (by simp) (by simp)).mono ?_; rintro e w3 ⟨n0, rfl, hz, hrd, hf⟩; have HRD := As.mk hrd; have HF := As.mk ((Fr.ofExt ((Ext.rf w2).al (.cells #[.int .i64 12, .int .i64 8, .int .i64 20, .int .i64 5, .int .i64 30, .int .i64 0] 3))).trans hf); have HZ := As.mk (show 0 ≤ n0 ∧ n0 ≤ 30 by simp only [List.mem_cons, List.mem_nil_iff, or_false] at hz; omega); clear hz hrd hf)
  have HQ0 : As (LkA w g p b4 n0 ⟨b0, 0, none⟩ 0 0 w3) := ⟨by
    have hb0 := HB0.out
    have h0 := HS0.out
    have hl4 := HL4.out
    have hsf : ∀ j, SF (.slice A1 newS.kinds.length c1) (.slice A2 newS.full.length c2) (.slice A3 newS.stack.length c3) (.slice A4 newS.memo.length c4) j → w.heap.size + 1 ≤ j := fun j hj => by have := HF0.out j hj; omega
    have hz := HZ.out
    have h6 : b4 ≠ g := by omega
    exact ⟨[], _, _, _, _, _, _, _, _, _, _, _, _, newS, p + 1, (show LkF w g b4 ⟨b0, 0, none⟩ 0 0 [] _ _ _ _ newS w2 from ⟨rfl, HO.out.ext HX2.out, fun j hj => by simp [Value.ownBlock] at hj; omega, HSB.out, okS_new, HV2.out, fun j hj => by have := hsf j hj; omega, hl4, by omega, (Fr.ofExt HX.out).trans (Fr.ofExt HX2.out)⟩).fr HF.out, by omega, by omega, HRD.out⟩⟩
  have hz0 := HZ.out.1
  have hz4 := HZ.out.2
  clear HRD HF HZ HR HSB HV2 HX2 HO HS0 HF0 HX
  go_loopw [3, 5] (fun a i wr => ∃ (k : Int) (ad : Addr) (n c : Nat), 0 ≤ k ∧ k ≤ n0 ∧ i = .int .i64 k ∧ a = .slice (some ad) n c ∧ As (LkA w g p b4 k ad n c wr)) (fun _ i _ => (intOf i).toNat)
  case atStart => exact ⟨n0, _, _, _, by omega, by omega, rfl, rfl, HQ0⟩
  case round =>
    obtain ⟨k, ad, n, c, hk0, hk4, rfl, rfl, hst⟩ := hrel
    by_cases hk : 0 < k
    · obtain ⟨l, A1, n1, k1, A2, n2, k2, A3, n3, k3, A4, n4, k4, s, q, hlk, hnk, hq, hrd⟩ := hst.out
      have HLK := As.mk hlk
      have HRD := As.mk hrd
      clear hst hlk hrd HQ0
      go_upto_region 7 with (go_at_call 94; refine (someOp_c _ _ _ HRD.out (by omega)).mono ?_; rintro e w3 ⟨oc, oa, rfl, hok, ⟨q3, hq3, hrd⟩, hf⟩; have HOO := As.mk hok; have HRD3 := As.mk hrd; have HLK3 := As.mk (HLK.out.fr hf); have HQ3 := As.mk hq3; clear hok hq3 hrd hf)
      have hx4 : Ext w3 (w3.alloc (.cells #[.int .i64 oc, .int .i64 oa] 52)) := (Ext.rf w3).al _
      have hob : OB (w3.alloc (.cells #[.int .i64 oc, .int .i64 oa] 52)) w3.heap.size oc oa := al_new _ _
      have HLK4 := As.mk (HLK3.out.ext hx4)
      have HRD4 := As.mk (HRD3.out.ext hx4)
      have HOB := As.mk hob
      have HG6 : As (g ≠ w3.heap.size) := ⟨by have := HRD3.out.lt; omega⟩
      clear HLK3 HRD3 HLK HRD hx4 hob
      generalize (w3.alloc (.cells #[.int .i64 oc, .int .i64 oa] 52)) = w4 at HLK4 HRD4 HOB ⊢
      generalize w3.heap.size = b6 at HOB HG6 ⊢
      have hq3 := HQ3.out
      have m1 := OB.c0 HOB.out; have m2 := OB.c1 HOB.out
      go_cut [29] (fun v wx => ∃ b : Bool, ∃ q4 : Nat, v = .bool b ∧ As (Fr (fun j => j = g) w4 wx ∧ Rdr wx g q4 ∧ q4 ≤ q3 + 1))
      case first =>
        by_cases h19 : oc = 19
        · go_wp2_with (go_at_call 95; refine (pick_c _ _ _ _ HRD4.out (by omega) (by omega)).mono ?_; rintro e w6 ⟨x, rfl, hx0, hx1, hrd, hf⟩; have HRD6 := As.mk hrd; have HF6 := As.mk hf; clear hx0 hx1 hrd hf)
          go_meet
          exact ⟨_, q3 + 1, rfl, ⟨HF6.out, HRD6.out, Nat.le_refl _⟩⟩
        · go_wp2_with fail
          go_meet
          exact ⟨_, q3, rfl, ⟨Fr.rf _ _, HRD4.out, by omega⟩⟩
      case rest =>
        obtain ⟨b, q4, rfl, hst⟩ := hcut
        obtain ⟨wb, hwb⟩ : ∃ wb : World, wb = wc := ⟨_, rfl⟩
        subst hwb
        have HLK5 := As.mk (HLK4.out.fr hst.out.1)
        have HRD5 := As.mk hst.out.2.1
        have HOB5 := As.mk (hst.out.1.blk HOB.out (fun e => HG6.out e.symm))
        have hq4 : q4 ≤ q3 + 1 := hst.out.2.2
        clear hst HLK4 HRD4 HOB m1 m2
        cases b with
        | true =>
          have HNX : As (LkA w g p b4 (k - 1) ad n c wb) := ⟨l, _, _, _, _, _, _, _, _, _, _, _, _, s, q4, HLK5.out, by omega, by omega, HRD5.out⟩
          go_wp2_with fail
          go_roundw
          case measure => simp only [intOf]; omega
          case rel => exact ⟨k - 1, ad, n, c, by omega, by omega, by go_num, rfl, HNX⟩
        | false =>
          obtain ⟨r, hr⟩ : ∃ r, stepS s ⟨oc, oa⟩ = r := ⟨_, rfl⟩
          have HRR := As.mk hr
          clear hr
          have HV := As.mk HLK5.out.v
          have HOKS := As.mk HLK5.out.k
          have c0 := SB.c0 HLK5.out.b; have c1 := SB.c1 HLK5.out.b; have c2 := SB.c2 HLK5.out.b; have c3 := SB.c3 HLK5.out.b; have c4 := SB.c4 HLK5.out.b
          have m1 := OB.c0 HOB5.out; have m2 := OB.c1 HOB5.out
          go_upto_region 8 with fail
          go_cut [7, 8] (fun s7 s8 wx => ∃ g7, s7 = .pointer (some ⟨g7, 0, none⟩) ∧ s8 = .bool r.isSome ∧ As (TriedS wb wx g7 r))
          case first =>
            refine region_tree (fun w' => w'.cell? ⟨b4, 0, none⟩ = some (.slice A1 n1 k1) ∧ w'.cell? ⟨b4, 1, none⟩ = some (.slice A2 n2 k2) ∧ w'.cell? ⟨b4, 2, none⟩ = some (.slice A3 n3 k3) ∧ w'.cell? ⟨b4, 3, none⟩ = some (.slice A4 n4 k4) ∧ w'.cell? ⟨b4, 4, none⟩ = some (.bool s.done) ∧ w'.cell? ⟨b6, 0, none⟩ = some (.int .i64 oc) ∧ w'.cell? ⟨b6, 1, none⟩ = some (.int .i64 oa)) [8]
              (.fork [(0, 1), (2, 1)] 1 7 (.fork [] 3 7 (.lin [(4, 0), (5, 0), (6, 0), (7, 2), (8, 3), (9, 0)]) (.lin [(3, 2), (4, 0), (5, 0), (6, 0), (8, 3), (9, 0)])) (.lin [(1, 2), (3, 2), (4, 0), (5, 0), (6, 0), (8, 3), (9, 0)])) (by kernel_rfl) (by kernel_rfl) rfl (by kernel_rfl) (fun _ _ _ _ h => h) (wpT.fork ?_)
            have hS := And.intro c0 (And.intro c1 (And.intro c2 (And.intro c3 (And.intro c4 (And.intro m1 m2)))))
            repeat (first | refine wpP.c0 (h := ?_) | refine wpP.c1 (w := wb.drew) hS (h := ?_))
            refine wpP.fork ?br1 ?br2
            case' br1 =>
              refine wpT.ev (h := fun Kv hKv => ?_)
              have HEX : As (Ext wb wb.drew) := ⟨(Ext.rf _).dr⟩
              go_wp2_with (go_at_call 97; refine (copyShapes_c _ _ _ _ s _ (HV.out.ext HEX.out) HOKS.out.siz).mono ?_; rintro e w2 ⟨C1, C2, C3, C4, rfl, hv, he, hf⟩; have HCP : As (CopyS wb w2 s C1 C2 C3 C4) := ⟨⟨hv, HEX.out.trans he, fun k hk => Nat.le_trans HEX.out.size (hf k hk)⟩⟩; have HX2 : As (Ext wb w2) := ⟨HEX.out.trans he⟩; have HXX := As.mk he; clear hv he hf)
              refine hKv.out _ _ ⟨HX2.out.cellOf c0, HX2.out.cellOf c1, HX2.out.cellOf c2, HX2.out.cellOf c3, HX2.out.cellOf c4, HX2.out.cellOf m1, HX2.out.cellOf m2⟩ (wpT.fork (wpP.fork ?br3 ?br4))
              clear hKv Kv
              case' br3 =>
                refine wpT.ev (h := fun Kv hKv => ?_)
                go_wp2_with (go_at_call 96; refine (stepShapes_c _ _ _ _ s ⟨oc, oa⟩ _ HCP.out.1 HOKS.out HOO.out).mono ?_; rw [HRR.out]; rintro e w3 ht; obtain ⟨B1, n1', e1, B2, n2', e2, B3, n3', e3, B4, n4', e4, x, rfl, hf, hp⟩ := ht; have HST : As (StepAt wb w3 r (.slice B1 n1' e1) (.slice B2 n2' e2) (.slice B3 n3' e3) (.slice B4 n4' e4) x) := ⟨HCP.out.step hf hp⟩; have hwf := hf; clear hf hp)
                have he3 := HST.out.1
                refine hKv.out _ _ ⟨he3.cellOf c0, he3.cellOf c1, he3.cellOf c2, he3.cellOf c3, he3.cellOf c4, he3.cellOf m1, he3.cellOf m2⟩ (wpT.lin ?_)
                clear hKv Kv he3
                repeat (first | refine wpP.c0 (h := ?_))
                refine wpP.ev (h := fun Kv hKv => ?_)
                go_wp2_with fail
                have HST5 := As.mk (HST.out.ext ((Ext.rf w3).al (.cells #[.slice none 0 0, .slice none 0 0, .slice none 0 0, .slice none 0 0, .bool false] 91)))
                have hr6 := al_new w3 (.cells #[.slice none 0 0, .slice none 0 0, .slice none 0 0, .slice none 0 0, .bool false] 91)
                have hg6 : wb.heap.size ≤ w3.heap.size := HST.out.1.size
                generalize w3.heap.size = g6 at hr6 hg6 ⊢
                generalize w3.alloc (.cells #[.slice none 0 0, .slice none 0 0, .slice none 0 0, .slice none 0 0, .bool false] 91) = w5 at HST5 hr6 ⊢
                have he3 := HST5.out.1
                refine hKv.out _ _ ⟨he3.cellOf c0, he3.cellOf c1, he3.cellOf c2, he3.cellOf c3, he3.cellOf c4, he3.cellOf m1, he3.cellOf m2⟩ ?_
                clear hKv Kv he3 HST HCP hwf HX2 HXX
                have HR6 := As.mk hr6
                clear hr6
              case' br4 =>
                refine wpT.ev (h := fun Kv hKv => ?_)
                go_wp2_with fail
                have HX3 := As.mk (HX2.out.al (.cells #[.slice none 0 0, .slice none 0 0, .slice none 0 0, .slice none 0 0, .bool false] 91))
                have HCP4 := As.mk (HCP.out.ext ((Ext.rf w2).al (.cells #[.slice none 0 0, .slice none 0 0, .slice none 0 0, .slice none 0 0, .bool false] 91)))
                have hr6 := al_new w2 (.cells #[.slice none 0 0, .slice none 0 0, .slice none 0 0, .slice none 0 0, .bool false] 91)
                have hg6 : wb.heap.size ≤ w2.heap.size := HX2.out.size
                clear HCP HX2 HXX
                have HCP := HCP4
                clear HCP4
                generalize w2.heap.size = g6 at hr6 hg6 ⊢
                generalize w2.alloc (.cells #[.slice none 0 0, .slice none 0 0, .slice none 0 0, .slice none 0 0, .bool false] 91) = w4 at HX3 HCP hr6 ⊢
                have he3 := HX3.out
                refine hKv.out _ _ ⟨he3.cellOf c0, he3.cellOf c1, he3.cellOf c2, he3.cellOf c3, he3.cellOf c4, he3.cellOf m1, he3.cellOf m2⟩ (wpT.lin ?_)
                clear hKv Kv he3
                have HR4 := As.mk hr6
                clear hr6
                refine wpP.ev (h := fun Kv hKv => ?_)
                go_wp2_with (go_at_call 96; refine (stepShapes_c _ _ _ _ s ⟨oc, oa⟩ _ HCP.out.1 HOKS.out HOO.out).mono ?_; rw [HRR.out]; rintro e w3 ht; obtain ⟨B1, n1', e1, B2, n2', e2, B3, n3', e3, B4, n4', e4, x, rfl, hf, hp⟩ := ht; have HST : As (StepAt wb w3 r (.slice B1 n1' e1) (.slice B2 n2' e2) (.slice B3 n3' e3) (.slice B4 n4' e4) x) := ⟨HCP.out.step hf hp⟩; have hwf := hf; clear hf hp)
                have he3 := HST.out.1
                refine hKv.out _ _ ⟨he3.cellOf c0, he3.cellOf c1, he3.cellOf c2, he3.cellOf c3, he3.cellOf c4, he3.cellOf m1, he3.cellOf m2⟩ ?_
                clear hKv Kv he3
                have HR6 := As.mk (hwf.blk HR4.out (fun e => HCP.out.1.nb HR4.out e))
                have HST5 := HST
                clear HST HCP hwf HX3 HR4
                generalize w3 = w5 at HST5 HR6 ⊢
            case' br2 =>
              refine wpT.ev (h := fun Kv hKv => ?_)
              go_wp2_with fail
              have HEX : As (Ext wb (wb.alloc (.cells #[.slice none 0 0, .slice none 0 0, .slice none 0 0, .slice none 0 0, .bool false] 91)).drew) := ⟨((Ext.rf _).al _).dr⟩
              have hr6 : SB (wb.alloc (.cells #[.slice none 0 0, .slice none 0 0, .slice none 0 0, .slice none 0 0, .bool false] 91)).drew wb.heap.size (.slice none 0 0) (.slice none 0 0) (.slice none 0 0) (.slice none 0 0) false := al_new wb _
              obtain ⟨g6, hg6e⟩ : ∃ g6, g6 = wb.heap.size := ⟨_, rfl⟩
              rw [← hg6e] at hr6 ⊢
              have hg6 : wb.heap.size ≤ g6 := by omega
              clear hg6e
              generalize (wb.alloc (.cells #[.slice none 0 0, .slice none 0 0, .slice none 0 0, .slice none 0 0, .bool false] 91)).drew = w4 at HEX hr6 ⊢
              have he3 := HEX.out
              refine hKv.out _ _ ⟨he3.cellOf c0, he3.cellOf c1, he3.cellOf c2, he3.cellOf c3, he3.cellOf c4, he3.cellOf m1, he3.cellOf m2⟩ (wpT.lin ?_)
              clear hKv Kv he3
              have HR4 := As.mk hr6
              clear hr6
              refine wpP.ev (h := fun Kv hKv => ?_)
              go_wp2_with (go_at_call 97; refine (copyShapes_c _ _ _ _ s _ (HV.out.ext HEX.out) HOKS.out.siz).mono ?_; rintro e w2 ⟨C1, C2, C3, C4, rfl, hv, he, hf⟩; have HCP : As (CopyS wb w2 s C1 C2 C3 C4) := ⟨⟨hv, HEX.out.trans he, fun k hk => Nat.le_trans HEX.out.size (hf k hk)⟩⟩; have HX2 : As (Ext wb w2) := ⟨HEX.out.trans he⟩; have HXX := As.mk he; clear hv he hf)
              refine hKv.out _ _ ⟨HX2.out.cellOf c0, HX2.out.cellOf c1, HX2.out.cellOf c2, HX2.out.cellOf c3, HX2.out.cellOf c4, HX2.out.cellOf m1, HX2.out.cellOf m2⟩ ?_
              clear hKv Kv
              have HR5 := As.mk (HXX.out.blk HR4.out)
              clear HR4
              refine wpP.ev (h := fun Kv hKv => ?_)
              go_wp2_with (go_at_call 96; refine (stepShapes_c _ _ _ _ s ⟨oc, oa⟩ _ HCP.out.1 HOKS.out HOO.out).mono ?_; rw [HRR.out]; rintro e w3 ht; obtain ⟨B1, n1', e1, B2, n2', e2, B3, n3', e3, B4, n4', e4, x, rfl, hf, hp⟩ := ht; have HST : As (StepAt wb w3 r (.slice B1 n1' e1) (.slice B2 n2' e2) (.slice B3 n3' e3) (.slice B4 n4' e4) x) := ⟨HCP.out.step hf hp⟩; have hwf := hf; clear hf hp)
              have he3 := HST.out.1
              refine hKv.out _ _ ⟨he3.cellOf c0, he3.cellOf c1, he3.cellOf c2, he3.cellOf c3, he3.cellOf c4, he3.cellOf m1, he3.cellOf m2⟩ ?_
              clear hKv Kv he3
              have HR6 := As.mk (hwf.blk HR5.out (fun e => HCP.out.1.nb HR5.out e))
              have HST5 := HST
              clear HST HCP hwf HX2 HXX HR5 HEX
              generalize w3 = w5 at HST5 HR6 ⊢
            all_goals
              repeat (first | refine wpP.c0 (h := ?_))
              refine wpP.last (h := fun Kv hKv => ?_)
              have d0 := SB.c0 HR6.out; have d1 := SB.c1 HR6.out; have d2 := SB.c2 HR6.out; have d3 := SB.c3 HR6.out; have d4 := SB.c4 HR6.out
              have f0 := SB.fz HR6.out 0; have f1 := SB.fz HR6.out 1; have f2 := SB.fz HR6.out 2; have f3 := SB.fz HR6.out 3; have f4 := SB.fz HR6.out 4
              go_wp2_with fail
              refine hKv.out _ _ ?_
              clear hKv Kv hS d0 d1 d2 d3 d4 f0 f1 f2 f3 f4
              repeat (first | refine wpP.c0 (h := ?_))
              refine wpP.done ?_
              have hst6 := HST5.out.put HR6.out hg6
              have hsb6 := SB.all (.slice B1 n1' e1) (.slice B2 n2' e2) (.slice B3 n3' e3) (.slice B4 n4' e4) x HR6.out
              have HST6 := As.mk hst6
              have HSB6 := As.mk hsb6
              clear hst6 hsb6
              generalize (((((w5.setCell ⟨g6, 0, none⟩ (.slice B1 n1' e1)).setCell ⟨g6, 1, none⟩ (.slice B2 n2' e2)).setCell ⟨g6, 2, none⟩ (.slice B3 n3' e3)).setCell ⟨g6, 3, none⟩ (.slice B4 n4' e4)).setCell ⟨g6, 4, none⟩ (.bool x)) = w6 at HST6 HSB6 ⊢
              go_wp2_with fail
              go_meet
              exact ⟨g6, rfl, rfl, ⟨_, _, _, _, _, _, _, _, _, _, _, _, _, HSB6.out, HST6.out, hg6⟩⟩
          case rest =>
            obtain ⟨g7, rfl, rfl, hst⟩ := hcut
            obtain ⟨B1, n1', e1, B2, n2', e2, B3, n3', e3, B4, n4', e4, x, hsb7, hst7, hg7⟩ := hst.out
            have HSB7 := As.mk hsb7
            have HST7 := As.mk hst7
            have HLK7 := As.mk (HLK5.out.ext hst7.1)
            have HRD7 := As.mk (HRD5.out.ext hst7.1)
            have HOB7 := As.mk (hst7.1.blk HOB5.out)
            have HWB := As.mk HLK5.out.f.size
            clear hst hsb7 hst7 hg7 HLK5 HRD5 HOB5 c0 c1 c2 c3 c4 m1 m2
            cases r with
            | none =>
              go_upto_region 11 with fail
              go_cut [44] (fun v wx => ∃ b : Bool, ∃ q5 : Nat, v = .bool b ∧ As (LkF w g b4 ad n c l (.slice A1 n1 k1) (.slice A2 n2 k2) (.slice A3 n3 k3) (.slice A4 n4 k4) s wx ∧ Rdr wx g q5 ∧ q5 ≤ q4 + 1 ∧ OB wx b6 oc oa))
              case first =>
                go_wp2_with (go_at_call 95; refine (pick_c _ _ _ _ HRD7.out (by omega) (by omega)).mono ?_; rintro e w6 ⟨x, rfl, hx0, hx1, hrd, hf⟩; have HRD6 := As.mk hrd; have HF6 := As.mk hf; clear hx0 hx1 hrd hf)
                go_meet
                exact ⟨_, q4 + 1, rfl, ⟨HLK7.out.fr HF6.out, HRD6.out, Nat.le_refl _, HF6.out.blk HOB7.out (fun e => HG6.out e.symm)⟩⟩
              case rest =>
                obtain ⟨b, q5, rfl, hst⟩ := hcut
                have HLKX := As.mk hst.out.1
                have HRDX := As.mk hst.out.2.1
                have hq5 : q5 ≤ q4 + 1 := hst.out.2.2.1
                have m1 := OB.c0 hst.out.2.2.2; have m2 := OB.c1 hst.out.2.2.2
                clear hst
                cases b with
                | false =>
                  have HNX : As (LkA w g p b4 (k - 1) ad n c wc) := ⟨l, _, _, _, _, _, _, _, _, _, _, _, _, s, q5, HLKX.out, by omega, by omega, HRDX.out⟩
                  go_wp2_with fail
                  go_roundw
                  case measure => simp only [intOf]; omega
                  case rel => exact ⟨k - 1, ad, n, c, by omega, by omega, by go_num, rfl, HNX⟩
                | true =>
                  go_wp2_with ((at_builtin; refine app_op rfl _ _ rfl (.slice (some ad) n c) l ⟨oc, oa⟩ rfl rfl HLKX.out.o (by have := HLKX.out.nn; omega) ?_; rw [← HLKX.out.nn]; intro gP cP w9 hap; have HL9 := As.mk (HLKX.out.app hap); have HRD9 := As.mk (HRDX.out.fr hap.2.1 (fun j hj => by have h1 := HLKX.out.of j hj; have h2 := HLKX.out.gl; omega)); clear hap))
                  have HNX : As (LkA w g p b4 (k - 1) ⟨gP, 0, none⟩ (n + 1) cP w9) := ⟨_, _, _, _, _, _, _, _, _, _, _, _, _, _, q5, HL9.out, by omega, by omega, HRD9.out⟩
                  go_roundw
                  case measure => simp only [intOf]; omega
                  case rel => exact ⟨k - 1, ⟨gP, 0, none⟩, n + 1, cP, by omega, by omega, by go_num, rfl, HNX⟩
            | some s1 =>
              obtain ⟨hxd, hsv1, hsf1⟩ := HST7.out.2 s1 rfl
              subst hxd
              have hok1 := HOKS.out.step ⟨oc, oa⟩ HOO.out HRR.out
              have HLK8 := As.mk (HLK7.out.put hok1 hsv1 (fun j hj => Nat.le_trans HWB.out (hsf1 j hj)))
              have hs5 := Fr.set5 (S := fun k => k = b4) (w := wc) (g := b4) rfl (.slice B1 n1' e1) (.slice B2 n2' e2) (.slice B3 n3' e3) (.slice B4 n4' e4) (.bool s1.done)
              have HRD8 := As.mk (HRD7.out.fr hs5 (fun j hj => by have h1 := HLK7.out.lo; have h2 := HLK7.out.gl; omega))
              have HOB8 := As.mk (hs5.blk HOB7.out (fun e => by
                have h1 : wc.heap[b4]? = _ := HLK7.out.b
                have h2 : wc.heap[b6]? = _ := HOB7.out
                rw [e] at h2
                rw [h2] at h1
                simp at h1))
              have c0 := SB.c0 HSB7.out; have c1 := SB.c1 HSB7.out; have c2 := SB.c2 HSB7.out; have c3 := SB.c3 HSB7.out; have c4 := SB.c4 HSB7.out
              have d0 := SB.c0 HLK7.out.b; have d1 := SB.c1 HLK7.out.b; have d2 := SB.c2 HLK7.out.b; have d3 := SB.c3 HLK7.out.b; have d4 := SB.c4 HLK7.out.b
              have f0 := SB.fz HLK7.out.b 0; have f1 := SB.fz HLK7.out.b 1; have f2 := SB.fz HLK7.out.b 2; have f3 := SB.fz HLK7.out.b 3; have f4 := SB.fz HLK7.out.b 4
              clear hsv1 hsf1 hok1 hs5
              go_upto_region 11 with fail
              generalize (((((wc.setCell ⟨b4, 0, none⟩ (.slice B1 n1' e1)).setCell ⟨b4, 1, none⟩ (.slice B2 n2' e2)).setCell ⟨b4, 2, none⟩ (.slice B3 n3' e3)).setCell ⟨b4, 3, none⟩ (.slice B4 n4' e4)).setCell ⟨b4, 4, none⟩ (.bool s1.done)) = w8 at HLK8 HRD8 HOB8 ⊢
              clear c0 c1 c2 c3 c4 d0 d1 d2 d3 d4 f0 f1 f2 f3 f4
              have HLKX := HLK8
              have HRDX := HRD8
              have m1 := OB.c0 HOB8.out; have m2 := OB.c1 HOB8.out
              go_wp2_with ((at_builtin; refine app_op rfl _ _ rfl (.slice (some ad) n c) l ⟨oc, oa⟩ rfl rfl HLKX.out.o (by have := HLKX.out.nn; omega) ?_; rw [← HLKX.out.nn]; intro gP cP w9 hap; have HL9 := As.mk (HLKX.out.app hap); have HRD9 := As.mk (HRDX.out.fr hap.2.1 (fun j hj => by have h1 := HLKX.out.of j hj; have h2 := HLKX.out.gl; omega)); clear hap))
              have HNX : As (LkA w g p b4 (k - 1) ⟨gP, 0, none⟩ (n + 1) cP w9) := ⟨_, _, _, _, _, _, _, _, _, _, _, _, _, _, q4, HL9.out, by omega, by omega, HRD9.out⟩
              go_roundw
              case measure => simp only [intOf]; omega
              case rel => exact ⟨k - 1, ⟨gP, 0, none⟩, n + 1, cP, by omega, by omega, by go_num, rfl, HNX⟩
    · obtain ⟨l, A1, n1, k1, A2, n2, k2, A3, n3, k3, A4, n4, k4, s, q, hlk, hnk, hq, hrd⟩ := hst.out
      have hn := hlk.nn
      subst hn
      have HLK := As.mk hlk
      have HRD := As.mk hrd
      have hcc : l.length ≤ c := by
        obtain ⟨A', c', h1, h2, _⟩ := own_form hlk.o
        injection h1 with _ _ h1
        omega
      have hl30 : l.length ≤ 30 := by omega
      have hqq : q ≤ p + 152 := by omega
      clear hst hlk hrd HQ0 hnk hq hk0 hk4 hz0 hz4
      go_upto_if 51 with (go_at_call 95; refine (pick_c _ _ _ _ HRD.out (by omega) (by omega)).mono ?_; rintro e w6 ⟨x, rfl, hx0, hx1, hrd, hf⟩; have HRD6 := As.mk hrd; have HLK6 := As.mk (HLK.out.fr hf); clear hx0 hx1 hrd hf)
      have HRO := As.mk (rdA_O HLK6.out.o (by omega))
      have HEND : As (∀ (W : World), Ext w6 W → LkV w g p (.returned (.slice (some ad) l.length c)) W) := ⟨fun W he => ⟨some ad, c, l, rfl, HLK6.out.o.ext he, HLK6.out.of, ⟨by omega⟩, ⟨q + 1, by omega, HRD6.out.ext he⟩, HLK6.out.f.trans (Fr.ofExt he)⟩⟩
      by_cases hx : x = 0
      · subst hx
        obtain ⟨eo, heo⟩ : ∃ eo, eo = endOps l := ⟨_, rfl⟩
        have HEL : As (eo.1.length ≤ 300) := ⟨by rw [heo]; exact endOps_le l⟩
        have HEO := As.mk heo
        clear heo
        obtain ⟨more, b⟩ := eo
        go_upto_region 15 with (go_at_call 98; refine (sEndOps_c ad c l _ HRO.out hcc).mono ?_; rw [← HEO.out]; rintro e w7 ⟨A7, c7, rfl, ho, he, _⟩; have HO7 := As.mk ho; have HX7 := As.mk he; clear ho he)
        cases b with
        | false =>
          go_wp2_with fail
          go_ret
          exact HEND.out _ HX7.out
        | true =>
          have hml : more.length ≤ 300 := HEL.out
          obtain ⟨co, hco⟩ : ∃ co, co = cutOps l := ⟨_, rfl⟩
          have hcol : co.length ≤ 30 := by rw [hco]; have := cutOps_le l; omega
          have HCO := As.mk hco
          clear hco
          go_wp2_with (first | (go_at_call 99; refine (sCutOps_c ad c l _ (HRO.out.ext HX7.out) hcc).mono ?_; rw [← HCO.out]; rintro e w8 ⟨A8, c8, rfl, ho, he, hf⟩; have HO8 := As.mk ho; have HX8 := As.mk (HX7.out.trans he); have HXX := As.mk he; have HF8 : As (∀ k, (Value.slice A8 co.length c8).ownBlock = some k → w6.heap.size ≤ k) := ⟨fun k hk => Nat.le_trans HX7.out.size (hf k hk)⟩; clear ho he hf) | (at_builtin; refine app_opsA rfl _ _ rfl (.slice A8 co.length c8) co A7 more.length c7 more rfl rfl rfl (rdA_O (HO7.out.ext HXX.out) (by omega)) HO8.out (by omega) ?_; intro A9 c9 w9 h1 h2 h3; have HO9 := As.mk h1; have HX9 : As (Ext w6 w9) := ⟨(Fr.then (S := fun _ => False) (Fr.ofExt HX8.out) h2 (fun i hi => .inr (HF8.out i hi))).ext (fun _ h => h.elim)⟩; have HF9 : As (∀ k, (Value.slice A9 (co.length + more.length) c9).ownBlock = some k → w6.heap.size ≤ k) := ⟨fo_lo h3 HF8.out HX8.out.size⟩; clear h1 h2 h3))
          go_ret
          have hll : (co ++ more).length = co.length + more.length := by simp
          exact ⟨A9, c9, co ++ more, by rw [hll]; rfl, by rw [hll]; exact HO9.out, by rw [hll]; exact fun k hk => Nat.le_trans HLK6.out.f.size (HF9.out k hk), ⟨by omega⟩, ⟨q + 1, by omega, HRD6.out.ext HX9.out⟩, HLK6.out.f.trans (Fr.ofExt HX9.out)⟩
      · go_wp2_with fail
        go_ret
        exact HEND.out _ (Ext.rf _)
end Go.Proofs.Ytgenllcfpjgklaa.C
