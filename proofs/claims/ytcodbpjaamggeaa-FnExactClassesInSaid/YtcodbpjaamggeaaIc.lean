/- What DepthsOf and MarksOf call after each order. -/
import Derived.Test.YtcodbpjaamggeaaCr
import Derived.Test.YtcodbpjaamggeaaCs
import Derived.Test.YtcodbpjaamggeaaPt
set_option linter.unusedVariables false
set_option linter.unusedSimpArgs false
namespace Go.Proofs.Ytcodbpjaamggeaa.C
open Go.RowKit Go.Proofs.Ytcodbpjaamggeaa.W Go.Proofs.Ytcodbpjaamggeaa.P

/-- A variable that holds a slice of ints. -/
def VB (w : World) (g : Nat) (v : Value) : Prop := w.heap[g]? = some (.cells #[v] 32 (0, 0))
theorem vb_c0 {w g v} (h : VB w g v) : w.cell? ⟨g, 0, none⟩ = some v := by
  have h' : w.heap[g]? = _ := h
  simp [World.cell?, h']
theorem vb_fz {w g v} (h : VB w g v) (j : Nat) : w.frozen? ⟨g, j, none⟩ = false := by
  have h' : w.heap[g]? = _ := h
  simp [World.frozen?, h']
theorem vb_lt {w g v} (h : VB w g v) : g < w.heap.size := (Array.getElem?_eq_some_iff.1 h).1
theorem vb_set {w g v} (u : Value) (h : VB w g v) : VB (w.setCell ⟨g, 0, none⟩ u) g u := by
  have hlt := vb_lt h
  have h' : w.heap[g]? = _ := h
  simp [VB, World.setCell, Array.getElem?_modify, h']
/-- A number was put at the end of the row that a variable holds. -/
def Push (gO : Nat) (v : Value) (ds : List Int) (y : Int) (w : World) (e : Ending) (w' : World) : Prop :=
  (∃ x, e = .returned x) ∧ ∃ v', VB w' gO v' ∧ IR w' v' (ds ++ [y]) ∧ Fr (fun k => k = gO ∨ v.ownBlock = some k) w w' ∧ FreshOr v v' w
theorem push_end {w w1 w2 : World} {gO : Nat} {v : Value} {ds : List Int} {y : Int} {g c' : Nat} (hb : VB w gO v) (hv : IR w v ds) (h1 : Ext w w1) (hap : AppI v ds (ds ++ [y]) w1 g c' w2) (x : Value) :
    Push gO v ds y w (.returned x) (w2.setCell ⟨gO, 0, none⟩ (.slice (some ⟨g, 0, none⟩) (ds.length + 1) c')) := by
  obtain ⟨a1, a2, a3, a4, a5⟩ := hap
  have hb1 : VB w1 gO v := h1.blk hb
  have hv1 : IR w1 v ds := hv.ext h1
  have hb2 : VB w2 gO v := a2.blk hb1 (fun e => own_ne_blk hv1 hb1 (by decide) e)
  have hs : (ds ++ [y]).length = ds.length + 1 := by simp
  rw [hs] at a1
  have hf3 : Fr (fun k => k = gO) w2 (w2.setCell ⟨gO, 0, none⟩ (.slice (some ⟨g, 0, none⟩) (ds.length + 1) c')) := Fr.set (S := fun k => k = gO) w2 _ (p := ⟨gO, 0, none⟩) rfl
  refine ⟨⟨x, rfl⟩, _, vb_set _ hb2, a1.fr hf3 (fun k hk e => own_ne_blk a1 hb2 (by decide) (by rw [← e]; exact hk)), ?_, ?_⟩
  · exact (Fr.trans ((Fr.ofExt h1).trans (a2.mono (fun k hk => Or.inr hk))) (hf3.mono (fun k hk => Or.inl hk)))
  · rcases a3 with h | h
    · exact .inl (by rw [h]; rfl)
    · exact .inr ⟨g, rfl, Nat.le_trans h1.size h⟩
theorem Depths1_c {gO : Nat} (v : Value) (ds : List Int) (vN vM : Value) (S : Option Addr) (n cS : Nat) (d : Bool) (w : World) (hb : VB w gO v) (hi : IR w v ds) (hl : ds.length ≤ 1000000) (hn : n ≤ 1000000) :
    Calls Try.prog 82 #[.agg #[vN, .slice S n cS, vM, .bool d], .pointer (some ⟨gO, 0, none⟩)] w (Push gO v ds n w) := by
  have HB := As.mk hb
  have HI := As.mk hi
  obtain ⟨Av, cv, rfl, _, _⟩ := own_form hi
  have c0 := vb_c0 hb
  have f0 := vb_fz hb 0
  clear hb hi
  go_enter Try.func82, Try.ntmps82
  go_upto_region 1 with fail
  have hm := al_new w (.cells #[vN, .slice S n cS, vM, .bool d] 64)
  have hx := Ext.al (Ext.rf w) (.cells #[vN, .slice S n cS, vM, .bool d] 64)
  have c1 := hx.cellOf c0
  generalize w.alloc (.cells #[vN, .slice S n cS, vM, .bool d] 64) = w1 at hm hx c1 ⊢
  generalize w.heap.size = gM at hm ⊢
  have m1 := MB.c1 hm
  have HX := As.mk hx
  clear hx hm c0 f0
  go_wp2_with ((at_builtin; refine app_int rfl _ _ rfl (.slice Av ds.length cv) ds n rfl rfl (HI.out.ext HX.out) (by omega) ?_; intro gS cS2 w2 hap; have HL : As (∃ w1', Ext w w1' ∧ AppI (.slice Av ds.length cv) ds (ds ++ [(n : Int)]) w1' gS cS2 w2) := ⟨⟨_, HX.out, hap⟩⟩; have hb2 : VB w2 gO (.slice Av ds.length cv) := hap.2.1.blk (HX.out.blk HB.out) (fun e => own_ne_blk HI.out HB.out (by decide) e); have e0 := vb_c0 hb2; have f2 := vb_fz hb2 0; clear hap hb2))
  go_end0
  obtain ⟨w1', hx, hap⟩ := HL.out
  exact push_end HB.out HI.out hx hap _
/-- The state of a callback that puts a number at the end of a variable's row. -/
def JO (gO base : Nat) (D : Nat → Prop) (f : Mc → Int) (ms : List Mc) (W : World) (B : Nat → Prop) : Prop :=
  ∃ v, VB W gO v ∧ IR W v (ms.map f) ∧ ¬ B gO ∧ gO ≠ base ∧ ∀ k, v.ownBlock = some k → ¬ B k ∧ k ≠ base ∧ (D k ∨ base < k)
theorem cb_push {F : FuncId} {f : Mc → Int} {gO base : Nat} {D : Nat → Prop} (he : ∀ args w, (callFunc F args).run Try.prog w = .ok (.enter F args) w) (hD : D gO)
    (hc : ∀ (B : Nat → Prop) g l vN vS vM m w v ds, MR B w g l vN vS vM m → okM 100000 m → VB w gO v → IR w v ds → ds.length ≤ 300 → Calls Try.prog F #[.agg #[vN, vS, vM, .bool m.done], .pointer (some ⟨gO, 0, none⟩)] w (Push gO v ds (f m) w)) :
    CB F #[.pointer (some ⟨gO, 0, none⟩)] base D (JO gO base D f) := by
  refine ⟨he, ?_, ?_⟩
  · rintro ms w w' B ⟨v, h1, h2, h3, h4, h5⟩ hf
    exact ⟨v, hf.blk h1 (fun h => h.elim h3 h4), h2.fr hf (fun k hk h => h.elim (h5 k hk).1 (h5 k hk).2.1), h3, h4, h5⟩
  · rintro ms w B g l vN vS vM m hm hok hms hB ⟨v, h1, h2, h3, h4, h5⟩
    refine (hc B g l vN vS vM m w v (ms.map f) hm hok h1 h2 (by simpa using hms)).mono ?_
    rintro e w' ⟨hx, v', k1, k2, k3, k4⟩
    refine ⟨hx, fun k => B k ∧ v'.ownBlock ≠ some k, ⟨v', k1, ?_, fun h => h3 h.1, h4, ?_⟩, ?_, fun k h => h.1, ?_⟩
    · rw [List.map_append]; exact k2
    · intro k hk
      refine ⟨fun h => h.2 hk, ?_⟩
      rcases k4 with e1 | ⟨b, e1, e2⟩
      · rw [e1] at hk; exact (h5 k hk).2
      · rw [hk] at e1
        injection e1 with e1
        subst e1
        have := hB k (hm.up k e2)
        exact ⟨by omega, .inr this⟩
    · have hkeep : ∀ k, Foot g l vN vS vM k → w'.heap[k]? = w.heap[k]? := by
        intro k hk
        have hBk := hm.lo k hk
        exact k3.block k (hm.foot_lt k hk) (fun h => h.elim (fun e => h3 (e ▸ hBk)) (fun e => (h5 k e).1 hBk))
      have hm' := hm.keep k3.size hkeep
      refine ⟨hm'.mb, hm'.nr, hm'.ns, hm'.sr, hm'.me, fun k hk => ⟨hm'.lo k hk, fun e => ?_⟩, hm'.kk, hm'.ks, hm'.km, hm'.sm, fun k hk => ⟨hm'.up k hk, fun e => ?_⟩⟩
      · rcases k4 with e1 | ⟨b, e1, e2⟩
        · rw [e] at e1; exact (h5 k e1.symm).1 (hm.lo k hk)
        · rw [e] at e1
          injection e1 with e1
          subst e1
          have := hm.foot_lt k hk
          omega
      · have := own_lt k2 e
        omega
    · refine k3.mono ?_
      rintro k (rfl | hk)
      · exact .inl hD
      · obtain ⟨a1, a2, a3⟩ := h5 k hk
        exact a3.elim .inl (fun h => .inr (.inl ⟨h, a1⟩))
theorem Depths1_e (args : Array Value) (w : World) : (callFunc 82 args).run Try.prog w = .ok (.enter 82 args) w :=
  call_enter Try.func82 (by kernel_rfl) (by kernel_rfl) args w
def depthF (m : Mc) : Int := m.stack.length
theorem cb_depths {gO base : Nat} {D : Nat → Prop} (hD : D gO) : CB 82 #[.pointer (some ⟨gO, 0, none⟩)] base D (JO gO base D depthF) := by
  refine cb_push Depths1_e hD ?_
  intro B g l vN vS vM m w v ds hm hok hb hi hl
  have hsl : m.stack.length ≤ 100000 := by have := hok.sl; omega
  obtain ⟨AS, cS, rfl, _, _⟩ := hm.rdS (by omega)
  exact Depths1_c v ds vN vM AS m.stack.length cS m.done w hb hi (by omega) (by omega)
/-- What the machines tell after each order. -/
def tellOf (f : Mc → Int) (ops : List Opr) : List Int := if vOps ops = true then (trace newM ops).map f else []
/-- The out variable and its empty row were made. -/
structure Init (w w1 W : World) (gO : Nat) : Prop where
  e : Ext w W
  b : VB W gO (.slice (some ⟨w1.heap.size, 0, none⟩) 0 0)
  r : IR W (.slice (some ⟨w1.heap.size, 0, none⟩) 0 0) []
  g : gO = w1.heap.size + 1
  s : W.heap.size = w1.heap.size + 2
  l : w.heap.size ≤ w1.heap.size
theorem init_of {w w1 : World} (he : Ext w w1) : Init w w1 ((w1.alloc (.cells #[] 3)).alloc (.cells #[.slice (some ⟨w1.heap.size, 0, none⟩) 0 0] 32)) (w1.heap.size + 1) := by
  refine ⟨(he.al _).al _, ?_, ?_, rfl, ?_, he.size⟩
  · have := al_new (w1.alloc (.cells #[] 3)) (.cells #[.slice (some ⟨w1.heap.size, 0, none⟩) 0 0] 32)
    rw [al_size] at this
    exact this
  · exact IR.ext (own_zero (World.ownsRow_lit (base := 0) (size := 1) w1 #[] 0 (Nat.zero_le _) (by simp) rfl)) ((Ext.rf _).al _)
  · simp [al_size]
theorem Init.far {w w1 W gO} (h : Init w w1 W gO) {k : Nat} (hk : k < w.heap.size) : ¬ (k = gO ∨ k = w1.heap.size) := by
  have := h.g; have := h.l
  omega
theorem Init.nd {w w1 W gO} (h : Init w w1 W gO) : ¬ (W.heap.size = gO ∨ W.heap.size = w1.heap.size) := by
  have := h.g; have := h.s
  omega
theorem Init.start {w w1 W gO} (h : Init w w1 W gO) (f : Mc → Int) {w' : World} (he : Ext W w') : JO gO W.heap.size (fun k => k = gO ∨ k = w1.heap.size) f [] w' (fun k => W.heap.size < k) := by
  have h1 := h.g; have h2 := h.s
  refine ⟨_, he.blk h.b, h.r.ext he, by omega, by omega, fun k hk => ?_⟩
  simp [Value.ownBlock] at hk
  exact ⟨by omega, by omega, .inl (.inr hk.symm)⟩
theorem Init.fin {w w1 W gO} (h : Init w w1 W gO) {f : Mc → Int} {ms : List Mc} {w' : World} {B : Nat → Prop} (hj : JO gO W.heap.size (fun k => k = gO ∨ k = w1.heap.size) f ms w' B)
    (hf : Fr (fun j => (j = gO ∨ j = w1.heap.size) ∨ W.heap.size ≤ j) W w') : ∃ v, VB w' gO v ∧ IR w' v (ms.map f) ∧ Ext w w' ∧ Fresh v w := by
  obtain ⟨v, h1, h2, h3, h4, h5⟩ := hj
  have k1 := h.g; have k2 := h.s; have k3 := h.l
  refine ⟨v, h1, h2, (Fr.then (S := fun _ => False) (Fr.ofExt h.e) hf (fun i hi => .inr (by omega))).ext (fun _ h => h.elim), fun k hk => ?_⟩
  have := (h5 k hk).2.2
  omega
theorem DepthsOf_c (A : Option Addr) (c : Nat) (ops : List Opr) (w : World) (hr : RdO w A ops) (hA : ∀ ad, A = some ad → ad.block < w.heap.size) :
    Calls Try.prog 31 #[.slice A ops.length c] w (ClonePost (tellOf depthF ops) w) := by
  have hlen := hr.1
  have HR := As.mk hr
  have HA := As.mk hA
  clear hr hA
  cases hv : vOps ops with
  | false =>
    have HB : As (tellOf depthF ops = []) := ⟨by simp [tellOf, hv]⟩
    have HV := As.mk hv
    clear hv
    go_enter Try.func31, Try.ntmps31
    go_wp2_with (go_at_call 76; refine (ValidOps_c _ _ _ _ HR.out).mono ?_; rw [HV.out]; rintro e w1 ⟨rfl, he⟩; have HE := As.mk he; clear he)
    go_ret
    rw [HB.out]
    exact ⟨none, 0, rfl, IR.nil _, HE.out, by simp [Fresh, Value.ownBlock]⟩
  | true =>
    have HV := As.mk hv
    have HB : As (tellOf depthF ops = (trace newM ops).map depthF) := ⟨by simp [tellOf, hv]⟩
    have HVV := As.mk (vOps_all hv)
    clear hv
    go_enter Try.func31, Try.ntmps31
    go_upto_region 4 with (go_at_call 76; refine (ValidOps_c _ _ _ _ HR.out).mono ?_; rw [HV.out]; rintro e w1 ⟨rfl, he⟩; have HE := As.mk he; clear he)
    have HI : As (Init w w1 ((w1.alloc (.cells #[] 3)).alloc (.cells #[.slice (some ⟨w1.heap.size, 0, none⟩) 0 0] 32)) (w1.heap.size + 1)) := ⟨init_of HE.out⟩
    generalize ((w1.alloc (.cells #[] 3)).alloc (.cells #[.slice (some ⟨w1.heap.size, 0, none⟩) 0 0] 32)) = w2 at HI ⊢
    obtain ⟨gO, hgO⟩ : ∃ gO, gO = w1.heap.size + 1 := ⟨_, rfl⟩
    rw [← hgO] at HI ⊢
    clear hgO
    go_upto_region 5 with (go_at_call 77; refine (running_c (D := fun k => k = gO ∨ k = w1.heap.size) w2 (cb_depths (.inl rfl)) _ _ _ (HR.out.ext HI.out.e) HVV.out.1 HVV.out.2 (fun ad h => HI.out.far (HA.out ad h)) HI.out.nd (fun w' he => HI.out.start depthF he)).mono ?_; rintro e w3 ⟨l, vN, vS, vM, B, rfl, hmv, _, hj, hf⟩; obtain ⟨B3, c3, rfl, _, _⟩ := own_form hmv.nr.1; obtain ⟨B4, c4, rfl, _, _⟩ := own_form hmv.sr; obtain ⟨B5, c5, rfl, _, _⟩ := own_form hmv.me; have HJ := As.mk (HI.out.fin hj hf); clear hmv hj hf)
    obtain ⟨v, hb, hi, he, hfr⟩ := HJ.out
    have c0 := vb_c0 hb
    obtain ⟨Av, cv, rfl, _, _⟩ := own_form hi
    have HP := As.mk (And.intro hi (And.intro he hfr))
    clear HJ hb hi he hfr
    go_wp2_with fail
    go_ret
    rw [HB.out]
    exact ⟨Av, cv, by rw [List.length_map]; rfl, HP.out⟩
end Go.Proofs.Ytcodbpjaamggeaa.C
