/- Machines that stop several times: plain Lean, and the reference. -/
import Derived.Test.YtcodbpjaamggeaaOa
import Derived.Test.YtcodbpjaamggeaaPt
import Derived.Test.YtcodbpjaamggeaaHe
set_option linter.unusedVariables false
set_option linter.unusedSimpArgs false
namespace Go.Proofs.Ytcodbpjaamggeaa.P

/-- A machine, what was saved at its last stop, its roots, how many orders. -/
structure Mst where
  m : Mc
  sv : Mc
  rs : List Int
  en : Nat
def stopM (m : Mc) : Mc := { m with stack := [], done := false }
def manyS (s : Mst) (i : Nat) (o : Opr) : Option Mst := match stepP s.m o with
  | none => none
  | some m' => if m'.done = true then some ⟨stopM m', stopM m', s.rs ++ [st m'.stack 0], i + 1⟩ else some { s with m := m' }
def manyF : Nat → Mst → List Opr → Mst
  | _, s, [] => s
  | i, s, o :: r => match manyS s i o with
    | none => s
    | some s' => manyF (i + 1) s' r
def manyR (ops : List Opr) : Mst := manyF 0 ⟨newM, newM, [], 0⟩ ops
theorem manyF_drop {ops : List Opr} {k : Nat} (hk : k < ops.length) (s : Mst) : manyF k s (ops.drop k) = match manyS s k ops[k] with
    | none => s
    | some s' => manyF (k + 1) s' (ops.drop (k + 1)) := by
  rw [List.drop_eq_getElem_cons hk]; rfl
theorem stop_ok {B : Nat} {m : Mc} (h : okM B m) : okM B (stopM m) := ⟨h.nl, by simp [stopM], h.ml, by simp [stopM], h.mi, h.ki⟩
theorem step_one {B : Nat} {m m' : Mc} {o : Opr} (h : okM B m) (hk : okK m) (ho : okO o = true) (hs : stepP m o = some m') (hd : m'.done = true) : ∃ x, m'.stack = [x] ∧ st m'.stack 0 = x ∧ 0 ≤ x := by
  have h1 := stepS_shp h hk o ho
  rw [hs] at h1
  have h2 := stepS_done h1
  rcases h2 with h2 | ⟨h2, h3⟩
  · rw [show (shp m').done = m'.done from rfl, hd] at h2; exact nomatch h2
  · have h4 : m'.stack.length = 1 := h2
    match hl : m'.stack, h4 with
    | [x], _ => exact ⟨x, rfl, rfl, by have h5 : 0 ≤ st m'.stack 0 := h3; rw [hl] at h5; exact h5⟩
/-- Where the loop stands. -/
structure MyAt (ops : List Opr) (k : Nat) (s : Mst) : Prop where
  run : manyR ops = manyF k s (ops.drop k)
  ok : okM (301 * k) s.m
  kk : okK s.m
  sv : okM (301 * k) s.sv
  rl : s.rs.length ≤ k
  en : s.en ≤ k
theorem MyAt.new (ops : List Opr) : MyAt ops 0 ⟨newM, newM, [], 0⟩ := ⟨rfl, okM_new, okK_new, okM_new, Nat.le_refl _, Nat.le_refl _⟩
theorem MyAt.stop {ops : List Opr} {k : Nat} {s : Mst} (h : MyAt ops k s) (hk : k < ops.length) (hs : stepP s.m ops[k] = none) : manyR ops = s := by
  rw [h.run, manyF_drop hk]; unfold manyS; rw [hs]
theorem MyAt.done {ops : List Opr} {k : Nat} {s : Mst} (h : MyAt ops k s) (hk : ops.length ≤ k) : manyR ops = s := by
  rw [h.run, List.drop_of_length_le hk]; rfl
theorem MyAt.go {ops : List Opr} {k : Nat} {s : Mst} (h : MyAt ops k s) (hk : k < ops.length) (ho : okO ops[k] = true) {m' : Mc} (hs : stepP s.m ops[k] = some m') (hd : m'.done = false) : MyAt ops (k + 1) { s with m := m' } := by
  refine ⟨?_, (okM_step h.ok ho hs).mono (by omega), okK.step h.kk _ ho hs, h.sv.mono (by omega), Nat.le_succ_of_le h.rl, Nat.le_succ_of_le h.en⟩
  rw [h.run, manyF_drop hk]; unfold manyS; rw [hs]; simp only [hd]; rfl
theorem MyAt.root {ops : List Opr} {k : Nat} {s : Mst} (h : MyAt ops k s) (hk : k < ops.length) (ho : okO ops[k] = true) {m' : Mc} (hs : stepP s.m ops[k] = some m') (hd : m'.done = true) {x : Int} (hx : st m'.stack 0 = x) : MyAt ops (k + 1) ⟨stopM m', stopM m', s.rs ++ [x], k + 1⟩ := by
  have h1 : okM (301 * (k + 1)) m' := (okM_step h.ok ho hs).mono (by omega)
  have h2 : okK m' := okK.step h.kk _ ho hs
  refine ⟨?_, stop_ok h1, h2, stop_ok h1, by simp; exact h.rl, Nat.le_refl _⟩
  rw [h.run, manyF_drop hk]; unfold manyS; rw [hs]; simp only [hd, if_true, hx]
theorem many_ok : ∀ (ops : List Opr), ops.all okO = true → ∃ k, k ≤ ops.length ∧ MyAt ops k (manyR ops) ∧ (manyR ops = manyR ops) := by
  intro ops ho
  have key : ∀ (n k : Nat) (s : Mst), ops.length - k = n → k ≤ ops.length → MyAt ops k s → ∃ k', k' ≤ ops.length ∧ MyAt ops k' (manyR ops) := by
    intro n
    induction n with
    | zero => intro k s hn hk h; exact ⟨k, hk, by rw [h.done (by omega)]; exact h⟩
    | succ n ih =>
      intro k s hn hk h
      have hlt : k < ops.length := by omega
      have hoo := List.all_eq_true.1 ho _ (List.getElem_mem hlt)
      cases hs : stepP s.m ops[k] with
      | none => exact ⟨k, hk, by rw [h.stop hlt hs]; exact h⟩
      | some m' =>
        cases hd : m'.done with
        | false => exact ih (k + 1) _ (by omega) hlt (h.go hlt hoo hs hd)
        | true => exact ih (k + 1) _ (by omega) hlt (h.root hlt hoo hs hd rfl)
  obtain ⟨k, h1, h2⟩ := key _ 0 _ rfl (Nat.zero_le _) (MyAt.new ops)
  exact ⟨k, h1, h2, rfl⟩
end Go.Proofs.Ytcodbpjaamggeaa.P
namespace Go.Proofs.Ytcodbpjaamggeaa.C
open Go.RowKit Go.Proofs.Ytcodbpjaamggeaa.W Go.Proofs.Ytcodbpjaamggeaa.P

def FM (vN vS vM : Value) (l : List (Nd × Value)) (k : Nat) : Prop := vN.ownBlock = some k ∨ vS.ownBlock = some k ∨ vM.ownBlock = some k ∨ ∃ p ∈ l, p.2.ownBlock = some k
/-- The machine, the saved one, the roots. -/
structure MyQ (w W : World) (g2 g5 g6 : Nat) (m sv : Mc) (l lu : List (Nd × Value)) (vN vS vM uN uS uM v : Value) (rs : List Int) : Prop where
  e : Ext w W
  b2 : MB W g2 (.slice none 0 0) (.slice none 0 0) (.slice none 0 0) false
  b5 : MB W g5 vN vS vM m.done
  b6 : MB W g6 uN uS uM sv.done
  mv : MW (fun _ => True) W l vN vS vM m
  su : MW (fun _ => True) W lu uN uS uM sv
  r : IR W v rs
  rf : Fresh v w
  rm : ∀ k, v.ownBlock = some k → ¬ FM vN vS vM l k ∧ ¬ FM uN uS uM lu k
  n25 : g2 ≠ g5
  n26 : g2 ≠ g6
  n56 : g5 ≠ g6
  l2 : w.heap.size ≤ g2
  l5 : w.heap.size ≤ g5
  l6 : w.heap.size ≤ g6
section
variable {w W : World} {g2 g5 g6 : Nat} {m sv : Mc} {l lu : List (Nd × Value)} {vN vS vM uN uS uM v : Value} {rs : List Int}
theorem MyQ.ext {W'} (h : MyQ w W g2 g5 g6 m sv l lu vN vS vM uN uS uM v rs) (e : Ext W W') : MyQ w W' g2 g5 g6 m sv l lu vN vS vM uN uS uM v rs :=
  ⟨h.e.trans e, e.blk h.b2, e.blk h.b5, e.blk h.b6, h.mv.ext e, h.su.ext e, h.r.ext e, h.rf, h.rm, h.n25, h.n26, h.n56, h.l2, h.l5, h.l6⟩
/-- The machine is another one. -/
theorem MyQ.put {m' l' vN' vS' vM'} (h : MyQ w W g2 g5 g6 m sv l lu vN vS vM uN uS uM v rs) (hm : MW (fun _ => True) W l' vN' vS' vM' m') (hr : ∀ k, v.ownBlock = some k → ¬ FM vN' vS' vM' l' k) :
    MyQ w ((((W.setCell ⟨g5, 0, none⟩ vN').setCell ⟨g5, 1, none⟩ vS').setCell ⟨g5, 2, none⟩ vM').setCell ⟨g5, 3, none⟩ (.bool m'.done)) g2 g5 g6 m' sv l' lu vN' vS' vM' uN uS uM v rs := by
  have hf := Fr.set4 (S := fun k => k = g5) (w := W) (g := g5) rfl vN' vS' vM' (.bool m'.done)
  refine ⟨(Fr.then (S := fun _ => False) (Fr.ofExt h.e) hf (fun i hi => .inr (by have := h.l5; omega))).ext (fun _ h => h.elim), hf.blk h.b2 h.n25, MB.all _ _ _ _ h.b5, hf.blk h.b6 (fun e => h.n56 e.symm), hm.keep hf.size (fun k hk => hf.block k (hm.lt k hk) (fun e => hm.nb h.b5 (by rw [← e]; exact hk))), h.su.keep hf.size (fun k hk => hf.block k (h.su.lt k hk) (fun e => h.su.nb h.b5 (by rw [← e]; exact hk))), h.r.fr hf (fun k hk e => own_ne_blk h.r h.b5 (by decide) (by rw [← e]; exact hk)), h.rf, fun k hk => ⟨hr k hk, (h.rm k hk).2⟩, h.n25, h.n26, h.n56, h.l2, h.l5, h.l6⟩
/-- The machine is saved. -/
theorem MyQ.save (h : MyQ w W g2 g5 g6 m sv l lu vN vS vM uN uS uM v rs) :
    MyQ w ((((W.setCell ⟨g6, 0, none⟩ vN).setCell ⟨g6, 1, none⟩ vS).setCell ⟨g6, 2, none⟩ vM).setCell ⟨g6, 3, none⟩ (.bool m.done)) g2 g5 g6 m m l l vN vS vM vN vS vM v rs := by
  have hf := Fr.set4 (S := fun k => k = g6) (w := W) (g := g6) rfl vN vS vM (.bool m.done)
  have hm : MW (fun _ => True) ((((W.setCell ⟨g6, 0, none⟩ vN).setCell ⟨g6, 1, none⟩ vS).setCell ⟨g6, 2, none⟩ vM).setCell ⟨g6, 3, none⟩ (.bool m.done)) l vN vS vM m := h.mv.keep hf.size (fun k hk => hf.block k (h.mv.lt k hk) (fun e => h.mv.nb h.b6 (by rw [← e]; exact hk)))
  exact ⟨(Fr.then (S := fun _ => False) (Fr.ofExt h.e) hf (fun i hi => .inr (by have := h.l6; omega))).ext (fun _ h => h.elim), hf.blk h.b2 h.n26, hf.blk h.b5 h.n56, MB.all _ _ _ _ h.b6, hm, hm, h.r.fr hf (fun k hk e => own_ne_blk h.r h.b6 (by decide) (by rw [← e]; exact hk)), h.rf, fun k hk => ⟨(h.rm k hk).1, (h.rm k hk).1⟩, h.n25, h.n26, h.n56, h.l2, h.l5, h.l6⟩
/-- A root is put down. -/
theorem MyQ.app {W' x gP cP} (h : MyQ w W g2 g5 g6 m sv l lu vN vS vM uN uS uM v rs) (hap : AppI v rs (rs ++ [x]) W gP cP W') : MyQ w W' g2 g5 g6 m sv l lu vN vS vM uN uS uM (.slice (some ⟨gP, 0, none⟩) (rs ++ [x]).length cP) (rs ++ [x]) := by
  obtain ⟨a1, a2, a3, a4, _⟩ := hap
  have hne : ∀ k, (Value.slice (some ⟨gP, 0, none⟩) (rs ++ [x]).length cP).ownBlock = some k → ¬ FM vN vS vM l k ∧ ¬ FM uN uS uM lu k := by
    intro k hk
    have hk : gP = k := by injection hk
    subst hk
    rcases a3 with e | e
    · exact h.rm _ e
    · exact ⟨fun hf => by have := h.mv.lt _ hf; omega, fun hf => by have := h.su.lt _ hf; omega⟩
  have hb : ∀ {g a b c d}, MB W g a b c d → MB W' g a b c d := fun hb => a2.blk hb (fun e => own_ne_blk h.r hb (by decide) e)
  refine ⟨fr_ext h.e a2 h.rf, hb h.b2, hb h.b5, hb h.b6, h.mv.keep a2.size (fun k hk => a2.block k (h.mv.lt k hk) (fun e => (h.rm k e).1 hk)), h.su.keep a2.size (fun k hk => a2.block k (h.su.lt k hk) (fun e => (h.rm k e).2 hk)), a1, fun k hk => ?_, hne, h.n25, h.n26, h.n56, h.l2, h.l5, h.l6⟩
  have hk : gP = k := by injection hk
  subst hk
  rcases a3 with e | e
  · exact h.rf _ e
  · exact Nat.le_trans h.e.size e
/-- The machine is begun anew. -/
theorem MyQ.stop {Wa} (hWa : Wa = W.setCell ⟨g5, 3, none⟩ (.bool false)) (h : MyQ w W g2 g5 g6 m sv l lu vN vS vM uN uS uM v rs) :
    MyQ w ((Wa.alloc (.cells #[] 3)).setCell ⟨g5, 1, none⟩ (.slice (some ⟨Wa.heap.size, 0, none⟩) 0 0)) g2 g5 g6 (stopM m) sv l lu vN (.slice (some ⟨Wa.heap.size, 0, none⟩) 0 0) vM uN uS uM v rs := by
  subst hWa
  have hz0 : (W.setCell ⟨g5, 3, none⟩ (.bool false)).heap.size = W.heap.size := by simp [World.setCell]
  rw [hz0]
  have hz : (W.setCell ⟨g5, 3, none⟩ (.bool false)).heap.size = W.heap.size := by simp [World.setCell]
  have hf1 : Fr (fun k => k = g5) W (W.setCell ⟨g5, 3, none⟩ (.bool false)) := Fr.set (S := fun k => k = g5) W _ rfl
  have hx : Ext (W.setCell ⟨g5, 3, none⟩ (.bool false)) ((W.setCell ⟨g5, 3, none⟩ (.bool false)).alloc (.cells #[] 3)) := (Ext.rf _).al _
  have hf2 : Fr (fun k => k = g5) ((W.setCell ⟨g5, 3, none⟩ (.bool false)).alloc (.cells #[] 3)) _ := Fr.set (S := fun k => k = g5) ((W.setCell ⟨g5, 3, none⟩ (.bool false)).alloc (.cells #[] 3)) (.slice (some ⟨W.heap.size, 0, none⟩) 0 0) (p := ⟨g5, 1, none⟩) rfl
  have hf := (hf1.trans (Fr.ofExt hx)).trans hf2
  have hlt5 : g5 < W.heap.size := (Array.getElem?_eq_some_iff.1 h.b5).1
  have hkm : ∀ k, FM vN vS vM l k → (((W.setCell ⟨g5, 3, none⟩ (.bool false)).alloc (.cells #[] 3)).setCell ⟨g5, 1, none⟩ (.slice (some ⟨W.heap.size, 0, none⟩) 0 0)).heap[k]? = W.heap[k]? := fun k hk => hf.block k (h.mv.lt k hk) (fun e => h.mv.nb h.b5 (by rw [← e]; exact hk))
  have hir : IR (((W.setCell ⟨g5, 3, none⟩ (.bool false)).alloc (.cells #[] 3)).setCell ⟨g5, 1, none⟩ (.slice (some ⟨W.heap.size, 0, none⟩) 0 0)) (.slice (some ⟨W.heap.size, 0, none⟩) 0 0) [] := by
    have h0 : IR ((W.setCell ⟨g5, 3, none⟩ (.bool false)).alloc (.cells #[] 3)) (.slice (some ⟨(W.setCell ⟨g5, 3, none⟩ (.bool false)).heap.size, 0, none⟩) 0 0) [] := World.ownsRow_lit (base := 0) (size := 1) (W.setCell ⟨g5, 3, none⟩ (.bool false)) #[] 0 (Nat.zero_le _) (by simp) rfl
    rw [hz] at h0
    refine h0.fr hf2 (fun k hk e => ?_)
    have hk : W.heap.size = k := by injection hk
    omega
  have hnew : ∀ k, (Value.slice (some ⟨W.heap.size, 0, none⟩) 0 0).ownBlock = some k → W.heap.size ≤ k := by
    intro k hk
    have hk : W.heap.size = k := by injection hk
    omega
  refine ⟨(Fr.then (S := fun _ => False) (Fr.ofExt h.e) hf (fun i hi => .inr (by have := h.l5; omega))).ext (fun _ h => h.elim), hf.blk h.b2 h.n25, ?_, hf.blk h.b6 (fun e => h.n56 e.symm), ?_, h.su.keep hf.size (fun k hk => hf.block k (h.su.lt k hk) (fun e => h.su.nb h.b5 (by rw [← e]; exact hk))), h.r.fr hf (fun k hk e => own_ne_blk h.r h.b5 (by decide) (by rw [← e]; exact hk)), h.rf, fun k hk => ⟨fun hfm => ?_, (h.rm k hk).2⟩, h.n25, h.n26, h.n56, h.l2, h.l5, h.l6⟩
  · have h1 : W.heap[g5]? = _ := h.b5
    show (((W.setCell ⟨g5, 3, none⟩ (.bool false)).alloc (.cells #[] 3)).setCell ⟨g5, 1, none⟩ (.slice (some ⟨W.heap.size, 0, none⟩) 0 0)).heap[g5]? = some _
    have h2 : ((W.setCell ⟨g5, 3, none⟩ (.bool false)).alloc (.cells #[] 3)).heap[g5]? = some (.cells #[vN, vS, vM, .bool false] 64 (0, 0)) := hx.blk (by simp [World.setCell, Array.getElem?_modify, h1])
    simp [World.setCell, Array.getElem?_modify] at h2 ⊢
    simp [h2, stopM]
  · refine ⟨h.mv.nr.keep (fun k hk => hkm k (hk.elim .inl (fun e => .inr (.inr (.inr e))))), h.mv.ns, hir, h.mv.me.keep (fun k hk => hkm k (.inr (.inr (.inl hk)))), fun _ _ => trivial, h.mv.kk, fun p hp => Apart.fresh (fun k hk => own_lt (h.mv.nr.2 p hp).1 hk) hnew, h.mv.km, (Apart.fresh (fun k hk => own_lt h.mv.me hk) hnew).symm, fun _ _ => trivial⟩
  · rcases hfm with e | e | e | e
    · exact (h.rm k hk).1 (.inl e)
    · have := hnew k e
      have := own_lt h.r hk
      omega
    · exact (h.rm k hk).1 (.inr (.inr (.inl e)))
    · exact (h.rm k hk).1 (.inr (.inr (.inr e)))
end
/-- An order was tried on a copy, which lies in a box now. -/
def Tried (wr wx : World) (g10 : Nat) (r : Option Mc) : Prop := Ext wr wx ∧ wr.heap.size ≤ g10 ∧ ∃ B1 n1 e1 B2 n2 e2 B3 n3 e3 d, MB wx g10 (.slice B1 n1 e1) (.slice B2 n2 e2) (.slice B3 n3 e3) d ∧ ∀ m', r = some m' → d = m'.done ∧ ∃ l, MW (wr.heap.size ≤ ·) wx l (.slice B1 n1 e1) (.slice B2 n2 e2) (.slice B3 n3 e3) m'
theorem tried_of {wr w5 g6 r B1 n1 e1 B2 n2 e2 B3 n3 e3 x} (h : StepM wr w5 r (.slice B1 n1 e1) (.slice B2 n2 e2) (.slice B3 n3 e3) x) (hr : MB w5 g6 (.slice none 0 0) (.slice none 0 0) (.slice none 0 0) false) (hg : wr.heap.size ≤ g6) :
    Tried wr ((((w5.setCell ⟨g6, 0, none⟩ (.slice B1 n1 e1)).setCell ⟨g6, 1, none⟩ (.slice B2 n2 e2)).setCell ⟨g6, 2, none⟩ (.slice B3 n3 e3)).setCell ⟨g6, 3, none⟩ (.bool x)) g6 r := by
  have hs5 := Fr.set4 (S := fun k => k = g6) (w := w5) (g := g6) rfl (.slice B1 n1 e1) (.slice B2 n2 e2) (.slice B3 n3 e3) (.bool x)
  refine ⟨(Fr.then (S := fun _ => False) (Fr.ofExt h.1) hs5 (fun i hi => .inr (by omega))).ext (fun _ h => h.elim), hg, B1, n1, e1, B2, n2, e2, B3, n3, e3, x, MB.all _ _ _ _ hr, fun m' hm => ?_⟩
  obtain ⟨hx, l, hv⟩ := h.2 m' hm
  exact ⟨hx, l, hv.keep hs5.size (fun k hk => hs5.block k (hv.lt k hk) (fun e => hv.nb hr (by rw [← e]; exact hk)))⟩
def ManyQ (ops : List Opr) (w : World) (g2 g5 g6 k : Nat) (v en : Value) (wr : World) : Prop :=
  ∃ s l lu AN cN AS cS AM cM uN eN uS eS uM eM R cR, v = .slice R s.rs.length cR ∧ en = .int .i64 s.en ∧ MyAt ops k s ∧ MyQ w wr g2 g5 g6 s.m s.sv l lu (.slice AN s.m.nodes.length cN) (.slice AS s.m.stack.length cS) (.slice AM s.m.memo.length cM) (.slice uN s.sv.nodes.length eN) (.slice uS s.sv.stack.length eS) (.slice uM s.sv.memo.length eM) (.slice R s.rs.length cR) s.rs
theorem manyQ_of {ops : List Opr} {w : World} {g2 g5 g6 k : Nat} {s : Mst} {l lu vN vS vM uN uS uM R cR} {wr : World} (h : MyAt ops k s) (hk : k ≤ 300) (hq : MyQ w wr g2 g5 g6 s.m s.sv l lu vN vS vM uN uS uM (.slice R s.rs.length cR) s.rs) : ManyQ ops w g2 g5 g6 k (.slice R s.rs.length cR) (.int .i64 s.en) wr := by
  obtain ⟨AN, cN, AS, cS, AM, cM, rfl, rfl, rfl, -, -⟩ := hq.mv.rm (by have := h.ok.nl; omega) (by have := h.ok.sl; omega) (by have := h.ok.ml; omega)
  obtain ⟨uN, eN, uS, eS, uM, eM, rfl, rfl, rfl, -, -⟩ := hq.su.rm (by have := h.sv.nl; omega) (by have := h.sv.sl; omega) (by have := h.sv.ml; omega)
  exact ⟨s, l, lu, AN, cN, AS, cS, AM, cM, uN, eN, uS, eS, uM, eM, R, cR, rfl, rfl, h, hq⟩
theorem sl_form {w : World} {base : Nat} {e : TypeId} {size n : Nat} {v : Value} {xs : List Value} (h : w.ownsRow base e size v n xs) : ∃ A k c, v = .slice A k c := by
  obtain ⟨A, c, rfl, _⟩ := own_form h
  exact ⟨A, n, c, rfl⟩
theorem results_cell2 {fn : Func} {p u u2 : Tmp} {ty : TypeId} (h : fn.results = #[.cell p ty, .tmp u, .tmp u2]) (tmps : Array Value) (w : World) (g : Nat) (v : Value)
    (hp : tmps.getD p undef = .pointer (some ⟨g, 0, none⟩)) (hl : (loadVar ty ⟨g, 0, none⟩).run Try.prog w = .ok v w) :
    (results fn tmps).run Try.prog w = .ok (.tuple #[v, tmps.getD u undef, tmps.getD u2 undef]) w := by
  have hp' : tmps[p]?.getD undef = .pointer (some ⟨g, 0, none⟩) := by simpa using hp
  simp [results, h, hp', asAddr, hl]
/-- What many hands back. -/
def ManyV (s : Mst) (w : World) (e : Ending) (w' : World) : Prop := ∃ AN cN AS cS AM cM R cR, e = .returned (.tuple #[.agg #[.slice AN s.sv.nodes.length cN, .slice AS s.sv.stack.length cS, .slice AM s.sv.memo.length cM, .bool s.sv.done], .slice R s.rs.length cR, .int .i64 s.en]) ∧ RM w' AN AS AM s.sv ∧ IR w' (.slice R s.rs.length cR) s.rs ∧ Fresh (.slice R s.rs.length cR) w ∧ Ext w w'
theorem MyQ.res {w W : World} {g2 g5 g6 : Nat} {s : Mst} {l lu vN vS vM uN eN uS eS uM eM R cR} (h : MyQ w W g2 g5 g6 s.m s.sv l lu vN vS vM (.slice uN s.sv.nodes.length eN) (.slice uS s.sv.stack.length eS) (.slice uM s.sv.memo.length eM) (.slice R s.rs.length cR) s.rs) (hok : okM 100000 s.sv) :
    ManyV s w (.returned (.tuple #[.agg #[.slice uN s.sv.nodes.length eN, .slice uS s.sv.stack.length eS, .slice uM s.sv.memo.length eM, .bool s.sv.done], .slice R s.rs.length cR, .int .i64 s.en])) ((((W.setCell ⟨g2, 0, none⟩ (.slice uN s.sv.nodes.length eN)).setCell ⟨g2, 1, none⟩ (.slice uS s.sv.stack.length eS)).setCell ⟨g2, 2, none⟩ (.slice uM s.sv.memo.length eM)).setCell ⟨g2, 3, none⟩ (.bool s.sv.done)) := by
  have hf := Fr.set4 (S := fun k => k = g2) (w := W) (g := g2) rfl (.slice uN s.sv.nodes.length eN) (.slice uS s.sv.stack.length eS) (.slice uM s.sv.memo.length eM) (.bool s.sv.done)
  have hv := h.su.keep hf.size (fun k hk => hf.block k (h.su.lt k hk) (fun e => h.su.nb h.b2 (by rw [← e]; exact hk)))
  obtain ⟨AN, cN, AS, cS, AM, cM, e1, e2, e3, hr, -⟩ := hv.rm (by have := hok.nl; omega) (by have := hok.sl; omega) (by have := hok.ml; omega)
  injection e1 with e1
  injection e2 with e2
  injection e3 with e3
  subst e1 e2 e3
  exact ⟨_, _, _, _, _, _, _, _, rfl, hr, h.r.fr hf (fun k hk e => own_ne_blk h.r h.b2 (by decide) (by rw [← e]; exact hk)), h.rf, (Fr.then (S := fun _ => False) (Fr.ofExt h.e) hf (fun i hi => .inr (by have := h.l2; omega))).ext (fun _ h => h.elim)⟩
end Go.Proofs.Ytcodbpjaamggeaa.C
