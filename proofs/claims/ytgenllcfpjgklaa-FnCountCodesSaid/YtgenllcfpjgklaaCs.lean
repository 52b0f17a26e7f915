/- Shapes in memory: their contracts, I. Shapes in memory: their contracts, II. -/
import Derived.Test.YtgenllcfpjgklaaBa
import Derived.Test.YtgenllcfpjgklaaCv
import Derived.Test.YtgenllcfpjgklaaPs
set_option linter.unusedVariables false
set_option linter.unusedSimpArgs false
namespace Go.Proofs.Ytgenllcfpjgklaa.C
open Go.RowKit Go.Proofs.Ytgenllcfpjgklaa.W Go.Proofs.Ytgenllcfpjgklaa.P

/-! ### rows of bools -/
def bools (l : List Bool) : List Value := l.map Value.bool
theorem bools_app (l r : List Bool) : bools (l ++ r) = bools l ++ bools r := by simp [bools]
def BR (w : World) (v : Value) (l : List Bool) : Prop := w.ownsRow 0 4 1 v l.length (bools l)
theorem BR.nil (w : World) : BR w (.slice none 0 0) [] := World.ownsRow_nil _ _ _ _
theorem BR.keep {w w' : World} {v : Value} {l : List Bool} (h : BR w v l) (hm : ∀ k, v.ownBlock = some k → w'.heap[k]? = w.heap[k]?) : BR w' v l := own_keep h hm
theorem BR.fr {S : Nat → Prop} {w w' : World} {v : Value} {l : List Bool} (h : BR w v l) (hf : Fr S w w') (hn : ∀ k, v.ownBlock = some k → ¬ S k) : BR w' v l := h.keep (fun k hk => hf.block k (own_lt h hk) (hn k hk))
theorem BR.ext {w w' : World} {v : Value} {l : List Bool} (h : BR w v l) (hf : Ext w w') : BR w' v l := h.keep (fun k hk => hf.block k (own_lt h hk))
theorem infoB : (Try.prog.info? 4).map (fun i => (i.zero, i.size, i.bytes)) = some (some (.bool false), 1, 1) := by kernel_rfl
def AppB (v : Value) (l0 l : List Bool) (W : World) (g c' : Nat) (w' : World) : Prop := BR w' (.slice (some ⟨g, 0, none⟩) (l.length) c') l ∧ Fr (fun k => v.ownBlock = some k) W w' ∧ (v.ownBlock = some g ∨ W.heap.size ≤ g) ∧ g < w'.heap.size ∧ BR w' v l0
section
variable {ops : Array Oper} {rest : List Oper} {o : Oper} {a : Act} {Q : Exit → Act → World → Prop}
theorem app_bool {W : World} (hgd : o.guard = none) (s x : Operand) (ho : o.op = .call { callee := .builtin .append, args := #[s, x], argTypes := #[89, 89] })
    (v : Value) (l : List Bool) (y : Bool) (hs : a.eval s = v) {nb : Nat} (hx : a.eval x = .slice (some ⟨nb, 0, none⟩) 1 1) (hI : BR W v l) (hl : l.length ≤ 2000000000000)
    (h : ∀ g c' w', AppB v l (l ++ [y]) W g c' w' → wpList Try.prog ops Q rest (a.put o.dst (.slice (some ⟨g, 0, none⟩) (l.length + 1) c')) w') (hnb : nb = W.heap.size := by first | rfl | simp only [al_size] | simp [al_size]) :
    wpList Try.prog ops Q (o :: rest) a (W.alloc (.cells #[.bool y] 4)) := by
  subst hnb
  refine wpList_plain hgd fun K hK => ?_
  refine app_wp (t := 89) (cs := [.bool y]) (bytes := 1) (by kernel_rfl) infoB rfl (by omega) s x ho v l.length (bools l) hs 1 1 hx rfl (by simp [Value.oneCell']) (by omega) hI (by omega) (by omega) ?_
  intro g c' w1 h1 h2 h3 h4 h5
  exact hK _ _ (h g c' w1 ⟨by unfold BR; rw [bools_app, List.length_append]; exact h1, h2, h3, h4, h5⟩)
end

/-! ### shapes -/
abbrev SB (w : World) (g : Nat) (vK vF vS vM : Value) (d : Bool) : Prop := w.heap[g]? = some (.cells #[vK, vF, vS, vM, .bool d] 91 (0, 0))
section
variable {w : World} {g : Nat} {vK vF vS vM : Value} {d : Bool}
theorem SB.c0 (h : SB w g vK vF vS vM d) : w.cell? ⟨g, 0, none⟩ = some vK := by simp [World.cell?, h]
theorem SB.c1 (h : SB w g vK vF vS vM d) : w.cell? ⟨g, 1, none⟩ = some vF := by simp [World.cell?, h]
theorem SB.c2 (h : SB w g vK vF vS vM d) : w.cell? ⟨g, 2, none⟩ = some vS := by simp [World.cell?, h]
theorem SB.c3 (h : SB w g vK vF vS vM d) : w.cell? ⟨g, 3, none⟩ = some vM := by simp [World.cell?, h]
theorem SB.c4 (h : SB w g vK vF vS vM d) : w.cell? ⟨g, 4, none⟩ = some (.bool d) := by simp [World.cell?, h]
theorem SB.fz (h : SB w g vK vF vS vM d) (j : Nat) : w.frozen? ⟨g, j, none⟩ = false := by simp [World.frozen?, h]
theorem SB.lt (h : SB w g vK vF vS vM d) : g < w.heap.size := (Array.getElem?_eq_some_iff.1 h).1
theorem SB.set (h : SB w g vK vF vS vM d) : (∀ u, SB (w.setCell ⟨g, 0, none⟩ u) g u vF vS vM d) ∧ (∀ u, SB (w.setCell ⟨g, 1, none⟩ u) g vK u vS vM d) ∧ (∀ u, SB (w.setCell ⟨g, 2, none⟩ u) g vK vF u vM d) ∧ (∀ b, SB (w.setCell ⟨g, 4, none⟩ (.bool b)) g vK vF vS vM b) := by
  have h' : w.heap[g]? = _ := h
  refine ⟨fun u => ?_, fun u => ?_, fun u => ?_, fun u => ?_⟩ <;> simp [SB, World.setCell, Array.getElem?_modify, h']
theorem SB.all (a b c e : Value) (f : Bool) (h : SB w g vK vF vS vM d) :
    SB (((((w.setCell ⟨g, 0, none⟩ a).setCell ⟨g, 1, none⟩ b).setCell ⟨g, 2, none⟩ c).setCell ⟨g, 3, none⟩ e).setCell ⟨g, 4, none⟩ (.bool f)) g a b c e f := by
  have hlt := h.lt
  have h' : w.heap[g]? = _ := h
  simp [SB, World.setCell, Array.getElem?_modify, h']
end
theorem infoS : (Try.prog.info? 91).map (·.size) = some 5 := by kernel_rfl
theorem loadS {w : World} {g : Nat} {v0 v1 v2 v3 v4 : Value} (h : w.heap[g]? = some (.cells #[v0, v1, v2, v3, v4] 91 (0, 0))) : (loadVar 91 ⟨g, 0, none⟩).run Try.prog w = .ok (.agg #[v0, v1, v2, v3, v4]) w := by
  have hm : (Try.prog.underlying 91).map (fun d => match d with | .struct _ => true | _ => false) = some true := by kernel_rfl
  obtain ⟨d, hu, hd⟩ := Option.map_eq_some_iff.1 hm
  refine run_loadVar_row w g _ _ _ _ d h hu ?_ infoS
  cases d <;> first | rfl | exact absurd hd (by simp)
theorem Fr.set5 {S : Nat → Prop} {w : World} {g : Nat} (hg : S g) (a b c d e : Value) : Fr S w (((((w.setCell ⟨g, 0, none⟩ a).setCell ⟨g, 1, none⟩ b).setCell ⟨g, 2, none⟩ c).setCell ⟨g, 3, none⟩ d).setCell ⟨g, 4, none⟩ e) :=
  ((((Fr.set w a hg).trans (Fr.set _ b hg)).trans (Fr.set _ c hg)).trans (Fr.set _ d hg)).trans (Fr.set _ e hg)

/-- Shapes as a value whose rows are the call's own. -/
structure SV (w : World) (vK vF vS vM : Value) (s : Sh) : Prop where
  k : IR w vK s.kinds
  f : BR w vF s.full
  t : IR w vS s.stack
  m : IR w vM s.memo
  ks : Apart vK vS
  km : Apart vK vM
  sm : Apart vS vM
/-- Their blocks. -/
def SF (vK vF vS vM : Value) (k : Nat) : Prop := vK.ownBlock = some k ∨ vF.ownBlock = some k ∨ vS.ownBlock = some k ∨ vM.ownBlock = some k
theorem SV.lt {w vK vF vS vM s} (h : SV w vK vF vS vM s) (k : Nat) (hk : SF vK vF vS vM k) : k < w.heap.size := by
  rcases hk with hk | hk | hk | hk
  · exact own_lt h.k hk
  · exact own_lt h.f hk
  · exact own_lt h.t hk
  · exact own_lt h.m hk
theorem SV.keep {w w' vK vF vS vM s} (h : SV w vK vF vS vM s) (hk : ∀ k, SF vK vF vS vM k → w'.heap[k]? = w.heap[k]?) : SV w' vK vF vS vM s :=
  ⟨h.k.keep (fun k e => hk k (.inl e)), h.f.keep (fun k e => hk k (.inr (.inl e))), h.t.keep (fun k e => hk k (.inr (.inr (.inl e)))), h.m.keep (fun k e => hk k (.inr (.inr (.inr e)))), h.ks, h.km, h.sm⟩
theorem SV.ext {w w' vK vF vS vM s} (h : SV w vK vF vS vM s) (e : Ext w w') : SV w' vK vF vS vM s := h.keep (fun k hk => e.block k (h.lt k hk))
theorem SV.fr {S : Nat → Prop} {w w' vK vF vS vM s} (h : SV w vK vF vS vM s) (e : Fr S w w') (hn : ∀ k, SF vK vF vS vM k → ¬ S k) : SV w' vK vF vS vM s := h.keep (fun k hk => e.block k (h.lt k hk) (hn k hk))
/-- No row of shapes' is a block that bears the shapes' own cells. -/
theorem SV.nb {w vK vF vS vM s} (h : SV w vK vF vS vM s) {g : Nat} {cs : Array Value} {fr : Nat × Nat} (hb : w.heap[g]? = some (.cells cs 91 fr)) : ¬ SF vK vF vS vM g := by
  rintro (e | e | e | e)
  · exact own_ne_blk h.k hb (by decide) e
  · exact own_ne_blk h.f hb (by decide) e
  · exact own_ne_blk h.t hb (by decide) e
  · exact own_ne_blk h.m hb (by decide) e
theorem SV.set {w vK vF vS vM s} (h : SV w vK vF vS vM s) {g : Nat} {cs : Array Value} {fr : Nat × Nat} (hb : w.heap[g]? = some (.cells cs 91 fr)) (j : Nat) (u : Value) : SV (w.setCell ⟨g, j, none⟩ u) vK vF vS vM s :=
  h.keep (fun k hk => Below.heap_setCell _ _ _ _ (fun e => h.nb hb (by have e : k = g := e; rw [← e]; exact hk)))

/-- What becomes of shapes that are handed over with their rows. -/
def SPost (vK vF vS vM : Value) (s' : Sh) (w : World) (vK' vF' vS' vM' : Value) (w' : World) : Prop :=
  SV w' vK' vF' vS' vM' s' ∧ Fr (SF vK vF vS vM) w w' ∧ (∀ k, SF vK' vF' vS' vM' k → SF vK vF vS vM k ∨ w.heap.size ≤ k)
/-- Shapes that lie in block g while a function works on them; g2 is the block of its result. -/
structure Box (v0K v0F v0S v0M : Value) (w0 w : World) (g g2 : Nat) (vK vF vS vM : Value) (s : Sh) : Prop where
  b : SB w g vK vF vS vM s.done
  r : SB w g2 (.slice none 0 0) (.slice none 0 0) (.slice none 0 0) (.slice none 0 0) false
  v : SV w vK vF vS vM s
  f : Fr (SF v0K v0F v0S v0M) w0 w
  o : ∀ k, SF vK vF vS vM k → SF v0K v0F v0S v0M k ∨ w0.heap.size ≤ k
  ne : g ≠ g2
  lo : w0.heap.size ≤ g ∧ w0.heap.size ≤ g2
theorem fr_old {S : Nat → Prop} {a b c : World} {p : Addr} {u : Value} (h : Fr S a b) (hp : a.heap.size ≤ p.block) (hc : c = b.setCell p u) : Fr S a c :=
  hc ▸ h.then (Fr.set (S := fun k => k = p.block) b u rfl) (fun i hi => .inr (by omega))
theorem Box.ext {v0K v0F v0S v0M w0 w w' g g2 vK vF vS vM s} (h : Box v0K v0F v0S v0M w0 w g g2 vK vF vS vM s) (e : Ext w w') : Box v0K v0F v0S v0M w0 w' g g2 vK vF vS vM s :=
  ⟨e.blk h.b, e.blk h.r, h.v.ext e, h.f.then (Fr.ofExt (S := fun _ => False) e) (fun _ h => h.elim), h.o, h.ne, h.lo⟩
/-- A row is another one. -/
theorem Box.k {v0K v0F v0S v0M w0 w w2 g g2 vK vF vS vM s vK' l} (h : Box v0K v0F v0S v0M w0 w g g2 vK vF vS vM s) (hI : IR w2 vK' l) (hf : Fr (fun k => vK.ownBlock = some k) w w2) (ho : FreshOr vK vK' w) :
    Box v0K v0F v0S v0M w0 (w2.setCell ⟨g, 0, none⟩ vK') g g2 vK' vF vS vM { s with kinds := l } := by
  have hb : SB w2 g vK vF vS vM s.done := hf.blk h.b (fun e => h.v.nb h.b (.inl e))
  have hr : SB w2 g2 (.slice none 0 0) (.slice none 0 0) (.slice none 0 0) (.slice none 0 0) false := hf.blk h.r (fun e => h.v.nb h.r (.inl e))
  have hv : SV w2 vK' vF vS vM { s with kinds := l } := ⟨hI, h.v.f.fr hf (fun k hk => own_ne_type h.v.f h.v.k (by decide) hk), h.v.t.fr hf (fun k hk e => h.v.ks k e hk), h.v.m.fr hf (fun k hk e => h.v.km k e hk), (h.v.ks.symm.of ho (fun k hk => own_lt h.v.t hk)).symm, (h.v.km.symm.of ho (fun k hk => own_lt h.v.m hk)).symm, h.v.sm⟩
  refine ⟨hb.set.1 _, (Below.heap_setCell _ _ _ _ h.ne.symm).trans hr, hv.set hb _ _, fr_old (h.f.then hf (fun i hi => (h.o i (.inl hi)).imp id id)) h.lo.1 rfl, fun k hk => ?_, h.ne, h.lo⟩
  rcases hk with e | e | e | e
  · rcases ho with ho | ⟨b, ho, hb'⟩
    · exact h.o k (.inl (by rw [← ho]; exact e))
    · rw [ho] at e; injection e with e; exact .inr (by have := h.f.size; omega)
  · exact h.o k (.inr (.inl e))
  · exact h.o k (.inr (.inr (.inl e)))
  · exact h.o k (.inr (.inr (.inr e)))
theorem Box.fl {v0K v0F v0S v0M w0 w w2 g g2 vK vF vS vM s vF' l} (h : Box v0K v0F v0S v0M w0 w g g2 vK vF vS vM s) (hI : BR w2 vF' l) (hf : Fr (fun k => vF.ownBlock = some k) w w2) (ho : FreshOr vF vF' w) :
    Box v0K v0F v0S v0M w0 (w2.setCell ⟨g, 1, none⟩ vF') g g2 vK vF' vS vM { s with full := l } := by
  have hb : SB w2 g vK vF vS vM s.done := hf.blk h.b (fun e => h.v.nb h.b (.inr (.inl e)))
  have hr : SB w2 g2 (.slice none 0 0) (.slice none 0 0) (.slice none 0 0) (.slice none 0 0) false := hf.blk h.r (fun e => h.v.nb h.r (.inr (.inl e)))
  have hv : SV w2 vK vF' vS vM { s with full := l } := ⟨h.v.k.fr hf (fun k hk => own_ne_type h.v.k h.v.f (by decide) hk), hI, h.v.t.fr hf (fun k hk => own_ne_type h.v.t h.v.f (by decide) hk), h.v.m.fr hf (fun k hk => own_ne_type h.v.m h.v.f (by decide) hk), h.v.ks, h.v.km, h.v.sm⟩
  refine ⟨hb.set.2.1 _, (Below.heap_setCell _ _ _ _ h.ne.symm).trans hr, hv.set hb _ _, fr_old (h.f.then hf (fun i hi => (h.o i (.inr (.inl hi))).imp id id)) h.lo.1 rfl, fun k hk => ?_, h.ne, h.lo⟩
  rcases hk with e | e | e | e
  · exact h.o k (.inl e)
  · rcases ho with ho | ⟨b, ho, hb'⟩
    · exact h.o k (.inr (.inl (by rw [← ho]; exact e)))
    · rw [ho] at e; injection e with e; exact .inr (by have := h.f.size; omega)
  · exact h.o k (.inr (.inr (.inl e)))
  · exact h.o k (.inr (.inr (.inr e)))
theorem Box.t {v0K v0F v0S v0M w0 w w2 g g2 vK vF vS vM s vS' l} (h : Box v0K v0F v0S v0M w0 w g g2 vK vF vS vM s) (hI : IR w2 vS' l) (hf : Fr (fun k => vS.ownBlock = some k) w w2) (ho : FreshOr vS vS' w) :
    Box v0K v0F v0S v0M w0 (w2.setCell ⟨g, 2, none⟩ vS') g g2 vK vF vS' vM { s with stack := l } := by
  have hb : SB w2 g vK vF vS vM s.done := hf.blk h.b (fun e => h.v.nb h.b (.inr (.inr (.inl e))))
  have hr : SB w2 g2 (.slice none 0 0) (.slice none 0 0) (.slice none 0 0) (.slice none 0 0) false := hf.blk h.r (fun e => h.v.nb h.r (.inr (.inr (.inl e))))
  have hv : SV w2 vK vF vS' vM { s with stack := l } := ⟨h.v.k.fr hf (fun k hk e => h.v.ks k hk e), h.v.f.fr hf (fun k hk => own_ne_type h.v.f h.v.t (by decide) hk), hI, h.v.m.fr hf (fun k hk e => h.v.sm k e hk), h.v.ks.of ho (fun k hk => own_lt h.v.k hk), h.v.km, (h.v.sm.symm.of ho (fun k hk => own_lt h.v.m hk)).symm⟩
  refine ⟨hb.set.2.2.1 _, (Below.heap_setCell _ _ _ _ h.ne.symm).trans hr, hv.set hb _ _, fr_old (h.f.then hf (fun i hi => (h.o i (.inr (.inr (.inl hi)))).imp id id)) h.lo.1 rfl, fun k hk => ?_, h.ne, h.lo⟩
  rcases hk with e | e | e | e
  · exact h.o k (.inl e)
  · exact h.o k (.inr (.inl e))
  · rcases ho with ho | ⟨b, ho, hb'⟩
    · exact h.o k (.inr (.inr (.inl (by rw [← ho]; exact e))))
    · rw [ho] at e; injection e with e; exact .inr (by have := h.f.size; omega)
  · exact h.o k (.inr (.inr (.inr e)))
/-- A function's shapes, boxed. -/
theorem Box.new {vK vF vS vM s w} (h : SV w vK vF vS vM s) : Box vK vF vS vM w ((w.alloc (.cells #[vK, vF, vS, vM, .bool s.done] 91)).alloc (.cells #[.slice none 0 0, .slice none 0 0, .slice none 0 0, .slice none 0 0, .bool false] 91)) w.heap.size (w.heap.size + 1) vK vF vS vM s := by
  refine ⟨((Ext.rf _).al _).blk (al_new _ _), ?_, h.ext (((Ext.rf _).al _).al _), Fr.ofExt (((Ext.rf _).al _).al _), fun k hk => .inl hk, by omega, by omega⟩
  have h := al_new (w.alloc (.cells #[vK, vF, vS, vM, .bool s.done] 91)) (.cells #[.slice none 0 0, .slice none 0 0, .slice none 0 0, .slice none 0 0, .bool false] 91)
  rw [al_size] at h
  exact h
/-- The result is written. -/
theorem Box.out {v0K v0F v0S v0M w0 w g g2 vK vF vS vM s} (h : Box v0K v0F v0S v0M w0 w g g2 vK vF vS vM s) :
    SB (((((w.setCell ⟨g2, 0, none⟩ vK).setCell ⟨g2, 1, none⟩ vF).setCell ⟨g2, 2, none⟩ vS).setCell ⟨g2, 3, none⟩ vM).setCell ⟨g2, 4, none⟩ (.bool s.done)) g2 vK vF vS vM s.done ∧
    SPost v0K v0F v0S v0M s w0 vK vF vS vM (((((w.setCell ⟨g2, 0, none⟩ vK).setCell ⟨g2, 1, none⟩ vF).setCell ⟨g2, 2, none⟩ vS).setCell ⟨g2, 3, none⟩ vM).setCell ⟨g2, 4, none⟩ (.bool s.done)) := by
  have hf := Fr.set5 (S := fun k => k = g2) (w := w) (g := g2) rfl vK vF vS vM (.bool s.done)
  exact ⟨SB.all _ _ _ _ _ h.r, h.v.fr hf (fun k hk e => h.v.nb h.r (by rw [← e]; exact hk)), h.f.then hf (fun i hi => .inr (by have := h.lo.2; omega)), h.o⟩

set_option maxRecDepth 100000 in
set_option maxHeartbeats 1000000 in
theorem pushShape_c (vK vF vS vM : Value) (s : Sh) (kind : Int) (w : World) (hs : SV w vK vF vS vM s) (hk : s.kinds.length ≤ 1000000) (hf : s.full.length ≤ 1000000) (hl : s.stack.length ≤ 1000000) :
    Calls Try.prog 118 #[.agg #[vK, vF, vS, vM, .bool s.done], .int .i64 kind] w fun e w' => ∃ vK' vF' vS' vM', e = .returned (.agg #[vK', vF', vS', vM', .bool s.done]) ∧ SPost vK vF vS vM (pushS s kind) w vK' vF' vS' vM' w' := by
  obtain ⟨AM, cM, rfl, _, _⟩ := own_form hs.m
  have HB := As.mk (Box.new hs)
  have HL := As.mk (And.intro hk (And.intro hf hl))
  clear hs hk hf hl
  go_enter Try.func118, Try.ntmps118
  go_upto_region 1 with fail
  obtain ⟨w1, hw1⟩ : ∃ w1, w1 = (w.alloc (.cells #[vK, vF, vS, .slice AM s.memo.length cM, .bool s.done] 91)).alloc (.cells #[.slice none 0 0, .slice none 0 0, .slice none 0 0, .slice none 0 0, .bool false] 91) := ⟨_, rfl⟩
  rw [← hw1] at HB ⊢
  clear hw1
  have c0 := HB.out.b.c0
  go_upto_region 2 with ((at_builtin; refine app_int rfl _ _ rfl vK s.kinds kind rfl rfl HB.out.v.k (by have := HL.out; omega) ?_; intro gK cK w2 hap; have hb : SB w2 w.heap.size vK vF vS _ s.done := hap.2.1.blk HB.out.b (fun e => HB.out.v.nb HB.out.b (.inl e)); have HP := As.mk hap; clear hap; have e0 := hb.c0; have f0 := hb.fz 0; clear hb))
  have hb3 := HB.out.k HP.out.1 HP.out.2.1 (fresh_of HP.out.2.2.1)
  simp only [List.length_append, List.length_singleton] at hb3
  clear HB HP c0 e0 f0
  generalize (w2.setCell ⟨w.heap.size, 0, none⟩ (.slice (some ⟨gK, 0, none⟩) (s.kinds.length + 1) cK)) = w3 at hb3 ⊢
  clear w2
  have HB := As.mk hb3
  have c1 := hb3.b.c1
  clear hb3
  go_upto_region 3 with ((at_builtin; refine app_bool rfl _ _ rfl vF s.full false rfl rfl HB.out.v.f (by have := HL.out; omega) ?_; intro gF cF w2 hap; have hb : SB w2 w.heap.size _ vF vS _ s.done := hap.2.1.blk HB.out.b (fun e => HB.out.v.nb HB.out.b (.inr (.inl e))); have HP := As.mk hap; clear hap; have e0 := hb.c1; have f0 := hb.fz 1; clear hb))
  have hb3 := HB.out.fl HP.out.1 HP.out.2.1 (fresh_of HP.out.2.2.1)
  simp only [List.length_append, List.length_singleton] at hb3
  clear HB HP c1 e0 f0
  generalize (w2.setCell ⟨w.heap.size, 1, none⟩ (.slice (some ⟨gF, 0, none⟩) (s.full.length + 1) cF)) = w4 at hb3 ⊢
  clear w2
  have HB := As.mk hb3
  have c0 := hb3.b.c0
  have c2 := hb3.b.c2
  clear hb3
  have hn : s.kinds.length ≤ 1000000 := by have := HL.out; omega
  go_upto_region 4 with ((at_builtin; refine app_int rfl _ _ rfl vS s.stack s.kinds.length rfl rfl HB.out.v.t (by have := HL.out; omega) ?_; intro gS cS w2 hap; have hb : SB w2 w.heap.size _ _ vS _ s.done := hap.2.1.blk HB.out.b (fun e => HB.out.v.nb HB.out.b (.inr (.inr (.inl e)))); have HP := As.mk hap; clear hap; have e0 := hb.c2; have f0 := hb.fz 2; clear hb))
  have hb3 := HB.out.t HP.out.1 HP.out.2.1 (fresh_of HP.out.2.2.1)
  simp only [List.length_append, List.length_singleton] at hb3
  clear HB HP c0 c2 e0 f0
  generalize (w2.setCell ⟨w.heap.size, 2, none⟩ (.slice (some ⟨gS, 0, none⟩) (s.stack.length + 1) cS)) = w5 at hb3 ⊢
  clear w2
  have HB := As.mk hb3
  have c0 := hb3.b.c0; have c1 := hb3.b.c1; have c2 := hb3.b.c2; have c3 := hb3.b.c3; have c4 := hb3.b.c4
  have d0 := hb3.r.c0; have d1 := hb3.r.c1; have d2 := hb3.r.c2; have d3 := hb3.r.c3; have d4 := hb3.r.c4
  have f0 := hb3.r.fz 0; have f1 := hb3.r.fz 1; have f2 := hb3.r.fz 2; have f3 := hb3.r.fz 3; have f4 := hb3.r.fz 4
  clear hb3
  go_wp2_with fail
  have ho := HB.out.out
  refine bodyPost_ret (results_cell rfl _ _ (w.heap.size + 1) _ rfl (loadS ho.1)) rfl ?_
  exact ⟨_, _, _, _, rfl, ho.2⟩
end Go.Proofs.Ytgenllcfpjgklaa.C
namespace Go.Proofs.Ytgenllcfpjgklaa.C
open Go.RowKit Go.Proofs.Ytgenllcfpjgklaa.W Go.Proofs.Ytgenllcfpjgklaa.P

set_option maxRecDepth 100000 in
set_option maxHeartbeats 1000000 in
theorem shapeAt_c (AK AS AF AM : Option Addr) (cK cS nF cF nM cM : Nat) (dn : Bool) (s : Sh) (d : Nat) (w : World) (hK : RdI w AK s.kinds) (hS : RdI w AS s.stack) (hi : ∀ x ∈ s.stack, x < s.kinds.length) (hd : d ≤ 1000000) :
    Calls Try.prog 134 #[.agg #[.slice AK s.kinds.length cK, .slice AF nF cF, .slice AS s.stack.length cS, .slice AM nM cM, .bool dn], .int .i64 d] w fun e w' => e = .returned (.int .i64 (atS s d)) ∧ Ext w w' := by
  have hlk := hK.1
  have hls := hS.1
  have HK := As.mk hK; have HS := As.mk hS; have HI := As.mk hi
  clear hK hS hi
  have HB : As (SB (w.alloc (.cells #[.slice AK s.kinds.length cK, .slice AF nF cF, .slice AS s.stack.length cS, .slice AM nM cM, .bool dn] 91)) w.heap.size (.slice AK s.kinds.length cK) (.slice AF nF cF) (.slice AS s.stack.length cS) (.slice AM nM cM) dn) := ⟨al_new _ _⟩
  have HE : As (Ext w (w.alloc (.cells #[.slice AK s.kinds.length cK, .slice AF nF cF, .slice AS s.stack.length cS, .slice AM nM cM, .bool dn] 91))) := ⟨(Ext.rf _).al _⟩
  go_enter Try.func134, Try.ntmps134
  go_upto_region 1 with fail
  obtain ⟨w1, hw1⟩ : ∃ w1, w1 = (w.alloc (.cells #[.slice AK s.kinds.length cK, .slice AF nF cF, .slice AS s.stack.length cS, .slice AM nM cM, .bool dn] 91)) := ⟨_, rfl⟩
  rw [← hw1] at HB HE ⊢
  clear hw1
  have c0 := HB.out.c0
  have c2 := HB.out.c2
  by_cases hlt : d < s.stack.length
  · obtain ⟨ad, hA, h1⟩ := (HS.out.ext HE.out).2 (s.stack.length - 1 - d) (by omega)
    subst hA
    have hx : ((s.stack.length : Int) - 1 - (d : Int)).toNat = s.stack.length - 1 - d := by omega
    have h0 : 0 ≤ (s.stack.length : Int) - 1 - (d : Int) := by omega
    have h2 : (s.stack.length : Int) - 1 - (d : Int) < s.stack.length := by omega
    have hst : s.stack[s.stack.length - 1 - d] = st s.stack d := (st_at _ _ hlt).symm
    have hmem := HI.out _ (st_mem _ _ hlt)
    rw [hst] at h1
    generalize hz : st s.stack d = z at *
    have HZ := As.mk hz
    clear hst hz
    by_cases hneg : z < 0
    · go_wp2_with fail
      go_ret
      refine ⟨ret_int ?_, HE.out⟩
      unfold atS
      rw [if_pos hlt, if_pos (by rw [HZ.out]; exact hneg)]
    · have hz0 : 0 ≤ z := by omega
      obtain ⟨k, rfl⟩ := Int.eq_ofNat_of_zero_le hz0
      have hk : k < s.kinds.length := by omega
      obtain ⟨aK, hA, k1⟩ := (HK.out.ext HE.out).2 k hk
      subst hA
      have hmem' : (k : Int) < s.kinds.length := hmem
      go_wp2_with fail
      go_quiet (fail)
      go_wp2_with fail
      go_ret
      refine ⟨ret_int ?_, HE.out.dN _⟩
      unfold atS
      rw [if_pos hlt, if_neg (by rw [HZ.out]; omega), HZ.out, Int.toNat_natCast, List.getD_eq_getElem?_getD, List.getElem?_eq_getElem hk]; rfl
  · have h0 : (s.stack.length : Int) - 1 - (d : Int) < 0 := by omega
    go_wp2_with fail
    go_ret
    refine ⟨ret_int ?_, HE.out⟩
    unfold atS
    rw [if_neg hlt]
/-- A slice of bools that is read. -/
def RdB (w : World) (A : Option Addr) (l : List Bool) : Prop :=
  l.length ≤ 1000000000000 ∧ ∀ k (h : k < l.length), ∃ ad, A = some ad ∧ w.cell? (ad.add k) = some (.bool l[k])
theorem RdB.ext {w w' : World} {A : Option Addr} {l : List Bool} (h : RdB w A l) (e : Ext w w') : RdB w' A l :=
  ⟨h.1, fun k hk => let ⟨ad, ha, hc⟩ := h.2 k hk; ⟨ad, ha, e.cellOf hc⟩⟩
theorem BR.rd {w : World} {v : Value} {l : List Bool} (h : BR w v l) (hl : l.length ≤ 1000000000000) : ∃ A c, v = .slice A l.length c ∧ l.length ≤ c ∧ RdB w A l := by
  obtain ⟨A, c, rfl, hc, ha⟩ := own_form h
  refine ⟨A, c, rfl, hc, hl, fun k hk => ?_⟩
  rcases h.2 with ⟨hv, h0⟩ | ⟨g, cap, cur, hv, _⟩
  · omega
  · injection hv with hv1 hv2 hv3
    subst hv1
    refine ⟨_, rfl, ?_⟩
    have := World.ownsRow.cells h (g := g) rfl k (.bool l[k]) (by simp [bools, hk])
    exact this
theorem bools_one (l : List Bool) : ∀ u ∈ bools l, u.oneCell' = true := by
  intro u hu
  obtain ⟨x, _, rfl⟩ := List.mem_map.1 hu
  rfl
theorem infoB_some : ∃ i, Try.prog.info? 4 = some i := by
  obtain ⟨i, h, _⟩ := Option.map_eq_some_iff.1 infoB
  exact ⟨i, h⟩
def AppB0 (g0 : Nat) (r : List Bool) (W : World) (A' : Option Addr) (c' : Nat) (w' : World) : Prop := BR w' (.slice A' r.length c') r ∧ Fr (fun k => k = g0) W w' ∧ FreshOr (.slice (some ⟨g0, 0, none⟩) 0 0) (.slice A' r.length c') W
section
variable {ops : Array Oper} {rest : List Oper} {o : Oper} {a : Act} {Q : Exit → Act → World → Prop}
/-- append([]bool{}, r...) -/
theorem app_bools {W : World} (hgd : o.guard = none) (s x : Operand) (ho : o.op = .call { callee := .builtin .append, args := #[s, x], argTypes := #[89, 89] })
    (g0 : Nat) (A : Option Addr) (m c : Nat) (r : List Bool) (hs : a.eval s = .slice (some ⟨g0, 0, none⟩) 0 0) (hx : a.eval x = .slice A m c) (hm : m = r.length) (hr : RdB W A r) (hI : BR W (.slice (some ⟨g0, 0, none⟩) 0 0) [])
    (h : ∀ A' c' w', AppB0 g0 r W A' c' w' → wpList Try.prog ops Q rest (a.put o.dst (.slice A' r.length c')) w') :
    wpList Try.prog ops Q (o :: rest) a W := by
  subst hm
  have hrl := hr.1
  cases A with
  | none =>
    have hr0 : r = [] := by
      cases r with
      | nil => rfl
      | cons y r => obtain ⟨ad, h, _⟩ := hr.2 0 (by simp); cases h
    subst hr0
    refine wpList_plain hgd fun K hK => ?_
    obtain ⟨i, hi⟩ := infoB_some
    have q1 := app_nil (P := Try.prog) W 0 89 o.type 4 i 1 (by kernel_rfl) hi _ 0 (bools []) hI c
    unfold Oper.wp execOp
    simp only [ho, resolve, invoke, builtin, Sem.run_bind, Sem.run_pure, Result.andThen_ok, List.map_toArray, List.map_cons, List.map_nil, hs, hx, List.length_nil, q1]
    exact hK _ _ (h _ 0 W ⟨hI, Fr.rf _ _, FreshOr.rf _ _⟩)
  | some ad =>
    have hcell : ∀ j u, (bools r)[j]? = some u → W.cell? (ad.add j) = some u := fun j u hu => by
      obtain ⟨hj, hu⟩ := List.getElem?_eq_some_iff.1 hu
      have hj' : j < r.length := by simpa [bools] using hj
      obtain ⟨ad', ha, hc⟩ := hr.2 j hj'
      injection ha with ha
      subst ha
      rw [hc, ← hu]; simp [bools]
    refine app_own (z := .bool false) (bytes := 1) (by kernel_rfl) infoB rfl (by omega) hgd s x ho (.slice (some ⟨g0, 0, none⟩) 0 0) 0 (bools []) hs ad r.length c (bools r) hx (by simp [bools]) hcell (bools_one r) hI (by omega) (by omega) ?_
    intro A' c' w1 k1 k2 k3 _
    rw [Nat.zero_add] at k1 k3
    have := h A' c' w1 ⟨by unfold BR; simpa [bools] using k1, k2.mono (fun k hk => by injection hk with hk; exact hk.symm), k3⟩
    rw [Nat.zero_add]
    exact this
end
theorem SV.rd {w vK vF vS vM s} (h : SV w vK vF vS vM s) (h1 : s.kinds.length ≤ 1000000) (h2 : s.full.length ≤ 1000000) (h3 : s.stack.length ≤ 1000000) (h4 : s.memo.length ≤ 1000000) : ∃ AK cK AF cF AS cS AM cM, vK = .slice AK s.kinds.length cK ∧ vF = .slice AF s.full.length cF ∧ vS = .slice AS s.stack.length cS ∧ vM = .slice AM s.memo.length cM ∧
    s.kinds.length ≤ cK ∧ s.full.length ≤ cF ∧ s.stack.length ≤ cS ∧ s.memo.length ≤ cM ∧ RdI w AK s.kinds ∧ RdB w AF s.full ∧ RdI w AS s.stack ∧ RdI w AM s.memo := by
  obtain ⟨AK, cK, rfl, q1, r1⟩ := IR.rd h.k (by omega)
  obtain ⟨AF, cF, rfl, q2, r2⟩ := BR.rd h.f (by omega)
  obtain ⟨AS, cS, rfl, q3, r3⟩ := IR.rd h.t (by omega)
  obtain ⟨AM, cM, rfl, q4, r4⟩ := IR.rd h.m (by omega)
  exact ⟨AK, cK, AF, cF, AS, cS, AM, cM, rfl, rfl, rfl, rfl, q1, q2, q3, q4, r1, r2, r3, r4⟩
theorem bool_lit (w : World) : BR (w.alloc (.cells #[] 4)) (.slice (some ⟨w.heap.size, 0, none⟩) 0 0) [] := World.ownsRow_lit (base := 0) (size := 1) w #[] 0 (Nat.zero_le _) (by simp) rfl
set_option maxRecDepth 100000 in
set_option maxHeartbeats 1000000 in
theorem copyShapes_c (vK vF vS vM : Value) (s : Sh) (w : World) (hs : SV w vK vF vS vM s) (hz : sizS s) :
    Calls Try.prog 97 #[.agg #[vK, vF, vS, vM, .bool s.done]] w fun e w' => ∃ vK' vF' vS' vM', e = .returned (.agg #[vK', vF', vS', vM', .bool s.done]) ∧ SV w' vK' vF' vS' vM' s ∧ Ext w w' ∧ (∀ k, SF vK' vF' vS' vM' k → w.heap.size ≤ k) := by
  obtain ⟨AK, cK, AF, cF, AS, cS, AM, cM, rfl, rfl, rfl, rfl, q1, q2, q3, q4, r1, r2, r3, r4⟩ := hs.rd hz.k hz.f hz.t hz.m
  have HB := As.mk (Box.new hs)
  have HE : As (Ext w ((w.alloc (.cells #[.slice AK s.kinds.length cK, .slice AF s.full.length cF, .slice AS s.stack.length cS, .slice AM s.memo.length cM, .bool s.done] 91)).alloc (.cells #[.slice none 0 0, .slice none 0 0, .slice none 0 0, .slice none 0 0, .bool false] 91))) := ⟨((Ext.rf _).al _).al _⟩
  have HR := As.mk (And.intro r1 (And.intro r2 (And.intro r3 r4)))
  clear hs hz r1 r2 r3 r4 q1 q2 q3 q4
  go_enter Try.func97, Try.ntmps97
  go_upto_region 1 with fail
  obtain ⟨w1, hw1⟩ : ∃ w1, w1 = (w.alloc (.cells #[.slice AK s.kinds.length cK, .slice AF s.full.length cF, .slice AS s.stack.length cS, .slice AM s.memo.length cM, .bool s.done] 91)).alloc (.cells #[.slice none 0 0, .slice none 0 0, .slice none 0 0, .slice none 0 0, .bool false] 91) := ⟨_, rfl⟩
  rw [← hw1] at HB HE ⊢
  clear hw1
  have d0 := HB.out.b.c0; have d1 := HB.out.b.c1; have d2 := HB.out.b.c2; have d3 := HB.out.b.c3; have d4 := HB.out.b.c4
  refine region_tree (fun w' => w'.cell? ⟨w.heap.size, 0, none⟩ = some (.slice AK s.kinds.length cK) ∧ w'.cell? ⟨w.heap.size, 1, none⟩ = some (.slice AF s.full.length cF) ∧ w'.cell? ⟨w.heap.size, 2, none⟩ = some (.slice AS s.stack.length cS) ∧ w'.cell? ⟨w.heap.size, 3, none⟩ = some (.slice AM s.memo.length cM) ∧ w'.cell? ⟨w.heap.size, 4, none⟩ = some (.bool s.done)) [16]
    (.fork [(0, 0), (1, 1), (4, 0), (5, 1), (7, 0), (8, 1), (10, 0), (11, 1), (13, 0), (14, 1)] 2 3 (.lin [(3, 2), (6, 2), (9, 2), (12, 2), (15, 0), (16, 3)]) (.lin [(2, 2), (6, 2), (9, 2), (12, 2), (15, 0), (16, 3)])) (by kernel_rfl) (by kernel_rfl) rfl (by kernel_rfl) (fun _ _ _ _ h => h) (wpT.fork ?_)
  have hS := And.intro d0 (And.intro d1 (And.intro d2 (And.intro d3 d4)))
  repeat (first | refine wpP.c0 (h := ?_) | refine wpP.c1 (w := w1.drew) hS (h := ?_))
  refine wpP.fork ?br1 ?br2
  case' br1 =>
    refine wpT.ev (h := fun Kv hKv => ?_)
    go_wp2_with (go_at_call 121; refine (copyInts_c _ _ _ _ ((HR.out.1.ext HE.out).ext (Ext.dr (Ext.rf _)))).mono ?_; rintro e w2 ⟨A1, c1, rfl, hI, he, hf⟩; have HI2 := As.mk hI; have HE2 : As (Ext w1 w2) := ⟨((Ext.rf w1).dr).trans he⟩; have HF1 : As (Fresh (.slice A1 s.kinds.length c1) w1) := ⟨hf⟩; clear hI he hf)
    refine hKv.out _ _ ⟨HE2.out.cellOf d0, HE2.out.cellOf d1, HE2.out.cellOf d2, HE2.out.cellOf d3, HE2.out.cellOf d4⟩ (wpT.lin ?_)
    clear hKv Kv
    refine wpP.ev (h := fun Kv hKv => ?_)
    go_wp2_with fail
    have HE3 : As (Ext w1 (w2.alloc (.cells #[] 4))) := ⟨HE2.out.al _⟩
    have HI1 : As (IR (w2.alloc (.cells #[] 4)) (.slice A1 s.kinds.length c1) s.kinds) := ⟨HI2.out.ext ((Ext.rf _).al _)⟩
    have HL0 := As.mk (bool_lit w2)
    have hg0 : w1.heap.size ≤ w2.heap.size := HE2.out.size
    clear HI2
    generalize w2.alloc (.cells #[] 4) = w3 at HE3 HI1 HL0 ⊢
    generalize w2.heap.size = g0 at HL0 hg0 ⊢
    clear HE2 w2
  case' br2 =>
    refine wpT.ev (h := fun Kv hKv => ?_)
    go_wp2_with fail
    have HE2 : As (Ext w1 (w1.alloc (.cells #[] 4)).drew) := ⟨((Ext.rf w1).al _).dr⟩
    refine hKv.out _ _ ⟨HE2.out.cellOf d0, HE2.out.cellOf d1, HE2.out.cellOf d2, HE2.out.cellOf d3, HE2.out.cellOf d4⟩ (wpT.lin ?_)
    clear hKv Kv
    have HL2 : As (BR (w1.alloc (.cells #[] 4)).drew (.slice (some ⟨w1.heap.size, 0, none⟩) 0 0) []) := ⟨(bool_lit w1).ext ((Ext.rf _).dr)⟩
    generalize (w1.alloc (.cells #[] 4)).drew = w2 at HE2 HL2 ⊢
    obtain ⟨g0, hgg⟩ : ∃ g0, g0 = w1.heap.size := ⟨_, rfl⟩
    rw [← hgg] at HL2 ⊢
    have hg0 : w1.heap.size ≤ g0 := by omega
    clear hgg
    refine wpP.ev (h := fun Kv hKv => ?_)
    go_wp2_with (go_at_call 121; refine (copyInts_c _ _ _ _ ((HR.out.1.ext HE.out).ext HE2.out)).mono ?_; rintro e w3 ⟨A1, c1, rfl, hI, he, hf⟩; have HI1 := As.mk hI; have HE3 : As (Ext w1 w3) := ⟨HE2.out.trans he⟩; have HF1 : As (Fresh (.slice A1 s.kinds.length c1) w1) := ⟨fun k hk => Nat.le_trans HE2.out.size (hf k hk)⟩; have HL0 := As.mk (HL2.out.ext he); clear hI he hf)
    clear HL2 HE2
  all_goals
    refine hKv.out _ _ ⟨HE3.out.cellOf d0, HE3.out.cellOf d1, HE3.out.cellOf d2, HE3.out.cellOf d3, HE3.out.cellOf d4⟩ ?_
    clear hKv Kv
    refine wpP.ev (h := fun Kv hKv => ?_)
    go_wp2_with ((at_builtin; refine app_bools rfl _ _ rfl g0 AF s.full.length cF s.full rfl rfl rfl ((HR.out.2.1.ext HE.out).ext HE3.out) HL0.out ?_; intro A4 c4 w4 hap; have HP := As.mk hap; clear hap))
    have hF4 : Fr (fun k => k = g0) w3 w4 := HP.out.2.1
    have HE4 : As (Ext w1 w4) := ⟨(Fr.then (S := fun _ => False) (Fr.ofExt HE3.out) hF4 (fun i hi => .inr (by omega))).ext (fun _ h => h.elim)⟩
    have HB4 : As (BR w4 (.slice A4 s.full.length c4) s.full) := ⟨HP.out.1⟩
    have HI4 : As (IR w4 (.slice A1 s.kinds.length c1) s.kinds) := ⟨HI1.out.fr hF4 (fun k hk e => own_ne_type HI1.out HL0.out (by decide) hk (by rw [e]; rfl))⟩
    have HF4 : As (Fresh (.slice A4 s.full.length c4) w1) := ⟨fun k hk => by
      rcases HP.out.2.2 with h | ⟨b, h, h2⟩
      · rw [hk] at h; injection h with h; have h : k = g0 := h; omega
      · rw [hk] at h; injection h with h; have := HE3.out.size; omega⟩
    clear HP HL0 HI1 hF4
    refine hKv.out _ _ ⟨HE4.out.cellOf d0, HE4.out.cellOf d1, HE4.out.cellOf d2, HE4.out.cellOf d3, HE4.out.cellOf d4⟩ ?_
    clear hKv Kv HE3
    refine wpP.ev (h := fun Kv hKv => ?_)
    go_wp2_with (go_at_call 121; refine (copyInts_c _ _ _ _ ((HR.out.2.2.1.ext HE.out).ext HE4.out)).mono ?_; rintro e w5 ⟨A5, c5, rfl, hI, he, hf⟩; have HI5 := As.mk hI; have HE5 : As (Ext w1 w5) := ⟨HE4.out.trans he⟩; have HX5 := As.mk he; have HF5 : As (Fresh (.slice A5 s.stack.length c5) w4) := ⟨hf⟩; clear hI he hf)
    refine hKv.out _ _ ⟨HE5.out.cellOf d0, HE5.out.cellOf d1, HE5.out.cellOf d2, HE5.out.cellOf d3, HE5.out.cellOf d4⟩ ?_
    clear hKv Kv
    refine wpP.ev (h := fun Kv hKv => ?_)
    go_wp2_with (go_at_call 121; refine (copyInts_c _ _ _ _ ((HR.out.2.2.2.ext HE.out).ext HE5.out)).mono ?_; rintro e w6 ⟨A6, c6, rfl, hI, he, hf⟩; have HI6 := As.mk hI; have HE6 : As (Ext w1 w6) := ⟨HE5.out.trans he⟩; have HX6 := As.mk he; have HF6 : As (Fresh (.slice A6 s.memo.length c6) w5) := ⟨hf⟩; clear hI he hf)
    refine hKv.out _ _ ⟨HE6.out.cellOf d0, HE6.out.cellOf d1, HE6.out.cellOf d2, HE6.out.cellOf d3, HE6.out.cellOf d4⟩ ?_
    clear hKv Kv
    repeat (first | refine wpP.c0 (h := ?_))
    refine wpP.last (h := fun Kv hKv => ?_)
    have hr6 : SB w6 (w.heap.size + 1) (.slice none 0 0) (.slice none 0 0) (.slice none 0 0) (.slice none 0 0) false := HE6.out.blk HB.out.r
    have HR6 := As.mk hr6
    have a0 := hr6.c0; have a1 := hr6.c1; have a2 := hr6.c2; have a3 := hr6.c3; have a4 := hr6.c4
    have f0 := hr6.fz 0; have f1 := hr6.fz 1; have f2 := hr6.fz 2; have f3 := hr6.fz 3; have f4 := hr6.fz 4
    clear hr6 hS
    go_wp2_with fail
    refine hKv.out _ _ (wpP.done ?_)
    clear hKv Kv a0 a1 a2 a3 a4 f0 f1 f2 f3 f4 d0 d1 d2 d3 d4
    go_wp2_with fail
    have hb := SB.all (.slice A1 s.kinds.length c1) (.slice A4 s.full.length c4) (.slice A5 s.stack.length c5) (.slice A6 s.memo.length c6) s.done HR6.out
    refine bodyPost_ret (results_cell rfl _ _ (w.heap.size + 1) _ rfl (loadS hb)) rfl ?_
    have h1 := HE.out.size
    have h4 := HE4.out.size
    have h5 := HX5.out.size
    have hv : SV w6 (.slice A1 s.kinds.length c1) (.slice A4 s.full.length c4) (.slice A5 s.stack.length c5) (.slice A6 s.memo.length c6) s := by
      have k4 := HI4.out
      refine ⟨(k4.ext HX5.out).ext HX6.out, (HB4.out.ext HX5.out).ext HX6.out, HI5.out.ext HX6.out, HI6.out, Apart.fresh (fun k hk => own_lt k4 hk) HF5.out, Apart.fresh (fun k hk => own_lt (k4.ext HX5.out) hk) HF6.out, Apart.fresh (fun k hk => own_lt HI5.out hk) HF6.out⟩
    have hs5 := Fr.set5 (S := fun k => k = w.heap.size + 1) (w := w6) (g := w.heap.size + 1) rfl (.slice A1 s.kinds.length c1) (.slice A4 s.full.length c4) (.slice A5 s.stack.length c5) (.slice A6 s.memo.length c6) (.bool s.done)
    refine ⟨_, _, _, _, rfl, hv.fr hs5 (fun k hk e => hv.nb HR6.out (by rw [← e]; exact hk)), (Fr.then (S := fun _ => False) (Fr.ofExt (HE.out.trans HE6.out)) hs5 (fun i hi => .inr (by omega))).ext (fun _ h => h.elim), fun k hk => ?_⟩
    rcases hk with e | e | e | e
    · have := HF1.out k e; omega
    · have := HF4.out k e; omega
    · have := HF5.out k e; omega
    · have := HF6.out k e; omega
end Go.Proofs.Ytgenllcfpjgklaa.C
