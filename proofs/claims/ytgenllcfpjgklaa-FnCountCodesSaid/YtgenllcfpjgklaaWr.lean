/- A region that draws its order, walked in one order that a table tells: whatever yields its value in every world that meets S is taken as soon as it may come up; the others wait for one another. -/
import Derived.Test.YtgenllcfpjgklaaWLast
import Derived.Test.YtgenllcfpjgklaaWa
set_option linter.unusedVariables false
set_option linter.unusedSimpArgs false
namespace Go.Proofs.Ytgenllcfpjgklaa.W
open Go.RowKit Go.Proofs.YtgenllcfpjgklaaW.PrintLast

section
variable {P : Program} {ops : Array Oper} {Q : Exit → Act → World → Prop} {S : World → Prop} {ds : List Nat}

def needB (ops : Array Oper) (d i : Nat) : Bool := match ops[d]? with
  | some o => o.after.any fun e => Region.binds .any e && (e.on == i)
  | none => false
/-- Each of ds that has not come up waits for i, outright or by one between. -/
def soonB (ops : Array Oper) (l : Array Bool) (ds : List Nat) (i : Nat) : Bool :=
  ds.all fun d => l.getD d true || Region.reachB .any ops i 2 d || Region.reachB .any ops i 3 d

theorem reachB_mono {i : Nat} : ∀ (f d : Nat), Region.reachB .any ops i f d = true → Region.reachB .any ops i (f + 1) d = true
  | 0, d, h => by simp [Region.reachB] at h
  | f + 1, d, h => by
    rw [Region.reachB] at h ⊢
    split at h
    · rename_i o ho
      rw [Array.any_eq_true'] at h ⊢
      obtain ⟨e, he, h⟩ := h
      refine ⟨e, he, ?_⟩
      simp only [Bool.and_eq_true, Bool.or_eq_true] at h ⊢
      exact ⟨h.1, h.2.imp id (fun h => reachB_mono f _ h)⟩
    · exact absurd h (by simp)
def permOkK (ops : Array Oper) (ds : List Nat) (e : Array Bool → Bool) : List (Nat × Nat) → Array Bool → Bool
  | [], l => e l
  | (i, 0) :: r, l => Region.free .any ops l i && (Region.ready .any ops l).contains i && permOkK ops ds e r (l.setIfInBounds i true)
  | (i, 1) :: r, l => Region.free .any ops l i && (Region.ready .any ops l).contains i && Region.closedB .any ops l && soonB ops l ds i && permOkK ops ds e r (l.setIfInBounds i true)
  | (i, 2) :: r, l => (Region.ready .any ops l == [i]) && !ds.contains i && permOkK ops ds e r (l.setIfInBounds i true)
  | (i, _) :: r, l => (Region.ready .any ops l == [i]) && ds.contains i && permOkK ops ds e r (l.setIfInBounds i true)
def permOk (ops : Array Oper) (ds : List Nat) (p : List (Nat × Nat)) (l : Array Bool) : Bool := permOkK ops ds (fun l => Region.ready .any ops l == []) p l
/-- A table with forks: where two events may come up. -/
inductive Tr where
  | lin (p : List (Nat × Nat)) : Tr
  | fork (p : List (Nat × Nat)) (i j : Nat) (x y : Tr) : Tr
def Tr.len : Tr → Nat
  | .lin p => p.length
  | .fork p _ _ x _ => (x.len + 1) + p.length
def permOkT (ops : Array Oper) (ds : List Nat) : Tr → Array Bool → Bool
  | .lin p, l => permOk ops ds p l
  | .fork p i j x y, l => (x.len == y.len) && permOkK ops ds (fun l' => (Region.ready .any ops l' == [i, j]) && !ds.contains i && !ds.contains j && permOkT ops ds x (l'.setIfInBounds i true) && permOkT ops ds y (l'.setIfInBounds j true)) p l

def wpPK (P : Program) (ops : Array Oper) (Q : Exit → Act → World → Prop) (S : World → Prop) (K : Act → World → Prop) : List (Nat × Nat) → Act → World → Prop
  | [], a, w => K a w
  | (i, 0) :: r, a, w => ∃ o v, ops[i]? = some o ∧ Yields P ops o v a ∧ wpPK P ops Q S K r (a.put o.dst v) w
  | (i, 1) :: r, a, w => ∃ o v, ops[i]? = some o ∧ YieldsIf P ops S o v a ∧ S w ∧ wpPK P ops Q S K r (a.put o.dst v) w
  | (i, 2) :: r, a, w => wpOp P ops Q i (fun a' w' => S w' ∧ wpPK P ops Q S K r a' w') a w
  | (i, _) :: r, a, w => wpOp P ops Q i (fun a' w' => wpPK P ops Q S K r a' w') a w
abbrev wpP (P : Program) (ops : Array Oper) (Q : Exit → Act → World → Prop) (S : World → Prop) (p : List (Nat × Nat)) (a : Act) (w : World) : Prop := wpPK P ops Q S (Q .normal) p a w
def wpT (P : Program) (ops : Array Oper) (Q : Exit → Act → World → Prop) (S : World → Prop) : Tr → Act → World → Prop
  | .lin p, a, w => wpP P ops Q S p a w
  | .fork p i j x y, a, w => wpPK P ops Q S (fun a w => wpOp P ops Q i (fun a' w' => S w' ∧ wpT P ops Q S x a' w') a w ∧ wpOp P ops Q j (fun a' w' => S w' ∧ wpT P ops Q S y a' w') a w) p a w

theorem put_panic (hQ : ∀ c (a : Act) t w, Q (.panic c) { a with tmps := t } w → Q (.panic c) a w) {c : List PanicEntry} {a : Act} {d : Option Tmp} {v : Value} {w : World} (h : Q (.panic c) (a.put d v) w) : Q (.panic c) a w := by
  cases d with
  | none => exact h
  | some d => exact hQ _ _ _ _ h
theorem wpPK_sound {K : Act → World → Prop} {e : Array Bool → Bool} {n : Nat} (hsel : Region.noSelect ops = true) (hQ : ∀ c (a : Act) t w, Q (.panic c) { a with tmps := t } w → Q (.panic c) a w)
    (he : ∀ l a w, e l = true → K a w → wpAnyLast P .any ops Q S ds n l a w) : ∀ (p : List (Nat × Nat)) (l : Array Bool) (a : Act) (w : World), permOkK ops ds e p l = true → wpPK P ops Q S K p a w →
    wpAnyLast P .any ops Q S ds (n + p.length) l a w := by
  intro p
  induction p with
  | nil =>
    intro l a w hc h
    exact he l a w hc h
  | cons q p ih =>
    intro l a w hc h
    obtain ⟨i, k⟩ := q
    match k, hc, h with
    | 0, hc, h =>
      simp only [permOkK, Bool.and_eq_true] at hc
      obtain ⟨⟨h1, h2⟩, h3⟩ := hc
      obtain ⟨o, v, ho, hy, h⟩ := h
      exact wpAnyLast_any ho (Region.noSelect_spec hsel) (fun c a w h => put_panic hQ h) (n + p.length) l a w (Region.free_spec ho h1) (by simpa using h2) hy (ih _ _ _ h3 h)
    | 1, hc, h =>
      simp only [permOkK, Bool.and_eq_true] at hc
      obtain ⟨⟨⟨⟨h1, h2⟩, h4⟩, h5⟩, h3⟩ := hc
      obtain ⟨o, v, ho, hy, hS, h⟩ := h
      refine wpAnyLast_first ho (Region.noSelect_spec hsel) (fun c a w h => put_panic hQ h) 3 (n + p.length) l a w (Region.free_spec ho h1) (Region.closedB_spec h4) (fun d hm hun => ?_) (by simpa using h2) hy hS (ih _ _ _ h3 h)
      have := List.all_eq_true.1 h5 d hm
      rw [hun] at this
      simp only [Bool.false_or, Bool.or_eq_true] at this
      exact this.elim (reachB_mono 2 d) id
    | 2, hc, h =>
      simp only [permOkK, Bool.and_eq_true, beq_iff_eq, Bool.not_eq_true'] at hc
      obtain ⟨⟨h1, h2⟩, h3⟩ := hc
      refine wpAnyLast_all h1 (by simp) (fun j hj => ?_)
      rw [List.mem_singleton] at hj
      subst hj
      exact wpOp_mono (fun a' w' h => ⟨fun _ _ => h.1, ih _ _ _ h3 h.2⟩) h
    | k + 3, hc, h =>
      simp only [permOkK, Bool.and_eq_true, beq_iff_eq] at hc
      obtain ⟨⟨h1, h2⟩, h3⟩ := hc
      refine wpAnyLast_all h1 (by simp) (fun j hj => ?_)
      rw [List.mem_singleton] at hj
      subst hj
      exact wpOp_mono (fun a' w' h => ⟨fun hn => absurd (by simpa using h2) hn, ih _ _ _ h3 h⟩) h
theorem wpP_sound (hsel : Region.noSelect ops = true) (hQ : ∀ c (a : Act) t w, Q (.panic c) { a with tmps := t } w → Q (.panic c) a w) (p : List (Nat × Nat)) (l : Array Bool) (a : Act) (w : World) (hc : permOk ops ds p l = true) (h : wpP P ops Q S p a w) :
    wpAnyLast P .any ops Q S ds p.length l a w := by
  have := wpPK_sound (K := Q .normal) (n := 0) hsel hQ (fun l a w hc h => (show wpAnyLast P .any ops Q S ds 0 l a w from ⟨by simpa using hc, h⟩)) p l a w hc h
  rwa [Nat.zero_add] at this
theorem wpT_sound (hsel : Region.noSelect ops = true) (hQ : ∀ c (a : Act) t w, Q (.panic c) { a with tmps := t } w → Q (.panic c) a w) : ∀ (t : Tr) (l : Array Bool) (a : Act) (w : World), permOkT ops ds t l = true → wpT P ops Q S t a w →
    wpAnyLast P .any ops Q S ds t.len l a w
  | .lin p, l, a, w, hc, h => wpP_sound hsel hQ p l a w hc h
  | .fork p i j x y, l, a, w, hc, h => by
    simp only [permOkT, Bool.and_eq_true, beq_iff_eq] at hc
    obtain ⟨hl, hc⟩ := hc
    refine wpPK_sound hsel hQ (fun l a w hc h => ?_) p l a w hc h
    simp only [Bool.and_eq_true, beq_iff_eq, Bool.not_eq_true'] at hc
    obtain ⟨⟨⟨⟨h1, h2⟩, h3⟩, h4⟩, h5⟩ := hc
    refine wpAnyLast_all h1 (by simp) (fun k hk => ?_)
    rcases List.mem_cons.1 hk with rfl | hk
    · exact wpOp_mono (fun a' w' h => ⟨fun _ _ => h.1, wpT_sound hsel hQ x _ _ _ h4 h.2⟩) h.1
    · rw [List.mem_singleton] at hk
      subst hk
      exact wpOp_mono (fun a' w' h => ⟨fun _ _ => h.1, by rw [hl]; exact wpT_sound hsel hQ y _ _ _ h5 h.2⟩) h.2

theorem region_perm (S : World → Prop) (ds : List Nat) (p : List (Nat × Nat)) {id : Nat} {l : List Oper} {a : Act} {w : World} (hm : P.follows .mixedOrders = true) (hsel : Region.noSelect l.toArray = true)
    (hn : l.length = p.length) (hc : permOk l.toArray ds p (Array.replicate p.length false) = true) (hQ : ∀ c (a : Act) t w, Q (.panic c) { a with tmps := t } w → Q (.panic c) a w)
    (h : wpP P l.toArray Q S p a w.drew) : (Code.region id l.toArray true).wp P Q a w := by
  refine wp_region_last (S := S) (ds := ds) hm ?_
  have hs : l.toArray.size = p.length := by simpa using hn
  rw [hs]
  exact wpP_sound hsel hQ p _ _ _ hc h
theorem region_tree (S : World → Prop) (ds : List Nat) (t : Tr) {id : Nat} {l : List Oper} {a : Act} {w : World} (hm : P.follows .mixedOrders = true) (hsel : Region.noSelect l.toArray = true)
    (hn : l.length = t.len) (hc : permOkT l.toArray ds t (Array.replicate t.len false) = true) (hQ : ∀ c (a : Act) t w, Q (.panic c) { a with tmps := t } w → Q (.panic c) a w)
    (h : wpT P l.toArray Q S t a w.drew) : (Code.region id l.toArray true).wp P Q a w := by
  refine wp_region_last (S := S) (ds := ds) hm ?_
  have hs : l.toArray.size = t.len := by simpa using hn
  rw [hs]
  exact wpT_sound hsel hQ t _ _ _ hc h

variable {K : Act → World → Prop}
theorem wpP.c0 {i : Nat} {r : List (Nat × Nat)} {o : Oper} {N : Option Tmp} {v : Value} {a a' : Act} {w : World} (ho : ops[i]? = some o := by (simp only [List.getElem?_toArray, List.getElem?_cons_succ, List.getElem?_cons_zero]; try rfl)) (hN : o.dst = N := by rfl) (hw : Region.wanted o (yielded ops a.tmps) = true := by rfl)
    (hy : ∀ W, (execOp a.eval o).run P W = .ok (.value v) W := by (intro W; go_simp; with_reducible rfl)) (ha : a.put N v = a' := by (simp only [Act.put, List.setIfInBounds_toArray, List.set_cons_zero, List.set_cons_succ]; rfl)) (h : wpPK P ops Q S K r a' w) : wpPK P ops Q S K ((i, 0) :: r) a w := by
  subst hN ha; exact ⟨o, v, ho, .inl ⟨hw, hy⟩, h⟩
theorem wpP.c0off {i : Nat} {r : List (Nat × Nat)} {o : Oper} {N : Option Tmp} {a a' : Act} {w : World} (ho : ops[i]? = some o := by (simp only [List.getElem?_toArray, List.getElem?_cons_succ, List.getElem?_cons_zero]; try rfl)) (hN : o.dst = N := by rfl) (hw : Region.wanted o (yielded ops a.tmps) = false := by rfl)
    (ha : a.put N undef = a' := by (simp only [Act.put, List.setIfInBounds_toArray, List.set_cons_zero, List.set_cons_succ]; rfl)) (h : wpPK P ops Q S K r a' w) : wpPK P ops Q S K ((i, 0) :: r) a w := by
  subst hN ha; exact ⟨o, undef, ho, .inr ⟨hw, rfl⟩, h⟩
theorem wpP.c1 {i : Nat} {r : List (Nat × Nat)} {o : Oper} {N : Option Tmp} {v : Value} {a a' : Act} {w : World} (hS : S w) (ho : ops[i]? = some o := by (simp only [List.getElem?_toArray, List.getElem?_cons_succ, List.getElem?_cons_zero]; try rfl)) (hN : o.dst = N := by rfl) (hw : Region.wanted o (yielded ops a.tmps) = true := by rfl)
    (hy : ∀ W, S W → (execOp a.eval o).run P W = .ok (.value v) W := by (intro W hSW; (try dsimp only at hSW); (try go_split_ands); go_simp; with_reducible rfl)) (ha : a.put N v = a' := by (simp only [Act.put, List.setIfInBounds_toArray, List.set_cons_zero, List.set_cons_succ]; rfl)) (h : wpPK P ops Q S K r a' w) : wpPK P ops Q S K ((i, 1) :: r) a w := by
  subst hN ha; exact ⟨o, v, ho, .inl ⟨hw, hy⟩, hS, h⟩
theorem wpP.c1off {i : Nat} {r : List (Nat × Nat)} {o : Oper} {N : Option Tmp} {a a' : Act} {w : World} (hS : S w) (ho : ops[i]? = some o := by (simp only [List.getElem?_toArray, List.getElem?_cons_succ, List.getElem?_cons_zero]; try rfl)) (hN : o.dst = N := by rfl) (hw : Region.wanted o (yielded ops a.tmps) = false := by rfl)
    (ha : a.put N undef = a' := by (simp only [Act.put, List.setIfInBounds_toArray, List.set_cons_zero, List.set_cons_succ]; rfl)) (h : wpPK P ops Q S K r a' w) : wpPK P ops Q S K ((i, 1) :: r) a w := by
  subst hN ha; exact ⟨o, undef, ho, .inr ⟨hw, rfl⟩, hS, h⟩
theorem wpP.done {a : Act} {w : World} (h : Q .normal a w) : wpP P ops Q S [] a w := h
theorem wp_then {o : Oper} {a : Act} {w : World} {K K' : Act → World → Prop} (h : o.wp P a w K (Exit.then K' Q)) : o.wp P a w K Q := by
  unfold Oper.wp at *
  generalize (execOp a.eval o).run P w = r at *
  cases r with
  | ok n w' => cases n <;> simp only [Oper.upon] at h ⊢ <;> first | exact h | exact Calls.mono h (fun e w'' he => by cases e <;> exact he)
  | halt x w' => cases x <;> simp only [Oper.upon] at h ⊢ <;> exact h
theorem wpOp_ev {F : Act → World → Prop} {i : Nat} {o : Oper} {a : Act} {w : World} (ho : ops[i]? = some o := by (simp only [List.getElem?_toArray, List.getElem?_cons_succ, List.getElem?_cons_zero]; try rfl))
    (h : ∀ K' : Act → World → Prop, As (∀ a w, F a w → K' a w) → wpList P ops (Exit.then K' Q) [o] a w) : wpOp P ops Q i F a w := by
  have h1 := h F ⟨fun a w h => h⟩
  unfold wpOp
  simp only [ho]
  unfold wpList at h1
  by_cases hw : Region.wanted o (yielded ops a.tmps) = true
  · rw [if_pos hw] at h1 ⊢
    exact h1.imp (fun h => Oper.wp_mono (fun a w h => h) (wp_then h)) id
  · rw [if_neg hw] at h1 ⊢
    exact h1
/-- An event at a fork. -/
theorem wpT.ev {F : Act → World → Prop} {i : Nat} {o : Oper} {a : Act} {w : World} (ho : ops[i]? = some o := by (simp only [List.getElem?_toArray, List.getElem?_cons_succ, List.getElem?_cons_zero]; try rfl))
    (h : ∀ K' : Act → World → Prop, As (∀ a w, S w → F a w → K' a w) → wpList P ops (Exit.then K' Q) [o] a w) : wpOp P ops Q i (fun a' w' => S w' ∧ F a' w') a w :=
  wpOp_ev ho (fun K' hK => h K' ⟨fun a w h1 h2 => hK.out a w ⟨h1, h2⟩⟩)
theorem wpP.ev {i : Nat} {r : List (Nat × Nat)} {o : Oper} {a : Act} {w : World} (ho : ops[i]? = some o := by (simp only [List.getElem?_toArray, List.getElem?_cons_succ, List.getElem?_cons_zero]; try rfl))
    (h : ∀ K' : Act → World → Prop, As (∀ a w, S w → wpPK P ops Q S K r a w → K' a w) → wpList P ops (Exit.then K' Q) [o] a w) : wpPK P ops Q S K ((i, 2) :: r) a w :=
  wpT.ev (F := wpPK P ops Q S K r) ho h
theorem wpP.last {i : Nat} {r : List (Nat × Nat)} {o : Oper} {a : Act} {w : World} (ho : ops[i]? = some o := by (simp only [List.getElem?_toArray, List.getElem?_cons_succ, List.getElem?_cons_zero]; try rfl))
    (h : ∀ K' : Act → World → Prop, As (∀ a w, wpPK P ops Q S K r a w → K' a w) → wpList P ops (Exit.then K' Q) [o] a w) : wpPK P ops Q S K ((i, 3) :: r) a w :=
  wpOp_ev (F := wpPK P ops Q S K r) ho h
theorem wpP.fork {i j : Nat} {x y : Tr} {a : Act} {w : World} (h1 : wpOp P ops Q i (fun a' w' => S w' ∧ wpT P ops Q S x a' w') a w) (h2 : wpOp P ops Q j (fun a' w' => S w' ∧ wpT P ops Q S y a' w') a w) :
    wpPK P ops Q S (fun a w => wpOp P ops Q i (fun a' w' => S w' ∧ wpT P ops Q S x a' w') a w ∧ wpOp P ops Q j (fun a' w' => S w' ∧ wpT P ops Q S y a' w') a w) [] a w := ⟨h1, h2⟩
theorem wpT.fork {p : List (Nat × Nat)} {i j : Nat} {x y : Tr} {a : Act} {w : World} (h : wpPK P ops Q S (fun a w => wpOp P ops Q i (fun a' w' => S w' ∧ wpT P ops Q S x a' w') a w ∧ wpOp P ops Q j (fun a' w' => S w' ∧ wpT P ops Q S y a' w') a w) p a w) : wpT P ops Q S (.fork p i j x y) a w := h
theorem wpT.lin {p : List (Nat × Nat)} {a : Act} {w : World} (h : wpP P ops Q S p a w) : wpT P ops Q S (.lin p) a w := h
end
end Go.Proofs.Ytgenllcfpjgklaa.W
