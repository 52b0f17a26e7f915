/- The law's own functions on orders and numbers: copies, comparisons, marks. -/
import Derived.Test.YtgenllcfpjgklaaBa
import Derived.Laws.MakeOwn
import Derived.Laws.OwnMore
set_option linter.unusedVariables false
set_option linter.unusedSimpArgs false
namespace Go.Proofs.Ytgenllcfpjgklaa.C
open Go.RowKit Go.Proofs.Ytgenllcfpjgklaa.W Go.Proofs.Ytgenllcfpjgklaa.P

/-! ### rows of orders -/
def ocs (l : List Opr) : List Value := l.flatMap (fun o => [.int .i64 o.code, .int .i64 o.arg])
theorem ocs_nil : ocs [] = [] := rfl
theorem ocs_cons (o : Opr) (l : List Opr) : ocs (o :: l) = .int .i64 o.code :: .int .i64 o.arg :: ocs l := rfl
theorem ocs_app (l r : List Opr) : ocs (l ++ r) = ocs l ++ ocs r := by simp [ocs]
theorem ocs_len (l : List Opr) : (ocs l).length = l.length * 2 := by
  induction l with
  | nil => rfl
  | cons p l ih => rw [ocs_cons]; simp only [List.length_cons, ih]; omega
theorem ocs_one (l : List Opr) : ∀ u ∈ ocs l, u.oneCell' = true := by
  intro u hu
  obtain ⟨o, _, ho⟩ := List.mem_flatMap.1 hu
  simp only [List.mem_cons, List.not_mem_nil, or_false] at ho
  rcases ho with rfl | rfl <;> rfl
theorem ocs_at (l : List Opr) : ∀ (k : Nat) (h : k < l.length), (ocs l)[k * 2]? = some (.int .i64 l[k].code) ∧ (ocs l)[k * 2 + 1]? = some (.int .i64 l[k].arg) := by
  induction l with
  | nil => intro k h; simp at h
  | cons p l ih =>
    intro k h
    cases k with
    | zero => simp [ocs_cons]
    | succ k =>
      have hh := ih k (by simpa using h)
      rw [ocs_cons]
      have e0 : (k + 1) * 2 = k * 2 + 2 := by omega
      rw [e0]
      simpa using hh
theorem ocs_set (l : List Opr) : ∀ (k : Nat) (h : k < l.length) (o : Opr), ocs (l.set k o) = ((ocs l).set (k * 2) (.int .i64 o.code)).set (k * 2 + 1) (.int .i64 o.arg) := by
  induction l with
  | nil => intro k h; simp at h
  | cons p l ih =>
    intro k h o
    cases k with
    | zero => simp [ocs_cons]
    | succ k =>
      have hh := ih k (by simpa using h) o
      rw [List.set_cons_succ, ocs_cons, ocs_cons, hh]
      have e0 : (k + 1) * 2 = k * 2 + 1 + 1 := by omega
      rw [e0]
      rfl
theorem infoO : (Try.prog.info? 52).map (fun i => (i.zero, i.size, i.bytes)) = some (some (.agg #[.int .i64 0, .int .i64 0]), 2, 16) := by kernel_rfl
/-- An owned row of orders. -/
def OR (w : World) (v : Value) (l : List Opr) : Prop := w.ownsRow 0 52 2 v l.length (ocs l)
theorem OR.keep {w w' : World} {v : Value} {l : List Opr} (h : OR w v l) (hm : ∀ k, v.ownBlock = some k → w'.heap[k]? = w.heap[k]?) : OR w' v l := own_keep h hm
theorem OR.fr {S : Nat → Prop} {w w' : World} {v : Value} {l : List Opr} (h : OR w v l) (hf : Fr S w w') (hn : ∀ k, v.ownBlock = some k → ¬ S k) : OR w' v l := h.keep (fun k hk => hf.block k (own_lt h hk) (hn k hk))
theorem OR.ext {w w' : World} {v : Value} {l : List Opr} (h : OR w v l) (hf : Ext w w') : OR w' v l := h.keep (fun k hk => hf.block k (own_lt h hk))
theorem OR.rd {w : World} {v : Value} {l : List Opr} (h : OR w v l) (hl : l.length ≤ 1000000000000) : ∃ A c, v = .slice A l.length c ∧ l.length ≤ c ∧ RdO w A l := by
  obtain ⟨A, c, rfl, hc, ha⟩ := own_form h
  refine ⟨A, c, rfl, hc, hl, fun k hk => ?_⟩
  rcases h.2 with ⟨hv, h0⟩ | ⟨g, cap, cur, hv, _⟩
  · omega
  · injection hv with hv1 hv2 hv3
    subst hv1
    obtain ⟨c0, c1⟩ := ocs_at l k hk
    have cc := fun j u hu => World.ownsRow.cells h (g := g) rfl j u hu
    have q0 := cc _ _ c0
    have q1 := cc _ _ c1
    refine ⟨_, rfl, q0, ?_⟩
    rw [(add_at g (k * 2) 1).2, ← (add_at g (k * 2 + 1) 0).1]; exact q1
theorem rdA_O {w : World} {A : Option Addr} {n c : Nat} {l : List Opr} (h : OR w (.slice A n c) l) (hl : l.length ≤ 1000000000000) : RdO w A l := by
  obtain ⟨A', c', hv, _, hr⟩ := OR.rd h hl
  injection hv with hv
  subst hv
  exact hr
/-- One order of an owned row is another one: two cells are written. -/
theorem OR.set {w : World} {g n c : Nat} {l : List Opr} (h : OR w (.slice (some ⟨g, 0, none⟩) n c) l) (k : Nat) (hk : k < l.length) (o : Opr) :
    OR ((w.setCell ⟨g, k * 2, none⟩ (.int .i64 o.code)).setCell ⟨g, k * 2 + 1, none⟩ (.int .i64 o.arg)) (.slice (some ⟨g, 0, none⟩) n c) (l.set k o) := by
  obtain ⟨A', c', hv, _, _⟩ := own_form h
  injection hv with hv1 hv2 hv3
  subst hv1 hv2 hv3
  have hf : World.ownsRow w 0 52 2 (.slice (some ⟨g, 0, none⟩) l.length c) l.length (ocs l) := h
  have := own_set (own_set hf (k * 2) (.int .i64 o.code)) (k * 2 + 1) (.int .i64 o.arg)
  rw [← ocs_set l k hk o] at this
  unfold OR
  rw [List.length_set]
  exact this
theorem ocs_zero (n : Nat) : (madeCells (Value.agg #[.int .i64 0, .int .i64 0]).cells (n * 2)).toList = ocs (List.replicate n ⟨0, 0⟩) := by
  have hz : (Value.agg #[.int .i64 0, .int .i64 0]).cells = #[.int .i64 0, .int .i64 0] := rfl
  rw [hz]
  apply List.ext_getElem?
  intro i
  by_cases hi : i < n * 2
  · have h1 : (madeCells #[Value.int .i64 0, Value.int .i64 0] (n * 2)).toList[i]? = some (.int .i64 0) := by
      have : i % 2 < 2 := Nat.mod_lt _ (by omega)
      simp only [madeCells, Array.getElem?_toList]
      rw [Array.getElem?_map, Array.getElem?_range, if_pos (by omega)]
      rcases (show i % 2 = 0 ∨ i % 2 = 1 by omega) with h | h <;> simp [h]
    rw [h1]
    have h2 : (ocs (List.replicate n ⟨0, 0⟩))[i]? = some (.int .i64 0) := by
      obtain ⟨a, b⟩ := ocs_at (List.replicate n ⟨0, 0⟩) (i / 2) (by simp; omega)
      rcases (show i = i / 2 * 2 ∨ i = i / 2 * 2 + 1 by omega) with h | h
      · rw [← h] at a; simpa using a
      · rw [← h] at b; simpa using b
    rw [h2]
  · rw [List.getElem?_eq_none (by simp [madeCells]; omega), List.getElem?_eq_none (by rw [ocs_len]; simp; omega)]
end Go.Proofs.Ytgenllcfpjgklaa.C
