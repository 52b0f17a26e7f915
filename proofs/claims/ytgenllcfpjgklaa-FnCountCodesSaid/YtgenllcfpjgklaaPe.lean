/- EndOps in plain Lean. -/
import Derived.Test.YtgenllcfpjgklaaPt
import Derived.Test.YtgenllcfpjgklaaPo
set_option linter.unusedVariables false
set_option linter.unusedSimpArgs false
namespace Go.Proofs.Ytgenllcfpjgklaa.C
open Go.Proofs.Ytgenllcfpjgklaa.P

def tupO : Opr := ⟨3, 0⟩
def endRest (n : Nat) : List Opr := List.replicate (n - 1) ⟨6, 0⟩ ++ ((if n = 0 then [⟨4, 0⟩] else []) ++ [⟨19, 0⟩])
def firstMark (s : List Int) : Nat := (s.takeWhile (fun x => decide (0 ≤ x))).length
def restLen (s : List Int) : Nat := firstMark s + (if 0 < cntN s then 1 else 0)
def endOut (s : List Int) : List Opr := List.replicate (cntN s) tupO ++ endRest (restLen s)
def endOk (ops : List Opr) : Bool := decide ((runP (runP newM ops).1 (endOut (runP newM ops).1.stack)).2 = (endOut (runP newM ops).1.stack).length) && decide ((runP newM ops).2 + (endOut (runP newM ops).1.stack).length ≤ 300)
def endOps (ops : List Opr) : List Opr × Bool :=
  if vOps ops = true then (if (runP newM ops).1.done = true then ([], true) else if endOk ops = true then (endOut (runP newM ops).1.stack, true) else ([], false)) else ([], false)
theorem cntN_app (a b : List Int) : cntN (a ++ b) = cntN a + cntN b := by simp [cntN]
theorem cntN_zero {a : List Int} (h : ∀ x ∈ a, 0 ≤ x) : cntN a = 0 := by
  unfold cntN
  rw [List.length_eq_zero_iff, List.filter_eq_nil_iff]
  intro x hx
  have := h x hx
  simp; omega
theorem cntN_pos {a : List Int} (h : cntN a = 0) : ∀ x ∈ a, 0 ≤ x := by
  unfold cntN at h
  rw [List.length_eq_zero_iff, List.filter_eq_nil_iff] at h
  intro x hx
  have := h x hx
  simp at this; exact this
theorem tw_all {α : Type} (p : α → Bool) : ∀ (l : List α), (∀ x ∈ l, p x = true) → l.takeWhile p = l
  | [], _ => rfl
  | x :: l, h => by
    rw [List.takeWhile_cons_of_pos (h x (by simp)), tw_all p l (fun y hy => h y (by simp [hy]))]
theorem tw_mem {α : Type} (p : α → Bool) : ∀ (l : List α) (x : α), x ∈ l.takeWhile p → p x = true
  | [], x, h => by simp at h
  | y :: l, x, h => by
    by_cases hy : p y = true
    · rw [List.takeWhile_cons_of_pos hy] at h
      rcases List.mem_cons.1 h with rfl | h
      · exact hy
      · exact tw_mem p l x h
    · rw [List.takeWhile_cons_of_neg hy] at h
      simp at h
theorem dw_head {α : Type} (p : α → Bool) : ∀ (l : List α) (x : α) (r : List α), l.dropWhile p = x :: r → p x = false
  | [], x, r, h => by simp at h
  | y :: l, x, r, h => by
    by_cases hy : p y = true
    · rw [List.dropWhile_cons_of_pos hy] at h
      exact dw_head p l x r h
    · rw [List.dropWhile_cons_of_neg hy] at h
      injection h with h1 h2
      rw [← h1]
      simpa using hy
theorem firstMark_all {a : List Int} (h : ∀ x ∈ a, 0 ≤ x) : firstMark a = a.length := by
  unfold firstMark
  rw [tw_all _ a (fun x hx => by simpa using h x hx)]
theorem firstMark_none {a : List Int} (h : cntN a = 0) (x : Int) (hx : x < 0) (r : List Int) : firstMark (a ++ x :: r) = a.length := by
  unfold firstMark
  rw [List.takeWhile_append_of_pos (fun y hy => by simpa using cntN_pos h y hy), List.takeWhile_cons_of_neg (by simpa using hx)]
  simp
theorem firstMark_some : ∀ {a : List Int} (_ : 0 < cntN a) (r : List Int), firstMark (a ++ r) = firstMark a
  | [], h, r => by simp [cntN] at h
  | x :: a, h, r => by
    unfold firstMark
    by_cases hx : 0 ≤ x
    · have h' : 0 < cntN a := by
        have : cntN (x :: a) = cntN a := by
          unfold cntN
          rw [List.filter_cons_of_neg (by simpa using hx)]
        omega
      have := firstMark_some h' r
      unfold firstMark at this
      simp [hx, this]
    · simp [hx]
theorem split_top (s : List Int) (h : topN s ≠ s.length) : ∃ p x q, s = p ++ x :: q ∧ x < 0 ∧ (∀ y ∈ q, 0 ≤ y) ∧ q.length = topN s := by
  have e := List.takeWhile_append_dropWhile (p := fun x : Int => decide (0 ≤ x)) (l := s.reverse)
  cases hd : s.reverse.dropWhile (fun x => decide (0 ≤ x)) with
  | nil =>
    rw [hd, List.append_nil] at e
    exact absurd (by unfold topN; rw [e, List.length_reverse]) h
  | cons x r =>
    rw [hd] at e
    have hx : x < 0 := by
      have := dw_head _ _ _ _ hd
      simpa using this
    refine ⟨r.reverse, x, (s.reverse.takeWhile (fun x => decide (0 ≤ x))).reverse, ?_, hx, ?_, by simp [topN]⟩
    · have := congrArg List.reverse e
      simp at this
      simpa using this.symm
    · intro y hy
      rw [List.mem_reverse] at hy
      have := tw_mem _ _ _ hy
      simpa using this
theorem tup_step {m m' : Mc} (hs : stepP m tupO = some m') : m'.done = false ∧ ∃ p x q, m.stack = p ++ x :: q ∧ x < 0 ∧ (∀ y ∈ q, 0 ≤ y) ∧ ∃ i : Int, 0 ≤ i ∧ m'.stack = p ++ [i] := by
  unfold stepP at hs
  split at hs
  · cases hs
  rename_i hdn
  unfold tupO at hs
  rw [doP_3] at hs
  unfold above at hs
  split at hs
  · exact nomatch hs
  · rename_i m1 kids e
    split at e
    · cases e
    rename_i ht
    injection e with e
    injection e with e1 e2
    obtain ⟨p, x, q, h1, h2, h3, h4⟩ := split_top m.stack ht
    have hm1 : m1.stack = p := by
      rw [← e1]
      unfold drop
      simp only
      rw [← h4, h1]
      simp
    have hm1d : m1.done = m.done := by rw [← e1]; rfl
    unfold mk push at hs
    split at hs
    · split at hs
      · injection hs with hs
        subst hs
        exact ⟨by simp [hm1d, hdn], p, x, q, h1, h2, h3, m1.nodes.length, by omega, by simp [hm1]⟩
      · cases hs
    · cases hs
theorem tup_rest {m m' : Mc} (hs : stepP m tupO = some m') : restLen m'.stack = restLen m.stack ∧ cntN m.stack = cntN m'.stack + 1 := by
  obtain ⟨_, p, x, q, h1, h2, h3, i, hi, h4⟩ := tup_step hs
  have hq := cntN_zero h3
  have hx : cntN [x] = 1 := by simp [cntN, h2]
  have hii : cntN [i] = 0 := cntN_zero (by simpa using hi)
  have c1 : cntN m.stack = cntN p + 1 := by
    rw [h1, cntN_app, show x :: q = [x] ++ q from rfl, cntN_app, hx, hq]
  have c2 : cntN m'.stack = cntN p := by rw [h4, cntN_app, hii]; rfl
  refine ⟨?_, by omega⟩
  unfold restLen
  rw [c1, c2, if_pos (Nat.succ_pos _), h1, h4]
  by_cases hp : 0 < cntN p
  · rw [if_pos hp, firstMark_some hp, firstMark_some hp]
  · have hp0 : cntN p = 0 := by omega
    rw [if_neg hp, firstMark_none hp0 x h2, firstMark_all]
    · simp
    · intro y hy
      rcases List.mem_append.1 hy with hy | hy
      · exact cntN_pos hp0 y hy
      · rw [List.mem_singleton] at hy; subst hy; exact hi
/-- After the marks are taken the stack is as long as is told beforehand. -/
theorem tups_rest : ∀ (c : Nat) (m m' : Mc), cntN m.stack = c → runP m (List.replicate c tupO) = (m', c) → m'.stack.length = restLen m.stack ∧ cntN m'.stack = 0
  | 0, m, m', hc, h => by
    simp only [List.replicate_zero, runP, Prod.mk.injEq] at h
    obtain ⟨rfl, _⟩ := h
    refine ⟨?_, hc⟩
    unfold restLen
    rw [hc, firstMark_all (cntN_pos hc)]
    rfl
  | c + 1, m, m', hc, h => by
    rw [List.replicate_succ] at h
    simp only [runP] at h
    cases hs : stepP m tupO with
    | none => rw [hs] at h; simp at h
    | some m1 =>
      rw [hs] at h
      simp only [Prod.mk.injEq, Nat.add_right_cancel_iff] at h
      have ht := tup_rest hs
      have := tups_rest c m1 m' (by omega) (Prod.ext h.1 h.2)
      exact ⟨by rw [this.1, ht.1], this.2⟩
theorem runP_app : ∀ (a b : List Opr) (m m' : Mc), runP m a = (m', a.length) → runP m (a ++ b) = ((runP m' b).1, a.length + (runP m' b).2)
  | [], b, m, m', h => by
    simp only [runP, Prod.mk.injEq] at h
    obtain ⟨rfl, _⟩ := h
    simp
  | x :: a, b, m, m', h => by
    simp only [runP, List.cons_append] at h ⊢
    cases hs : stepP m x with
    | none => rw [hs] at h; simp at h
    | some m1 =>
      rw [hs] at h
      simp only [Prod.mk.injEq, List.length_cons, Nat.add_right_cancel_iff] at h
      have h1 := runP_app a b m1 m' (Prod.ext h.1 h.2)
      simp only [h1, List.length_cons, Prod.mk.injEq, true_and]
      omega
theorem endRest_ok (n : Nat) : (endRest n).all okO = true := by
  have h6 : ∀ k, (List.replicate k (⟨6, 0⟩ : Opr)).all okO = true := fun k => by
    rw [List.all_eq_true]
    intro x hx
    rw [List.mem_replicate] at hx
    rw [hx.2]; decide
  unfold endRest
  rw [List.all_append, List.all_append, h6]
  by_cases h : n = 0
  · rw [if_pos h]; decide
  · rw [if_neg h]; decide
theorem endRest_le (n : Nat) : (endRest n).length ≤ n + 2 := by
  unfold endRest
  by_cases h : n = 0 <;> simp [h] <;> omega
end Go.Proofs.Ytgenllcfpjgklaa.C
