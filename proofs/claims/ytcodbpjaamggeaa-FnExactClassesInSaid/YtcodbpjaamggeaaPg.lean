/- ClassesIn in plain Lean: sorted and compacted is ascending. -/
import Derived.Test.YtcodbpjaamggeaaPm
set_option linter.unusedVariables false
set_option linter.unusedSimpArgs false
namespace Go.Proofs.Ytcodbpjaamggeaa.P

theorem strict_ext : ∀ (a b : List Int), a.Pairwise (· < ·) → b.Pairwise (· < ·) → (∀ x, x ∈ a ↔ x ∈ b) → a = b
  | [], [], _, _, _ => rfl
  | [], y :: b, _, _, h => absurd ((h y).2 (by simp)) (by simp)
  | x :: a, [], _, _, h => absurd ((h x).1 (by simp)) (by simp)
  | x :: a, y :: b, ha, hb, h => by
    rw [List.pairwise_cons] at ha hb
    have hxy : x = y := by
      have h1 := (h x).1 (by simp)
      have h2 := (h y).2 (by simp)
      rcases List.mem_cons.1 h1 with e | h1
      · exact e
      rcases List.mem_cons.1 h2 with e | h2
      · exact e.symm
      have := ha.1 _ h2
      have := hb.1 _ h1
      omega
    subst hxy
    rw [strict_ext a b ha.2 hb.2]
    intro z
    have := h z
    constructor
    · intro hz
      have hlt := ha.1 z hz
      rcases List.mem_cons.1 (this.1 (by simp [hz])) with e | e
      · omega
      · exact e
    · intro hz
      have hlt := hb.1 z hz
      rcases List.mem_cons.1 (this.2 (by simp [hz])) with e | e
      · omega
      · exact e
def stepC (acc : List Int) (x : Int) : List Int := if acc.getLast? = some x then acc else acc ++ [x]
def comp (l : List Int) : List Int := l.foldl stepC []
theorem comp_snoc (l : List Int) (x : Int) : comp (l ++ [x]) = stepC (comp l) x := by simp [comp]
theorem stepC_last (acc : List Int) (x : Int) : (stepC acc x).getLast? = some x := by
  unfold stepC
  split
  · assumption
  · simp
theorem comp_last (l : List Int) (k : Nat) (hk : k < l.length) : (comp (l.take (k + 1))).getLast? = some l[k] := by
  rw [List.take_succ_eq_append_getElem hk, comp_snoc]
  exact stepC_last _ _
theorem comp_next (l : List Int) (k : Nat) (h0 : 0 < k) (hk : k < l.length) : comp (l.take (k + 1)) = if l[k] = l[k - 1] then comp (l.take k) else comp (l.take k) ++ [l[k]] := by
  have hl := comp_last l (k - 1) (by omega)
  rw [show k - 1 + 1 = k by omega] at hl
  rw [List.take_succ_eq_append_getElem hk, comp_snoc]
  unfold stepC
  rw [hl]
  by_cases h : l[k] = l[k - 1]
  · rw [if_pos h, if_pos (by rw [h])]
  · rw [if_neg h, if_neg (by intro e; injection e with e; exact h e.symm)]
theorem comp_one (l : List Int) (h : 0 < l.length) : comp (l.take 1) = [l[0]] := by
  have := List.take_succ_eq_append_getElem (l := l) (i := 0) h
  rw [this]
  simp [comp, stepC]
theorem comp_le (l : List Int) : ∀ k, k ≤ l.length → (comp (l.take k)).length ≤ k
  | 0, _ => by simp [comp]
  | k + 1, h => by
    have := comp_le l k (by omega)
    rw [List.take_succ_eq_append_getElem (by omega), comp_snoc]
    unfold stepC
    split
    · omega
    · simp; omega
theorem getLast_max {acc : List Int} (h : acc.Pairwise (· < ·)) {z : Int} (hz : acc.getLast? = some z) : ∀ a ∈ acc, a ≤ z := by
  obtain ⟨ys, rfl⟩ := List.getLast?_eq_some_iff.1 hz
  rw [List.pairwise_append] at h
  intro a ha
  rcases List.mem_append.1 ha with ha | ha
  · have := h.2.2 a ha z (by simp); omega
  · rw [List.mem_singleton] at ha; omega
theorem fold_comp : ∀ (l acc : List Int), acc.Pairwise (· < ·) → l.Pairwise (· ≤ ·) → (∀ a ∈ acc, ∀ x ∈ l, a ≤ x) → (l.foldl stepC acc).Pairwise (· < ·) ∧ ∀ x, x ∈ l.foldl stepC acc ↔ x ∈ acc ∨ x ∈ l
  | [], acc, h1, _, _ => ⟨h1, fun x => by simp⟩
  | y :: l, acc, h1, h2, h3 => by
    rw [List.pairwise_cons] at h2
    simp only [List.foldl_cons]
    by_cases hl : acc.getLast? = some y
    · have e : stepC acc y = acc := if_pos hl
      rw [e]
      obtain ⟨a1, a2⟩ := fold_comp l acc h1 h2.2 (fun a ha x hx => h3 a ha x (by simp [hx]))
      refine ⟨a1, fun x => ?_⟩
      rw [a2, List.mem_cons]
      have hy : y ∈ acc := by
        obtain ⟨ys, rfl⟩ := List.getLast?_eq_some_iff.1 hl
        simp
      constructor
      · rintro (h | h)
        · exact .inl h
        · exact .inr (.inr h)
      · rintro (h | h | h)
        · exact .inl h
        · subst h; exact .inl hy
        · exact .inr h
    · have e : stepC acc y = acc ++ [y] := if_neg hl
      rw [e]
      have hlt : ∀ a ∈ acc, a < y := by
        intro a ha
        have h4 := h3 a ha y (by simp)
        rcases Int.lt_or_eq_of_le h4 with h | h
        · exact h
        · exfalso
          cases hz : acc.getLast? with
          | none => rw [List.getLast?_eq_none_iff] at hz; subst hz; simp at ha
          | some z =>
            have h5 := getLast_max h1 hz a ha
            have hzm : z ∈ acc := by
              obtain ⟨ys, rfl⟩ := List.getLast?_eq_some_iff.1 hz
              simp
            have h6 := h3 z hzm y (by simp)
            have : z = y := by omega
            subst this
            exact hl hz
      have h1' : (acc ++ [y]).Pairwise (· < ·) := by
        rw [List.pairwise_append]
        refine ⟨h1, List.pairwise_singleton _ _, fun a ha b hb => ?_⟩
        rw [List.mem_singleton] at hb; subst hb
        exact hlt a ha
      obtain ⟨a1, a2⟩ := fold_comp l (acc ++ [y]) h1' h2.2 (fun a ha x hx => by
        rcases List.mem_append.1 ha with ha | ha
        · exact h3 a ha x (by simp [hx])
        · rw [List.mem_singleton] at ha; subst ha; exact h2.1 x hx)
      refine ⟨a1, fun x => ?_⟩
      rw [a2]
      simp only [List.mem_append, List.mem_cons, List.not_mem_nil, or_false, or_assoc]

/-- The classes of orders, as they come; and each once, ascending. -/
def newArgs (ops : List Opr) : List Int := (ops.filter (fun o => decide (o.code = 13))).map (·.arg)
def hasC (ops : List Opr) (c : Nat) : Bool := ops.any (fun o => decide (o.code = 13 ∧ o.arg = c))
def cls (ops : List Opr) (n : Nat) : List Int := ((List.range n).filter (hasC ops)).map (fun c : Nat => (c : Int))
def sortL (l : List Int) : List Int := l.mergeSort fun x y => decide (x ≤ y)
theorem newArgs_snoc (ops : List Opr) (k : Nat) (hk : k < ops.length) : newArgs (ops.take (k + 1)) = if ops[k].code = 13 then newArgs (ops.take k) ++ [ops[k].arg] else newArgs (ops.take k) := by
  rw [List.take_succ_eq_append_getElem hk]
  unfold newArgs
  rw [List.filter_append, List.map_append]
  by_cases h : ops[k].code = 13
  · simp [h]
  · simp [h]
theorem newArgs_le (ops : List Opr) : (newArgs ops).length ≤ ops.length := by
  unfold newArgs
  rw [List.length_map]
  exact List.length_filter_le _ _
theorem cls_snoc (ops : List Opr) (n : Nat) : cls ops (n + 1) = if hasC ops n = true then cls ops n ++ [(n : Int)] else cls ops n := by
  unfold cls
  rw [List.range_succ, List.filter_append, List.map_append]
  by_cases h : hasC ops n = true
  · simp [h]
  · simp [h]
theorem cls_le (ops : List Opr) : ∀ n, (cls ops n).length ≤ n
  | 0 => by simp [cls]
  | n + 1 => by
    have := cls_le ops n
    rw [cls_snoc]
    split
    · simp; omega
    · omega
theorem cls_asc (ops : List Opr) (n : Nat) : (cls ops n).Pairwise (· < ·) := by
  unfold cls
  rw [List.pairwise_map]
  refine (List.pairwise_lt_range.filter _).imp ?_
  intro a b h
  omega
theorem classes_eq (ops : List Opr) (hv : ops.all okO = true) : comp (sortL (newArgs ops)) = cls ops 10 := by
  have hs : (sortL (newArgs ops)).Pairwise (· ≤ ·) := by
    have := List.pairwise_mergeSort (le := fun x y : Int => decide (x ≤ y)) (fun a b c h1 h2 => by simp at *; omega) (fun a b => by simp; omega) (newArgs ops)
    exact this.imp (fun h => by simpa using h)
  have hm : ∀ x, x ∈ sortL (newArgs ops) ↔ x ∈ newArgs ops := fun x => (List.mergeSort_perm _ _).mem_iff
  obtain ⟨a1, a2⟩ := fold_comp (sortL (newArgs ops)) [] List.Pairwise.nil hs (by simp)
  refine strict_ext _ _ a1 (cls_asc ops 10) (fun x => ?_)
  show x ∈ List.foldl stepC [] _ ↔ _
  rw [a2, hm]
  unfold newArgs cls hasC
  simp only [List.not_mem_nil, false_or, List.mem_map, List.mem_filter, List.mem_range, List.any_eq_true, decide_eq_true_eq]
  constructor
  · rintro ⟨o, ⟨ho, hc⟩, rfl⟩
    have hok := List.all_eq_true.1 hv o ho
    have hd := of_decide_eq_true hok
    have h9 : o.arg ≤ 9 := by
      have := hd.2.2.2
      rw [hc] at this
      exact this
    refine ⟨o.arg.toNat, ⟨by omega, o, ho, hc, by omega⟩, by omega⟩
  · rintro ⟨c, ⟨_, o, ho, hc, ha⟩, rfl⟩
    exact ⟨o, ⟨ho, hc⟩, ha⟩
def classesP (ops : List Opr) : List Int := if vOps ops = true then cls ops 10 else []
end Go.Proofs.Ytcodbpjaamggeaa.P
