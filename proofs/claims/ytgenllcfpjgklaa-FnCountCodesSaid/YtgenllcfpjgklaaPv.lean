/- Graphs in plain Lean: ways, validity, a rank of tuples; how much a writer writes. -/
import Derived.Test.YtgenllcfpjgklaaPm
set_option linter.unusedVariables false
set_option linter.unusedSimpArgs false
namespace Go.Proofs.Ytgenllcfpjgklaa.P

def atN (ns : List Nd) (i : Int) : Nd := ns.getD i.toNat default
theorem atN_get {ns : List Nd} (k : Nat) (h : k < ns.length) : atN ns k = ns[k] := by
  unfold atN; rw [Int.toNat_natCast, List.getD_eq_getElem?_getD, List.getElem?_eq_getElem h]; rfl
theorem atN_mem {ns : List Nd} {i : Int} (h0 : 0 ≤ i) (h : i < ns.length) : atN ns i ∈ ns := by
  obtain ⟨k, rfl⟩ := Int.eq_ofNat_of_zero_le h0
  rw [atN_get k (by omega)]; exact List.getElem_mem _
/-- A way over nodes of p from t to a node. -/
inductive Wy (p : Nd → Bool) (ns : List Nd) (t : Int) : Int → Prop
  | one {x : Int} : x ∈ (atN ns t).kids → Wy p ns t x
  | more {y x : Int} : Wy p ns t y → p (atN ns y) = true → x ∈ (atN ns y).kids → Wy p ns t x
theorem Wy.trans {p : Nd → Bool} {ns : List Nd} {t k x : Int} (h : k ∈ (atN ns t).kids) (hk : p (atN ns k) = true) (hx : Wy p ns k x) : Wy p ns t x := by
  induction hx with
  | one h1 => exact .more (.one h) hk h1
  | more _ h2 h3 ih => exact .more ih h2 h3
def tupB (n : Nd) : Bool := n.kind == 2
def keyB (n : Nd) : Bool := decide (n.kind = 0 ∨ n.kind = 1)
def sameB (a b : Nd) : Bool := decide (a.kind = b.kind ∧ a.val = b.val)
/-- The place i of a dictionary's kids holds a key, and none before it is the same. -/
def keyAt (ns : List Nd) (kids : List Int) (i : Nat) : Bool := keyB (atN ns (kids.getD i 0)) && (List.range i).all (fun k => k % 2 == 1 || !sameB (atN ns (kids.getD i 0)) (atN ns (kids.getD k 0)))
def dictB (ns : List Nd) (kids : List Int) : Bool := (List.range kids.length).all (fun i => i % 2 == 1 || keyAt ns kids i) && kids.length % 2 == 0
def allIn (l : List Int) (lo hi : Int) : Bool := l.all (fun x => decide (lo ≤ x ∧ x ≤ hi))
/-- A node is valid, if its kids are nodes. -/
def bodyB (ns : List Nd) (n : Nd) : Bool :=
  if n.kind = 0 then decide (0 ≤ n.val ∧ n.val ≤ 999) && n.kids.length == 0 else
  if n.kind = 1 then decide (0 ≤ n.val ∧ n.val ≤ 9) && n.kids.length == 0 else
  if n.kind = 2 then n.val == 0 else
  if n.kind = 3 then n.val == 0 else
  if n.kind = 4 then n.val == 0 && dictB ns n.kids else
  if n.kind = 5 then decide (0 ≤ n.val ∧ n.val ≤ 9) && decide (n.kids.length ≤ 1) else false
def nodeB (ns : List Nd) (n : Nd) : Bool := (decide (n.kids.length ≤ 6) && allIn n.kids 0 ((ns.length : Int) - 1)) && bodyB ns n
/-- A graph is valid. -/
structure VG (ns : List Nd) (root : Int) : Prop where
  lo : 1 ≤ ns.length
  hi : ns.length ≤ 12
  r0 : 0 ≤ root
  r1 : root < ns.length
  nd : ∀ n ∈ ns, nodeB ns n = true
  ac : ∀ i : Nat, i < ns.length → tupB (atN ns i) = true → ¬ Wy tupB ns i i
theorem nodeB_kids {ns : List Nd} {n : Nd} (h : nodeB ns n = true) : n.kids.length ≤ 6 ∧ ∀ x ∈ n.kids, 0 ≤ x ∧ x < ns.length := by
  simp only [nodeB, Bool.and_eq_true, decide_eq_true_eq, allIn, List.all_eq_true] at h
  exact ⟨h.1.1, fun x hx => by have := h.1.2 x hx; omega⟩
theorem VG.kids {ns : List Nd} {root : Int} (h : VG ns root) {i : Int} (h0 : 0 ≤ i) (h1 : i < ns.length) : (atN ns i).kids.length ≤ 6 ∧ ∀ x ∈ (atN ns i).kids, 0 ≤ x ∧ x < ns.length :=
  nodeB_kids (h.nd _ (atN_mem h0 h1))
theorem VG.way {ns : List Nd} {root : Int} (h : VG ns root) {p : Nd → Bool} {i x : Int} (h0 : 0 ≤ i) (h1 : i < ns.length) (hw : Wy p ns i x) : 0 ≤ x ∧ x < ns.length := by
  induction hw with
  | one hx => exact (h.kids h0 h1).2 _ hx
  | more _ _ hx ih => exact (h.kids ih.1 ih.2).2 _ hx
/-! ### the rank of a tuple -/
theorem filter_lt (p q : Nat → Bool) : ∀ (l : List Nat) (_ : ∀ x ∈ l, p x = true → q x = true) (a : Nat) (_ : a ∈ l) (_ : p a = false) (_ : q a = true), (l.filter p).length < (l.filter q).length
  | [], _, a, ha, _, _ => by simp at ha
  | b :: l, h, a, ha, h1, h2 => by
    have hle : ∀ (l : List Nat), (∀ x ∈ l, p x = true → q x = true) → (l.filter p).length ≤ (l.filter q).length := by
      intro l
      induction l with
      | nil => intro _; simp
      | cons c l ih =>
        intro hl
        have h3 := ih (fun x hx => hl x (List.mem_cons_of_mem _ hx))
        cases hp : p c with
        | true => rw [List.filter_cons_of_pos hp, List.filter_cons_of_pos (hl c List.mem_cons_self hp)]; simpa using h3
        | false =>
          rw [List.filter_cons_of_neg (by simp [hp])]
          cases hq : q c with
          | true => rw [List.filter_cons_of_pos hq]; simp only [List.length_cons]; omega
          | false => rw [List.filter_cons_of_neg (by simp [hq])]; exact h3
    rcases List.mem_cons.1 ha with rfl | ha
    · rw [List.filter_cons_of_neg (by simp [h1]), List.filter_cons_of_pos h2]
      have := hle l (fun x hx => h x (List.mem_cons_of_mem _ hx))
      simp only [List.length_cons]; omega
    · have h3 := filter_lt p q l (fun x hx => h x (List.mem_cons_of_mem _ hx)) a ha h1 h2
      cases hp : p b with
      | true => rw [List.filter_cons_of_pos hp, List.filter_cons_of_pos (h b List.mem_cons_self hp)]; simpa using h3
      | false =>
        rw [List.filter_cons_of_neg (by simp [hp])]
        cases hq : q b with
        | true => rw [List.filter_cons_of_pos hq]; simp only [List.length_cons]; omega
        | false => rw [List.filter_cons_of_neg (by simp [hq])]; exact h3
open Classical in
/-- How many nodes tuples reach from a node. -/
noncomputable def rk (ns : List Nd) (t : Int) : Nat := ((List.range ns.length).filter (fun x : Nat => decide (Wy tupB ns t (x : Int)))).length
theorem rk_le (ns : List Nd) (t : Int) : rk ns t ≤ ns.length := by
  unfold rk
  exact Nat.le_trans (List.length_filter_le _ _) (by simp)
theorem rk_lt {ns : List Nd} {t k : Int} (h0 : 0 ≤ k) (h1 : k < ns.length) (hm : k ∈ (atN ns t).kids) (hk : tupB (atN ns k) = true) (hac : ¬ Wy tupB ns k k) : rk ns k < rk ns t := by
  obtain ⟨j, rfl⟩ := Int.eq_ofNat_of_zero_le h0
  unfold rk
  refine filter_lt _ _ _ (fun x _ hx => ?_) j (by simpa using h1) (by simpa using hac) ?_
  · simp only [decide_eq_true_eq] at hx ⊢
    exact Wy.trans hm hk hx
  · simp only [decide_eq_true_eq]
    exact .one hm
theorem rk_pos {ns : List Nd} {t k : Int} (h0 : 0 ≤ k) (h1 : k < ns.length) (hm : k ∈ (atN ns t).kids) : 0 < rk ns t := by
  obtain ⟨j, rfl⟩ := Int.eq_ofNat_of_zero_le h0
  unfold rk
  rw [List.length_pos_iff_exists_mem]
  exact ⟨j, List.mem_filter.2 ⟨by simpa using h1, by simpa using Wy.one hm⟩⟩
noncomputable def er (ns : List Nd) (t : Int) : Nat := if tupB (atN ns t) = true then rk ns t else 0
theorem er_le {ns : List Nd} {root : Int} (h : VG ns root) (t : Int) : er ns t ≤ 12 := by
  unfold er
  have := rk_le ns t
  have := h.hi
  split <;> omega
theorem er_kid {ns : List Nd} {root : Int} (h : VG ns root) {t k : Int} (h0 : 0 ≤ t) (h1 : t < ns.length) (ht : tupB (atN ns t) = true) (hm : k ∈ (atN ns t).kids) : er ns k + 1 ≤ er ns t := by
  have hk := (h.kids h0 h1).2 k hm
  have e : er ns t = rk ns t := by unfold er; rw [if_pos ht]
  rw [e]
  unfold er
  split
  · rename_i hkt
    obtain ⟨j, rfl⟩ := Int.eq_ofNat_of_zero_le hk.1
    have := rk_lt hk.1 hk.2 hm hkt (h.ac j (by omega) hkt)
    omega
  · have := rk_pos hk.1 hk.2 hm
    omega
/-! ### the writer's memo -/
def unm (m : List Int) : Nat := (m.filter (fun x => decide (x < 0))).length
/-- What is in the memo stays in it. -/
def MLe (m m' : List Int) : Prop := m'.length = m.length ∧ ∀ i : Nat, 0 ≤ m.getD i 0 → 0 ≤ m'.getD i 0
theorem MLe.rf (m : List Int) : MLe m m := ⟨rfl, fun _ h => h⟩
theorem MLe.trans {a b c : List Int} (h : MLe a b) (k : MLe b c) : MLe a c := ⟨k.1.trans h.1, fun i hi => k.2 i (h.2 i hi)⟩
theorem unm_cons (x : Int) (m : List Int) : unm (x :: m) = (if x < 0 then 1 else 0) + unm m := by
  unfold unm
  by_cases h : x < 0
  · rw [List.filter_cons_of_pos (by simpa using h), if_pos h]; simp only [List.length_cons]; omega
  · rw [List.filter_cons_of_neg (by simpa using h), if_neg h]; omega
theorem unm_le : ∀ {m m' : List Int}, MLe m m' → unm m' ≤ unm m
  | [], [], _ => Nat.le_refl _
  | [], _ :: _, h => by have := h.1; simp at this
  | _ :: _, [], h => by have := h.1; simp at this
  | x :: m, y :: m', h => by
    have h1 : unm m' ≤ unm m := unm_le ⟨by simpa using h.1, fun i hi => by have := h.2 (i + 1); simpa using this (by simpa using hi)⟩
    have h2 := h.2 0
    simp only [List.getD_cons_zero] at h2
    rw [unm_cons, unm_cons]
    split <;> split <;> omega
theorem unm_lt : ∀ {m m' : List Int} (_ : MLe m m') (i : Nat) (_ : m.getD i 0 < 0) (_ : 0 ≤ m'.getD i 0), unm m' + 1 ≤ unm m
  | [], _, _, i, hi, _ => by simp at hi
  | _ :: _, [], h, _, _, _ => by have := h.1; simp at this
  | x :: m, y :: m', h, i, hi, hi' => by
    have hm : MLe m m' := ⟨by simpa using h.1, fun i hi => by have := h.2 (i + 1); simpa using this (by simpa using hi)⟩
    rw [unm_cons, unm_cons]
    cases i with
    | zero =>
      simp only [List.getD_cons_zero] at hi hi'
      have := unm_le hm
      rw [if_pos hi, if_neg (by omega)]; omega
    | succ i =>
      simp only [List.getD_cons_succ] at hi hi'
      have := unm_lt hm i hi hi'
      have h2 := h.2 0
      simp only [List.getD_cons_zero] at h2
      split <;> split <;> omega
theorem unm_all (m : List Int) : unm m ≤ m.length := List.length_filter_le _ _
theorem mle_set (m : List Int) (i : Nat) (z : Int) (h : 0 ≤ z) : MLe m (m.set i z) := by
  refine ⟨by simp, fun j hj => ?_⟩
  rw [List.getD_eq_getElem?_getD, List.getElem?_set]
  rw [List.getD_eq_getElem?_getD] at hj
  split
  · split
    · simpa using h
    · simp
  · exact hj
theorem unm_set {m : List Int} {i : Nat} {z : Int} (h : 0 ≤ z) (hi : m.getD i 0 < 0) : unm (m.set i z) + 1 ≤ unm m := by
  have hl : i < m.length := by
    rcases Nat.lt_or_ge i m.length with h1 | h1
    · exact h1
    · rw [List.getD_eq_getElem?_getD, List.getElem?_eq_none h1] at hi
      simp at hi
  refine unm_lt (mle_set m i z h) i hi ?_
  rw [List.getD_eq_getElem?_getD, List.getElem?_set, if_pos rfl, if_pos hl]
  simpa using h
/-- How much is written: n orders, the memo m; then n', m'. -/
def Cost (r : Nat) (x : Nat) (n : Nat) (m : List Int) (n' : Nat) (m' : List Int) : Prop := MLe m m' ∧ n' + (2030 + 14 * r) * unm m' ≤ n + x + (2030 + 14 * r) * unm m
theorem Cost.rf (r n : Nat) (m : List Int) : Cost r 0 n m n m := ⟨.rf _, by omega⟩
theorem Cost.trans {r x y n n1 n2 : Nat} {m m1 m2 : List Int} (h : Cost r x n m n1 m1) (k : Cost r y n1 m1 n2 m2) : Cost r (x + y) n m n2 m2 := ⟨h.1.trans k.1, by have := h.2; have := k.2; omega⟩
theorem Cost.more {r x y n n1 : Nat} {m m1 : List Int} (h : Cost r x n m n1 m1) (hy : x ≤ y) : Cost r y n m n1 m1 := ⟨h.1, by have := h.2; omega⟩
theorem Cost.ops {r x n n1 : Nat} {m m1 : List Int} (h : Cost r x n m n1 m1) (k : Nat) : Cost r (x + k) n m (n1 + k) m1 := ⟨h.1, by have := h.2; omega⟩
/-- At a greater rank. -/
theorem Cost.rank {r r' x n n1 : Nat} {m m1 : List Int} (h : Cost r x n m n1 m1) (hr : r ≤ r') : Cost r' x n m n1 m1 := by
  refine ⟨h.1, ?_⟩
  have h1 := h.2
  have h2 := unm_le h.1
  obtain ⟨d, hd⟩ := Nat.exists_eq_add_of_le h2
  obtain ⟨c, hc⟩ := Nat.exists_eq_add_of_le hr
  rw [hd] at h1 ⊢
  rw [hc]
  generalize unm m1 = u at *
  have e1 : (2030 + 14 * (r + c)) * u = (2030 + 14 * r) * u + 14 * c * u := by rw [← Nat.add_mul]; congr 1; omega
  have e2 : (2030 + 14 * (r + c)) * (u + d) = (2030 + 14 * r) * (u + d) + 14 * c * (u + d) := by rw [← Nat.add_mul]; congr 1; omega
  have e3 : 14 * c * u ≤ 14 * c * (u + d) := Nat.mul_le_mul_left _ (Nat.le_add_right _ _)
  omega
/-- A text. -/
theorem cost_put (r n : Nat) {m : List Int} {i : Nat} {z : Int} (h : 0 ≤ z) (hi : m.getD i 0 < 0) (k : Nat) (hk : k ≤ 2000) : Cost r 1 n m (n + k) (m.set i z) := by
  have h1 := unm_set h hi
  refine ⟨mle_set m i z h, ?_⟩
  have h2 : (2030 + 14 * r) * (unm (m.set i z) + 1) ≤ (2030 + 14 * r) * unm m := Nat.mul_le_mul_left _ h1
  rw [Nat.mul_add] at h2
  omega
/-- A tuple whose kids were written: its own place is filled by then, or now. -/
theorem cost_tup {r n n1 : Nat} {m m1 : List Int} (h : Cost r 7 n m n1 m1) (hu : unm m1 + 1 ≤ unm m) (k : Nat) (hk : k ≤ 3) : Cost (r + 1) 1 n m (n1 + k) m1 := by
  refine ⟨h.1, ?_⟩
  have h1 := h.2
  have e1 : (2030 + 14 * (r + 1)) * unm m1 = (2030 + 14 * r) * unm m1 + 14 * unm m1 := by rw [← Nat.add_mul]; congr 1
  have e2 : (2030 + 14 * (r + 1)) * unm m = (2030 + 14 * r) * unm m + 14 * unm m := by rw [← Nat.add_mul]; congr 1
  omega
/-- What has kids of any rank. -/
theorem cost_fill {n n1 : Nat} {m m1 m2 : List Int} {i : Nat} {z : Int} (hz : 0 ≤ z) (hi : m.getD i 0 < 0) (hm : m1 = m.set i z) (hl : m.length ≤ 12) (h : Cost 12 14 n m1 n1 m2) : Cost 0 1 n m n1 m2 := by
  subst hm
  have h0 := unm_set hz hi
  refine ⟨(mle_set m i z hz).trans h.1, ?_⟩
  have h1 := h.2
  have h2 := unm_le h.1
  have h3 := unm_all m
  omega
end Go.Proofs.Ytgenllcfpjgklaa.P
