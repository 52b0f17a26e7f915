/- The machine in plain Lean: no Go, no memory. -/
set_option linter.unusedVariables false
set_option linter.unusedSimpArgs false
namespace Go.Proofs.Ytgenllcfpjgklaa.P

structure Nd where
  kind : Int
  val : Int
  kids : List Int
deriving DecidableEq
instance : Inhabited Nd := ⟨⟨0, 0, []⟩⟩
structure Opr where
  code : Int
  arg : Int
deriving DecidableEq
instance : Inhabited Opr := ⟨⟨0, 0⟩⟩
structure Mc where
  nodes : List Nd
  stack : List Int
  memo : List Int
  done : Bool
deriving DecidableEq

def mostA (c : Int) : Int := if c = 0 then 999 else if c = 1 then 9 else if c = 13 then 9 else if c = 15 then 19 else if c = 16 then 19 else 0
def okO (o : Opr) : Bool := decide (0 ≤ o.code ∧ o.code ≤ 19 ∧ 0 ≤ o.arg ∧ o.arg ≤ mostA o.code)
def vOps (l : List Opr) : Bool := l.all okO && decide (l.length ≤ 300)

/-- How many nodes stand above the topmost mark. -/
def topN (s : List Int) : Nat := (s.reverse.takeWhile (fun x => decide (0 ≤ x))).length
theorem topN_le (s : List Int) : topN s ≤ s.length := by
  have := (List.takeWhile_sublist (fun x => decide ((0 : Int) ≤ x)) (l := s.reverse)).length_le
  simpa [topN] using this

theorem takeWhile_getElem {α : Type} (p : α → Bool) : ∀ (l : List α) (k : Nat) (h : k < (l.takeWhile p).length), ∃ h' : k < l.length, p l[k] = true
  | [], k, h => by simp at h
  | a :: l, k, h => by
    by_cases ha : p a = true
    · simp only [List.takeWhile_cons, ha, if_true] at h
      cases k with
      | zero => exact ⟨by simp, ha⟩
      | succ k =>
        obtain ⟨h1, h2⟩ := takeWhile_getElem p l k (by simpa using h)
        exact ⟨by simpa using h1, by simpa using h2⟩
    · simp only [List.takeWhile_cons, ha] at h
      simp at h
theorem takeWhile_stop {α : Type} (p : α → Bool) : ∀ (l : List α) (h : (l.takeWhile p).length < l.length), p l[(l.takeWhile p).length] = false
  | [], h => by simp at h
  | a :: l, h => by
    by_cases ha : p a = true
    · simp only [List.takeWhile_cons, ha, if_true] at h ⊢
      simpa using takeWhile_stop p l (by simpa using h)
    · simp only [List.takeWhile_cons, ha]
      simpa using ha
theorem topN_ge (s : List Int) (k : Nat) (h : k < topN s) : ∃ h' : k < s.length, 0 ≤ s[s.length - 1 - k] := by
  obtain ⟨h1, h2⟩ := takeWhile_getElem _ _ k h
  simp at h1 h2
  exact ⟨h1, h2⟩
theorem topN_stop (s : List Int) (h : topN s < s.length) : s[s.length - 1 - topN s] < 0 := by
  have := takeWhile_stop (fun x => decide ((0 : Int) ≤ x)) s.reverse (by simpa [topN] using h)
  simpa [topN] using this
/-- The walk's way to it. -/
theorem topN_step (s : List Int) (k : Nat) (hk : k ≤ topN s) (h : k < s.length) (h0 : 0 ≤ s[s.length - 1 - k]) : k + 1 ≤ topN s := by
  rcases Nat.lt_or_ge k (topN s) with h1 | h1
  · exact h1
  · have : k = topN s := Nat.le_antisymm hk h1
    subst this
    have := topN_stop s h
    omega
theorem topN_end (s : List Int) (k : Nat) (hk : k ≤ topN s) (_h : k < s.length) (h0 : s[s.length - 1 - k] < 0) : topN s = k := by
  rcases Nat.lt_or_ge k (topN s) with h1 | h1
  · obtain ⟨h2, h3⟩ := topN_ge s k h1
    omega
  · exact Nat.le_antisymm h1 hk

theorem all_step {α : Type} {p : α → Bool} {l : List α} {k : Nat} (hk : k < l.length) (h : (l.take k).all p = true) (hp : p l[k] = true) : (l.take (k + 1)).all p = true := by
  rw [List.take_succ_eq_append_getElem hk, List.all_append, h, List.all_cons, hp]; rfl
theorem all_stop {α : Type} {p : α → Bool} {l : List α} {k : Nat} (hk : k < l.length) (hp : p l[k] = false) : l.all p = false := by
  rw [List.all_eq_false]; exact ⟨l[k], List.getElem_mem hk, by simp [hp]⟩
theorem all_end {α : Type} {p : α → Bool} {l : List α} {k : Nat} (hk : l.length ≤ k) (h : (l.take k).all p = true) : l.all p = true := by
  rwa [List.take_of_length_le hk] at h

def nd (m : Mc) (i : Int) : Nd := m.nodes.getD i.toNat default
def st (s : List Int) (d : Nat) : Int := s.getD (s.length - 1 - d) 0

theorem st_at (s : List Int) (d : Nat) (h : d < s.length) : st s d = s[s.length - 1 - d] := by
  unfold st
  rw [List.getD_eq_getElem?_getD, List.getElem?_eq_getElem (by omega)]; rfl

def push (m : Mc) (i : Int) : Option Mc := if m.stack.length + 1 ≤ 300 then some { m with stack := m.stack ++ [i] } else none
def mk (m : Mc) (kind val : Int) (kids : List Int) : Option Mc :=
  if m.nodes.length + 1 ≤ 300 then push { m with nodes := m.nodes ++ [⟨kind, val, kids⟩] } m.nodes.length else none
def drop (m : Mc) (n : Nat) : Mc := { m with stack := m.stack.take (m.stack.length - n) }
def setKids (m : Mc) (i : Int) (kids : List Int) : Mc := { m with nodes := m.nodes.set i.toNat ⟨(nd m i).kind, (nd m i).val, kids⟩ }

/-- The place of a key among kids, from place i on. -/
def findK (nodes : List Nd) (kids : List Int) (k v : Int) : Nat → Nat → Option Nat
  | 0, _ => none
  | f + 1, i => if i < kids.length then
      (let x := nodes.getD (kids.getD i 0).toNat default
       if x.kind = k ∧ x.val = v then some i else findK nodes kids k v f (i + 2)) else none
def findKey (nodes : List Nd) (kids : List Int) (k v : Int) : Option Nat := findK nodes kids k v (kids.length + 1) 0
def put1 (nodes : List Nd) (kids : List Int) (key val : Int) : List Int :=
  let x := nodes.getD key.toNat default
  match findKey nodes kids x.kind x.val with
  | some i => kids.set (i + 1) val
  | none => kids ++ [key, val]
def putAll (nodes : List Nd) : List Int → List Int → List Int
  | kids, k :: v :: r => putAll nodes (put1 nodes kids k v) r
  | kids, _ => kids
def goodK (nodes : List Nd) : List Int → Bool
  | k :: _ :: r => decide ((nodes.getD k.toNat default).kind ≤ 1) && goodK nodes r
  | [_] => false
  | [] => true

/-- All above the topmost mark, and the machine without it and the mark. -/
def above (m : Mc) : Option (Mc × List Int) :=
  if topN m.stack = m.stack.length then none else some (drop m (topN m.stack + 1), m.stack.drop (m.stack.length - topN m.stack))

/-- The topmost node, if it is of a kind. -/
def topK (m : Mc) (kind : Int) : Option Int :=
  if topN m.stack = 0 then none else if (nd m (st m.stack 0)).kind = kind then some (st m.stack 0) else none

def setP (m : Mc) (pairs : List Int) : Option Mc :=
  match topK m 4 with
  | none => none
  | some d => if pairs.length % 2 = 0 ∧ goodK m.nodes pairs = true then some (setKids m d (putAll m.nodes (nd m d).kids pairs)) else none

/-- An order, where the machine isn't done. -/
def doP (m : Mc) (o : Opr) : Option Mc :=
  let n := topN m.stack
  if o.code = 0 then mk m 0 o.arg [] else
  if o.code = 1 then mk m 1 o.arg [] else
  if o.code = 13 then mk m 5 o.arg [] else
  if o.code = 4 then mk m 2 0 [] else
  if o.code = 7 then mk m 3 0 [] else
  if o.code = 10 then mk m 4 0 [] else
  if o.code = 2 then push m (-1) else
  if o.code = 3 then (match above m with | none => none | some (m', kids) => mk m' 2 0 kids) else
  if o.code = 5 then (if 1 ≤ n then mk (drop m 1) 2 0 [st m.stack 0] else none) else
  if o.code = 6 then (if 2 ≤ n then mk (drop m 2) 2 0 [st m.stack 1, st m.stack 0] else none) else
  if o.code = 8 then (if 2 ≤ n then (match topK (drop m 1) 3 with | none => none | some d => some (setKids (drop m 1) d ((nd m d).kids ++ [st m.stack 0]))) else none) else
  if o.code = 9 then (match above m with | none => none | some (m', kids) => match topK m' 3 with | none => none | some d => some (setKids m' d ((nd m' d).kids ++ kids))) else
  if o.code = 11 then (if 3 ≤ n then setP (drop m 2) [st m.stack 1, st m.stack 0] else none) else
  if o.code = 12 then (match above m with | none => none | some (m', pairs) => setP m' pairs) else
  if o.code = 14 then (if 2 ≤ n then (match topK (drop m 1) 5 with | none => none | some d => if (nd m d).kids = [] then some (setKids (drop m 1) d [st m.stack 0]) else none) else none) else
  if o.code = 15 then (if 1 ≤ n then some { m with memo := m.memo.set o.arg.toNat (st m.stack 0) } else none) else
  if o.code = 16 then (if 0 ≤ m.memo.getD o.arg.toNat 0 then push m (m.memo.getD o.arg.toNat 0) else none) else
  if o.code = 17 then (if 1 ≤ n then some (drop m 1) else none) else
  if o.code = 18 then (match above m with | none => none | some (m', _) => some m') else
  if m.stack.length = 1 ∧ n = 1 then some { m with done := true } else none
def stepP (m : Mc) (o : Opr) : Option Mc := if m.done then none else doP m o
def newM : Mc := ⟨[], [], List.replicate 20 (-1), false⟩
def runP (m : Mc) : List Opr → Mc × Nat
  | [] => (m, 0)
  | o :: r => match stepP m o with
    | none => (m, 0)
    | some m' => let q := runP m' r; (q.1, q.2 + 1)
/-- What stands in a machine. -/
structure okM (B : Nat) (m : Mc) : Prop where
  nl : m.nodes.length ≤ 300
  sl : m.stack.length ≤ 300
  ml : m.memo.length = 20
  si : ∀ x ∈ m.stack, -1 ≤ x ∧ x < m.nodes.length
  mi : ∀ x ∈ m.memo, -1 ≤ x ∧ x < m.nodes.length
  ki : ∀ n ∈ m.nodes, n.kids.length ≤ B ∧ (∀ x ∈ n.kids, 0 ≤ x ∧ x < m.nodes.length) ∧ (n.kind = 4 → n.kids.length % 2 = 0)

theorem findK_lt (nodes : List Nd) (kids : List Int) (k v : Int) : ∀ (f i j : Nat), findK nodes kids k v f i = some j → j < kids.length ∧ j % 2 = i % 2
  | 0, i, j, h => nomatch h
  | f + 1, i, j, h => by
    unfold findK at h
    split at h
    · simp only at h
      split at h
      · injection h with h; subst h; exact ⟨by assumption, rfl⟩
      · have := findK_lt nodes kids k v f (i + 2) j h
        exact ⟨this.1, by omega⟩
    · exact nomatch h
theorem findKey_lt {nodes : List Nd} {kids : List Int} {k v : Int} {j : Nat} (h : findKey nodes kids k v = some j) (he : kids.length % 2 = 0) : j + 1 < kids.length := by
  have := findK_lt nodes kids k v _ _ _ h
  omega
/-- Kinds and values alone are looked at. -/
theorem findK_same {nodes nodes' : List Nd} (h : ∀ i : Nat, (nodes.getD i default).kind = (nodes'.getD i default).kind ∧ (nodes.getD i default).val = (nodes'.getD i default).val) (kids : List Int) (k v : Int) : ∀ (f i : Nat), findK nodes kids k v f i = findK nodes' kids k v f i
  | 0, _ => rfl
  | f + 1, i => by
    unfold findK
    simp only [(h _).1, (h _).2, findK_same h kids k v f (i + 2)]
theorem same_set (nodes : List Nd) (d : Nat) (kids : List Int) : ∀ i : Nat, ((nodes.set d ⟨(nodes.getD d default).kind, (nodes.getD d default).val, kids⟩).getD i default).kind = (nodes.getD i default).kind ∧ ((nodes.set d ⟨(nodes.getD d default).kind, (nodes.getD d default).val, kids⟩).getD i default).val = (nodes.getD i default).val := by
  intro i
  rw [List.getD_eq_getElem?_getD, List.getD_eq_getElem?_getD, List.getElem?_set]
  by_cases h : d = i
  · subst h
    by_cases h2 : d < nodes.length
    · simp [h2, List.getD_eq_getElem?_getD]
    · simp [h2]
  · simp [h]
theorem setKids_nodes (m : Mc) (d : Nat) (kids : List Int) : (setKids m d kids).nodes = m.nodes.set d ⟨(m.nodes.getD d default).kind, (m.nodes.getD d default).val, kids⟩ := rfl
theorem setKids_again (m : Mc) (d : Nat) (k1 k2 : List Int) (hd : d < m.nodes.length) : setKids (setKids m d k1) d k2 = setKids m d k2 := by
  unfold setKids nd
  simp [hd, List.getD_eq_getElem?_getD]
theorem setKids_nd (m : Mc) (d : Nat) (kids : List Int) (hd : d < m.nodes.length) : nd (setKids m d kids) d = ⟨(nd m d).kind, (nd m d).val, kids⟩ := by
  unfold setKids nd
  simp [hd, List.getD_eq_getElem?_getD]
theorem setKids_self (m : Mc) (d : Nat) (hd : d < m.nodes.length) : setKids m d (nd m d).kids = m := by
  unfold setKids nd
  obtain ⟨a, b, c, e⟩ := m
  simp only at hd
  simp only [Int.toNat_natCast, List.getD_eq_getElem?_getD, List.getElem?_eq_getElem hd, Option.getD_some, Mc.mk.injEq, and_self, and_true]
  exact List.set_getElem_self hd
theorem setKids_len (m : Mc) (d : Int) (kids : List Int) : (setKids m d kids).nodes.length = m.nodes.length := by simp [setKids]
theorem put1_same (nodes nodes' : List Nd) (h : ∀ i : Nat, (nodes.getD i default).kind = (nodes'.getD i default).kind ∧ (nodes.getD i default).val = (nodes'.getD i default).val) (kids : List Int) (a b : Int) : put1 nodes kids a b = put1 nodes' kids a b := by
  unfold put1 findKey
  simp only [(h _).1, (h _).2, findK_same h]
theorem put1_eq (nodes : List Nd) (kids : List Int) (a b : Int) : put1 nodes kids a b = (match findKey nodes kids (nodes.getD a.toNat default).kind (nodes.getD a.toNat default).val with | some i => kids.set (i + 1) b | none => kids ++ [a, b]) := rfl
theorem put1_len (nodes : List Nd) (kids : List Int) (a b : Int) : (put1 nodes kids a b).length ≤ kids.length + 2 ∧ (put1 nodes kids a b).length % 2 = kids.length % 2 := by
  rw [put1_eq]
  cases findKey nodes kids (nodes.getD a.toNat default).kind (nodes.getD a.toNat default).val <;> simp
theorem put1_mem (nodes : List Nd) (kids : List Int) (a b x : Int) (hx : x ∈ put1 nodes kids a b) : x ∈ kids ∨ x = a ∨ x = b := by
  rw [put1_eq] at hx
  cases h : findKey nodes kids (nodes.getD a.toNat default).kind (nodes.getD a.toNat default).val with
  | none => rw [h] at hx; simpa using hx
  | some i => rw [h] at hx; exact (List.mem_or_eq_of_mem_set hx).imp id .inr
theorem goodK_at (nodes : List Nd) (l : List Int) (i : Nat) (h : i + 1 < l.length) : goodK nodes (l.drop i) = (decide ((nodes.getD (l[i]'(by omega)).toNat default).kind ≤ 1) && goodK nodes (l.drop (i + 2))) := by
  rw [List.drop_eq_getElem_cons (by omega), List.drop_eq_getElem_cons (i := i + 1) h]; rfl
theorem putAll_at (nodes : List Nd) (kids l : List Int) (i : Nat) (h : i + 1 < l.length) : putAll nodes kids (l.drop i) = putAll nodes (put1 nodes kids (l[i]'(by omega)) l[i + 1]) (l.drop (i + 2)) := by
  rw [List.drop_eq_getElem_cons (by omega), List.drop_eq_getElem_cons (i := i + 1) h]; rfl
theorem top_ok {B : Nat} {m : Mc} (h : okM B m) (ht : 0 < topN m.stack) : ∃ x : Nat, st m.stack 0 = x ∧ x < m.nodes.length := by
  obtain ⟨h1, h2⟩ := topN_ge m.stack 0 ht
  have h3 := h.si _ (List.getElem_mem (l := m.stack) (n := m.stack.length - 1 - 0) (by omega))
  obtain ⟨x, hx⟩ := Int.eq_ofNat_of_zero_le h2
  exact ⟨x, by rw [st_at _ _ h1, hx], by omega⟩
theorem above_none {m : Mc} (h : topN m.stack = m.stack.length) : above m = none := by unfold above; rw [if_pos h]
theorem above_some {m : Mc} (h : topN m.stack ≠ m.stack.length) : above m = some (P.drop m (topN m.stack + 1), m.stack.drop (m.stack.length - topN m.stack)) := by unfold above; rw [if_neg h]
theorem okM.drop {B : Nat} {m : Mc} (h : okM B m) (n : Nat) : okM B (drop m n) :=
  ⟨h.nl, Nat.le_trans (by simp [P.drop]) h.sl, h.ml, fun x hx => h.si x (List.mem_of_mem_take hx), h.mi, h.ki⟩
/-- What is taken are nodes. -/
theorem okM.top {B : Nat} {m : Mc} (h : okM B m) (n : Nat) (hn : n ≤ topN m.stack) : ∀ x ∈ m.stack.drop (m.stack.length - n), 0 ≤ x ∧ x < m.nodes.length := by
  intro x hx
  refine ⟨?_, (h.si x (List.mem_of_mem_drop hx)).2⟩
  obtain ⟨k, hk, rfl⟩ := List.mem_iff_getElem.1 hx
  have hl := topN_le m.stack
  simp only [List.length_drop] at hk
  rw [List.getElem_drop]
  obtain ⟨h1, h2⟩ := topN_ge m.stack (n - 1 - k) (by omega)
  have : m.stack.length - 1 - (n - 1 - k) = m.stack.length - n + k := by omega
  simpa [this] using h2
theorem st_take (s : List Int) (n d : Nat) (h : d + n < s.length) : st (s.take (s.length - n)) d = st s (d + n) := by
  unfold st
  rw [List.length_take, List.getD_eq_getElem?_getD, List.getD_eq_getElem?_getD, List.getElem?_take, if_pos (by omega)]
  congr 2; omega
end Go.Proofs.Ytgenllcfpjgklaa.P
