/- SafeRun and ValidRules in plain Lean. -/
import Derived.Test.YtcodbpjaamggeaaPt
set_option linter.unusedVariables false
set_option linter.unusedSimpArgs false
namespace Go.Proofs.Ytcodbpjaamggeaa.P

structure Rl where
  steps : Int
  nodes : Int
  deep : Int
  cls : List Int
/-- Whether place k of the classes is in range and new. -/
def ok1 (l : List Int) (k : Nat) : Bool := decide (0 ≤ l.getD k 0 ∧ l.getD k 0 ≤ 9) && !(l.take k).contains (l.getD k 0)
def okC (l : List Int) : Nat → Bool
  | 0 => true
  | k + 1 => okC l k && ok1 l k
theorem okC_stop (l : List Int) (k : Nat) (h : ok1 l k = false) : ∀ n, k < n → okC l n = false
  | 0, hn => by omega
  | n + 1, hn => by
    rcases Nat.lt_or_ge k n with h1 | h1
    · simp [okC, okC_stop l k h n h1]
    · have : k = n := by omega
      subst this
      simp [okC, h]
def rng (n hi : Int) : Bool := decide (0 ≤ n ∧ n ≤ hi)
def vRules (r : Rl) : Bool := okC r.cls r.cls.length && (rng r.steps 300 && rng r.nodes 300 && rng r.deep 300)
/-- Which rule is broken by an order that was done, 0 if none. -/
def why (r : Rl) (o : Opr) (nn ns : Nat) (done : Int) : Int :=
  if r.steps < done then 2 else if o.code = 13 ∧ r.cls.contains o.arg = false then 3 else if r.nodes < nn then 4 else if r.deep < ns then 5 else 0
def safeP (r : Rl) : Mc → Nat → List Opr → Nat × Int
  | m, i, [] => (i, if m.done = true then 0 else 6)
  | m, i, o :: l => match stepP m o with
    | none => (i, 1)
    | some m' => if why r o m'.nodes.length m'.stack.length (i + 1) = 0 then safeP r m' (i + 1) l else (i, why r o m'.nodes.length m'.stack.length (i + 1))
def safeR (ops : List Opr) (r : Rl) : Int × Int := if vOps ops = true ∧ vRules r = true then (((safeP r newM 0 ops).1 : Int), (safeP r newM 0 ops).2) else (-1, -1)
/-- What the loops keep. -/
structure SafeAt (r : Rl) (ops : List Opr) (k : Nat) (m : Mc) : Prop where
  eq : safeP r newM 0 ops = safeP r m k (ops.drop k)
  ok : okM (301 * k) m
  kk : okK m
theorem SafeAt.new (r : Rl) (ops : List Opr) : SafeAt r ops 0 newM := ⟨rfl, okM_new, okK_new⟩
theorem SafeAt.bad {r ops k m} (h : SafeAt r ops k m) (hk : k < ops.length) (hs : stepP m ops[k] = none) : safeP r newM 0 ops = (k, 1) := by
  rw [h.eq, List.drop_eq_getElem_cons hk]
  simp only [safeP, hs]
theorem SafeAt.stop {r ops k m m'} (h : SafeAt r ops k m) (hk : k < ops.length) (hs : stepP m ops[k] = some m') (hw : why r ops[k] m'.nodes.length m'.stack.length (k + 1) ≠ 0) : safeP r newM 0 ops = (k, why r ops[k] m'.nodes.length m'.stack.length (k + 1)) := by
  rw [h.eq, List.drop_eq_getElem_cons hk]
  simp only [safeP, hs, if_neg hw]
theorem SafeAt.next {r ops k m m'} (h : SafeAt r ops k m) (hk : k < ops.length) (ho : okO ops[k] = true) (hs : stepP m ops[k] = some m') (hw : why r ops[k] m'.nodes.length m'.stack.length (k + 1) = 0) : SafeAt r ops (k + 1) m' := by
  refine ⟨?_, ?_, h.kk.step _ ho hs⟩
  · rw [h.eq, List.drop_eq_getElem_cons hk]
    simp only [safeP, hs, if_pos hw]
  · rw [show 301 * (k + 1) = 301 * k + 301 by omega]; exact okM_step h.ok ho hs
theorem SafeAt.done {r ops k m} (h : SafeAt r ops k m) (hk : ops.length ≤ k) (hk2 : k ≤ ops.length) : safeP r newM 0 ops = (ops.length, if m.done = true then 0 else 6) := by
  rw [h.eq, List.drop_eq_nil_of_le hk, safeP]
  rw [Nat.le_antisymm hk2 hk]
end Go.Proofs.Ytcodbpjaamggeaa.P
