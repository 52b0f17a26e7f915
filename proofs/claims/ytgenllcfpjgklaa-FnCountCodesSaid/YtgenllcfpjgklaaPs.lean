/- The machine as its reference sees it where only kinds are looked at: plain Lean. -/
import Derived.Test.YtgenllcfpjgklaaPm
set_option linter.unusedVariables false
set_option linter.unusedSimpArgs false
namespace Go.Proofs.Ytgenllcfpjgklaa.P

structure Sh where
  kinds : List Int
  full : List Bool
  stack : List Int
  memo : List Int
  done : Bool
deriving DecidableEq

def newK (c : Int) : Int := if c = 0 then 0 else if c = 1 then 1 else if c = 4 then 2 else if c = 7 then 3 else if c = 10 then 4 else if c = 13 then 5 else -1
def atS (s : Sh) (d : Nat) : Int := if d < s.stack.length then (if st s.stack d < 0 then -1 else s.kinds.getD (st s.stack d).toNat 0) else -1
def pushS (s : Sh) (k : Int) : Sh := { s with kinds := s.kinds ++ [k], full := s.full ++ [false], stack := s.stack ++ [(s.kinds.length : Int)] }
def cutS (s : Sh) (n : Nat) : Sh := { s with stack := s.stack.take (s.stack.length - n) }
def keyK (k : Int) : Bool := k == 0 || k == 1
def allK (kinds : List Int) : List Int → Bool
  | k :: _ :: r => keyK (kinds.getD k.toNat 0) && allK kinds r
  | [k] => keyK (kinds.getD k.toNat 0)
  | [] => true
def markS (s : Sh) (c : Int) : Option Sh :=
  if topN s.stack = s.stack.length then none else
  if c = 3 then some (pushS (cutS s (topN s.stack + 1)) 2) else
  if c = 9 then (if atS (cutS s (topN s.stack + 1)) 0 = 3 then some (cutS s (topN s.stack + 1)) else none) else
  if c = 12 then (if allK s.kinds (s.stack.drop (s.stack.length - topN s.stack)) = true ∧ atS (cutS s (topN s.stack + 1)) 0 = 4 ∧ topN s.stack % 2 = 0 then some (cutS s (topN s.stack + 1)) else none) else
  some (cutS s (topN s.stack + 1))
def takeS (s : Sh) (o : Opr) : Option Sh :=
  if atS s 0 < 0 then none else
  if o.code = 5 then some (pushS (cutS s 1) 2) else
  if o.code = 6 then (if atS s 1 < 0 then none else some (pushS (cutS s 2) 2)) else
  if o.code = 8 then (if atS s 1 = 3 then some (cutS s 1) else none) else
  if o.code = 11 then (if keyK (atS s 1) = true ∧ atS s 2 = 4 then some (cutS s 2) else none) else
  if o.code = 14 then (if atS s 1 = 5 ∧ s.full.getD (st s.stack 1).toNat false = false then some { cutS s 1 with full := s.full.set (st s.stack 1).toNat true } else none) else
  if o.code = 15 then some { s with memo := s.memo.set o.arg.toNat (st s.stack 0) } else
  if o.code = 19 then (if s.stack.length = 1 then some { s with done := true } else none) else
  some (cutS s 1)
def rawS (s : Sh) (o : Opr) : Option Sh :=
  if 0 ≤ newK o.code then some (pushS s (newK o.code)) else
  if o.code = 2 then some { s with stack := s.stack ++ [-1] } else
  if o.code = 16 then (if s.memo.getD o.arg.toNat 0 < 0 then none else some { s with stack := s.stack ++ [s.memo.getD o.arg.toNat 0] }) else
  if o.code = 3 ∨ o.code = 9 ∨ o.code = 12 ∨ o.code = 18 then markS s o.code else takeS s o
def fitS (r : Option Sh) : Option Sh := match r with
  | none => none
  | some s => if s.kinds.length ≤ 300 ∧ s.stack.length ≤ 300 then some s else none
def stepS (s : Sh) (o : Opr) : Option Sh := if s.done then none else fitS (rawS s o)
def newS : Sh := ⟨[], [], [], List.replicate 20 (-1), false⟩
def runS (s : Sh) : List Opr → Sh × Nat
  | [] => (s, 0)
  | o :: r => match stepS s o with
    | none => (s, 0)
    | some s' => let q := runS s' r; (q.1, q.2 + 1)

structure okS (s : Sh) : Prop where
  kl : s.kinds.length ≤ 300
  fl : s.full.length = s.kinds.length
  sl : s.stack.length ≤ 300
  ml : s.memo.length = 20
  si : ∀ x ∈ s.stack, -1 ≤ x ∧ x < s.kinds.length
  mi : ∀ x ∈ s.memo, -1 ≤ x ∧ x < s.kinds.length
  kk : ∀ x ∈ s.kinds, 0 ≤ x ∧ x ≤ 5
/-- The same but for the sizes. -/
structure okR (s : Sh) : Prop where
  kl : s.kinds.length ≤ 301
  fl : s.full.length = s.kinds.length
  sl : s.stack.length ≤ 301
  ml : s.memo.length = 20
  si : ∀ x ∈ s.stack, -1 ≤ x ∧ x < s.kinds.length
  mi : ∀ x ∈ s.memo, -1 ≤ x ∧ x < s.kinds.length
  kk : ∀ x ∈ s.kinds, 0 ≤ x ∧ x ≤ 5

theorem okS.raw {s : Sh} (h : okS s) : okR s := ⟨by have := h.kl; omega, h.fl, by have := h.sl; omega, h.ml, h.si, h.mi, h.kk⟩
theorem okS.push {s : Sh} (h : okS s) (k : Int) (hk : 0 ≤ k ∧ k ≤ 5) : okR (pushS s k) := by
  refine ⟨by have := h.kl; simp [pushS]; omega, by simp [pushS, h.fl], by have := h.sl; simp [pushS]; omega, h.ml, fun x hx => ?_, fun x hx => ?_, fun x hx => ?_⟩
  · simp only [pushS, List.length_append, List.length_singleton]
    rcases List.mem_append.1 hx with hx | hx
    · have := h.si x hx; omega
    · rw [List.mem_singleton] at hx; subst hx; omega
  · simp only [pushS, List.length_append, List.length_singleton]
    have := h.mi x hx; omega
  · rcases List.mem_append.1 hx with hx | hx
    · exact h.kk x hx
    · rw [List.mem_singleton] at hx; subst hx; exact hk
theorem okS.cut {s : Sh} (h : okS s) (n : Nat) : okS (cutS s n) :=
  ⟨h.kl, h.fl, by have := h.sl; simp [cutS]; omega, h.ml, fun x hx => h.si x (List.mem_of_mem_take hx), h.mi, h.kk⟩
theorem newK_rng (c : Int) : newK c ≤ 5 := by
  unfold newK; (repeat' split) <;> omega
theorem atS_nonneg {s : Sh} {d : Nat} (h : 0 ≤ atS s d) : d < s.stack.length ∧ 0 ≤ st s.stack d := by
  unfold atS at h
  split at h
  · split at h
    · omega
    · exact ⟨by assumption, by omega⟩
  · omega
theorem st_mem (s : List Int) (d : Nat) (h : d < s.length) : st s d ∈ s := by
  rw [st_at _ _ h]; exact List.getElem_mem _
theorem okS.mark {s r : Sh} (h : okS s) (c : Int) (hr : markS s c = some r) : okR r := by
  unfold markS at hr
  split at hr
  · exact nomatch hr
  split at hr
  · injection hr with hr; subst hr; exact (h.cut _).push 2 (by omega)
  split at hr
  · split at hr
    · injection hr with hr; subst hr; exact (h.cut _).raw
    · exact nomatch hr
  split at hr
  · split at hr
    · injection hr with hr; subst hr; exact (h.cut _).raw
    · exact nomatch hr
  · injection hr with hr; subst hr; exact (h.cut _).raw
theorem okS.take {s r : Sh} (h : okS s) (o : Opr) (hr : takeS s o = some r) : okR r := by
  unfold takeS at hr
  split at hr
  · exact nomatch hr
  rename_i h0
  have h1 := atS_nonneg (s := s) (d := 0) (by omega)
  split at hr
  · injection hr with hr; subst hr; exact (h.cut _).push 2 (by omega)
  split at hr
  · split at hr
    · exact nomatch hr
    · injection hr with hr; subst hr; exact (h.cut _).push 2 (by omega)
  split at hr
  · split at hr
    · injection hr with hr; subst hr; exact (h.cut _).raw
    · exact nomatch hr
  split at hr
  · split at hr
    · injection hr with hr; subst hr; exact (h.cut _).raw
    · exact nomatch hr
  split at hr
  · split at hr
    · injection hr with hr; subst hr
      have := (h.cut 1).raw
      exact ⟨this.kl, by simpa [cutS] using h.fl, this.sl, this.ml, this.si, this.mi, this.kk⟩
    · exact nomatch hr
  split at hr
  · injection hr with hr; subst hr
    have := h.raw
    refine ⟨this.kl, this.fl, this.sl, by simpa using this.ml, this.si, fun x hx => ?_, this.kk⟩
    rcases List.mem_or_eq_of_mem_set hx with hx | rfl
    · exact h.mi x hx
    · exact h.si _ (st_mem _ _ h1.1)
  split at hr
  · split at hr
    · injection hr with hr; subst hr; exact ⟨h.raw.kl, h.fl, h.raw.sl, h.ml, h.si, h.mi, h.kk⟩
    · exact nomatch hr
  · injection hr with hr; subst hr; exact (h.cut _).raw
theorem okS.rawS {s r : Sh} (h : okS s) (o : Opr) (ho : okO o = true) (hr : rawS s o = some r) : okR r := by
  unfold P.rawS at hr
  split at hr
  · injection hr with hr; subst hr; exact h.push _ ⟨by assumption, newK_rng _⟩
  split at hr
  · injection hr with hr; subst hr
    refine ⟨h.raw.kl, h.fl, by have := h.sl; simp; omega, h.ml, fun x hx => ?_, h.mi, h.kk⟩
    rcases List.mem_append.1 hx with hx | hx
    · exact h.si x hx
    · rw [List.mem_singleton] at hx; subst hx; show (-1 : Int) ≤ -1 ∧ (-1 : Int) < (s.kinds.length : Int); omega
  split at hr
  · split at hr
    · exact nomatch hr
    · injection hr with hr; subst hr
      rename_i h16 hm
      refine ⟨h.raw.kl, h.fl, by have := h.sl; simp; omega, h.ml, fun x hx => ?_, h.mi, h.kk⟩
      rcases List.mem_append.1 hx with hx | hx
      · exact h.si x hx
      · rw [List.mem_singleton] at hx; subst hx
        have ho := of_decide_eq_true ho
        obtain ⟨h1, h2, h3, h4⟩ := ho
        rw [h16] at h4
        have h4 : o.arg ≤ 19 := h4
        rw [List.getD_eq_getElem?_getD, List.getElem?_eq_getElem (by rw [h.ml]; omega)]
        exact h.mi _ (List.getElem_mem _)
  split at hr
  · exact h.mark _ hr
  · exact h.take _ hr
theorem okS.step {s r : Sh} (h : okS s) (o : Opr) (ho : okO o = true) (hr : stepS s o = some r) : okS r := by
  unfold P.stepS at hr
  split at hr
  · exact nomatch hr
  · unfold fitS at hr
    split at hr
    · exact nomatch hr
    · rename_i s1 h1
      split at hr
      · rename_i h2
        injection hr with hr; subst hr
        have := h.rawS o ho h1
        exact ⟨h2.1, this.fl, h2.2, this.ml, this.si, this.mi, this.kk⟩
      · exact nomatch hr
theorem okS_new : okS newS := ⟨by simp [newS], rfl, by simp [newS], by simp [newS], by simp [newS], fun x hx => by
  have := List.eq_of_mem_replicate hx
  subst this
  simp [newS], by simp [newS]⟩

/-- The sizes of shapes. -/
structure sizS (s : Sh) : Prop where
  k : s.kinds.length ≤ 1000000
  f : s.full.length ≤ 1000000
  t : s.stack.length ≤ 1000000
  m : s.memo.length ≤ 1000000
theorem okS.siz {s : Sh} (h : okS s) : sizS s := ⟨by have := h.kl; omega, by have := h.kl; have := h.fl; omega, by have := h.sl; omega, by have := h.ml; omega⟩
theorem okS.lt {s : Sh} (h : okS s) : ∀ x ∈ s.stack, x < s.kinds.length := fun x hx => (h.si x hx).2
theorem code_cases {o : Opr} (ho : okO o = true) : ∃ n : Nat, n ≤ 19 ∧ o.code = n := by
  have ho := of_decide_eq_true ho
  obtain ⟨h1, h2, _⟩ := ho
  obtain ⟨n, hn⟩ := Int.eq_ofNat_of_zero_le h1
  exact ⟨n, by omega, hn⟩
end Go.Proofs.Ytgenllcfpjgklaa.P
