/- ForbidClass in plain Lean: what is turned stays possible. -/
import Derived.Test.YtcodbpjaamggeaaPt
import Derived.Test.YtcodbpjaamggeaaCq
set_option linter.unusedVariables false
set_option linter.unusedSimpArgs false
namespace Go.Proofs.Ytcodbpjaamggeaa.P

def turnS (c : Int) (s : Sh) (o : Opr) : Opr :=
  if o.code = 13 ∧ o.arg = c then ⟨7, 0⟩ else if o.code = 14 ∧ atS s 1 = 3 then ⟨8, 0⟩ else o
def turnP (c : Int) (m : Mc) (o : Opr) : Opr :=
  if o.code = 13 ∧ o.arg = c then ⟨7, 0⟩ else if o.code = 14 ∧ (nd m (st m.stack 1)).kind = 3 then ⟨8, 0⟩ else o
/-- The turned orders, and the machine behind them. -/
def forb (c : Int) : Mc → List Opr → List Opr
  | _, [] => []
  | m, o :: r => turnP c m o :: forb c ((stepP m (turnP c m o)).getD m) r
def forbM (c : Int) : Mc → List Opr → Mc
  | m, [] => m
  | m, o :: r => forbM c ((stepP m (turnP c m o)).getD m) r
theorem forb_snoc (c : Int) : ∀ (l : List Opr) (m : Mc) (o : Opr), forb c m (l ++ [o]) = forb c m l ++ [turnP c (forbM c m l) o] ∧ forbM c m (l ++ [o]) = (stepP (forbM c m l) (turnP c (forbM c m l) o)).getD (forbM c m l)
  | [], m, o => ⟨rfl, rfl⟩
  | a :: l, m, o => by
    have := forb_snoc c l ((stepP m (turnP c m a)).getD m) o
    simp only [List.cons_append, forb, forbM, this.1, this.2, and_self]
theorem forb_len (c : Int) : ∀ (l : List Opr) (m : Mc), (forb c m l).length = l.length
  | [], _ => rfl
  | a :: l, m => by simp only [forb, List.length_cons, forb_len c l]
theorem turn_ok {c : Int} {m : Mc} {o : Opr} (h : okO o = true) : okO (turnP c m o) = true := by
  unfold turnP
  split
  · decide
  · split
    · decide
    · exact h

/-- Alike: some objects are lists. -/
structure Lk (s t : Sh) : Prop where
  tk : t.stack = s.stack
  me : t.memo = s.memo
  dn : t.done = s.done
  kl : t.kinds.length = s.kinds.length
  fl : t.full.length = s.full.length
  kk : ∀ i : Nat, (t.kinds.getD i 0 = s.kinds.getD i 0 ∧ t.full.getD i false = s.full.getD i false) ∨ (s.kinds.getD i 0 = 5 ∧ t.kinds.getD i 0 = 3)
theorem Lk.rf (s : Sh) : Lk s s := ⟨rfl, rfl, rfl, rfl, rfl, fun _ => .inl ⟨rfl, rfl⟩⟩
theorem Lk.at {s t : Sh} (h : Lk s t) (d : Nat) : atS t d = atS s d ∨ (atS s d = 5 ∧ atS t d = 3) := by
  unfold atS
  rw [h.tk]
  split
  · split
    · exact .inl rfl
    · rcases h.kk (st s.stack d).toNat with e | e
      · exact .inl e.1
      · exact .inr e
  · exact .inl rfl
theorem getD_snoc {α : Type} (l : List α) (x d : α) (i : Nat) : (l ++ [x]).getD i d = if i < l.length then l.getD i d else if i = l.length then x else d := by
  simp only [List.getD_eq_getElem?_getD, List.getElem?_append]
  split
  · rfl
  · split
    · rename_i h; subst h; simp
    · rw [List.getElem?_eq_none (by simp; omega)]; rfl
theorem Lk.push {s t : Sh} (h : Lk s t) (hf : s.full.length = s.kinds.length) (k k' : Int) (hk : k' = k ∨ (k = 5 ∧ k' = 3)) : Lk (pushS s k) (pushS t k') := by
  refine ⟨by simp [pushS, h.tk, h.kl], h.me, h.dn, by simp [pushS, h.kl], by simp [pushS, h.fl], fun i => ?_⟩
  have e1 := getD_snoc t.kinds k' 0 i
  have e2 := getD_snoc s.kinds k 0 i
  have e3 := getD_snoc t.full false false i
  have e4 := getD_snoc s.full false false i
  simp only [pushS]
  rw [e1, e2, e3, e4, h.kl, h.fl, hf]
  by_cases h1 : i < s.kinds.length
  · simp only [if_pos h1]; exact h.kk i
  · simp only [if_neg h1]
    by_cases h2 : i = s.kinds.length
    · simp only [if_pos h2]
      rcases hk with e | e
      · exact .inl ⟨e, trivial⟩
      · exact .inr e
    · simp only [if_neg h2]; exact .inl (by simp)
theorem Lk.cut {s t : Sh} (h : Lk s t) (n : Nat) : Lk (cutS s n) (cutS t n) := ⟨by simp [cutS, h.tk], h.me, h.dn, h.kl, h.fl, h.kk⟩
theorem Lk.stack {s t : Sh} (h : Lk s t) (x : Int) : Lk { s with stack := s.stack ++ [x] } { t with stack := t.stack ++ [x] } := ⟨by simp [h.tk], h.me, h.dn, h.kl, h.fl, h.kk⟩
theorem keyK_alike {a b : Int} (h : b = a ∨ (a = 5 ∧ b = 3)) : keyK b = keyK a := by
  rcases h with rfl | ⟨rfl, rfl⟩ <;> rfl
theorem Lk.all {s t : Sh} (h : Lk s t) : ∀ l : List Int, allK t.kinds l = allK s.kinds l
  | [] => rfl
  | [k] => by simp only [allK]; exact keyK_alike ((h.kk k.toNat).imp (·.1) id)
  | k :: _ :: r => by simp only [allK]; rw [h.all r, keyK_alike ((h.kk k.toNat).imp (·.1) id)]
theorem Lk.mark {s t r : Sh} (h : Lk s t) (hf : s.full.length = s.kinds.length) (c : Int) (hr : markS s c = some r) : ∃ r', markS t c = some r' ∧ Lk r r' := by
  unfold markS at hr ⊢
  rw [h.tk]
  have hc := h.cut (topN s.stack + 1)
  have ha := hc.at 0
  rw [h.all]
  split at hr
  · exact nomatch hr
  rename_i h0
  rw [if_neg h0]
  split at hr
  · rename_i h1
    injection hr with hr; subst hr
    rw [if_pos h1]
    exact ⟨_, rfl, hc.push hf 2 2 (.inl rfl)⟩
  rename_i h1
  rw [if_neg h1]
  split at hr
  · rename_i h2
    rw [if_pos h2]
    split at hr
    · rename_i h3
      injection hr with hr; subst hr
      rw [if_pos (by rcases ha with e | ⟨e, _⟩ <;> omega)]
      exact ⟨_, rfl, hc⟩
    · exact nomatch hr
  rename_i h2
  rw [if_neg h2]
  split at hr
  · rename_i h3
    rw [if_pos h3]
    split at hr
    · rename_i h4
      injection hr with hr; subst hr
      rw [if_pos ⟨h4.1, by rcases ha with e | ⟨e, _⟩ <;> omega, h4.2.2⟩]
      exact ⟨_, rfl, hc⟩
    · exact nomatch hr
  rename_i h3
  rw [if_neg h3]
  injection hr with hr; subst hr
  exact ⟨_, rfl, hc⟩
theorem getD_set {α : Type} (l : List α) (k : Nat) (x d : α) (i : Nat) : (l.set k x).getD i d = if i = k ∧ k < l.length then x else l.getD i d := by
  simp only [List.getD_eq_getElem?_getD, List.getElem?_set]
  by_cases h : k = i
  · subst h
    by_cases h2 : k < l.length
    · simp [h2]
    · simp [h2, List.getElem?_eq_none (Nat.le_of_not_lt h2)]
  · rw [if_neg h, if_neg (by omega)]
/-- The turned order of one that takes from the top. -/
theorem Lk.take {s t r : Sh} (h : Lk s t) (hf : s.full.length = s.kinds.length) (o : Opr) (hn : ¬ (o.code = 14 ∧ atS t 1 = 3)) (hr : takeS s o = some r) : ∃ r', takeS t o = some r' ∧ Lk r r' := by
  have a0 := h.at 0
  have a1 := h.at 1
  have a2 := h.at 2
  unfold takeS at hr ⊢
  split at hr
  · exact nomatch hr
  rename_i h0
  rw [if_neg (by rcases a0 with e | ⟨e, e2⟩ <;> omega)]
  split at hr
  · rename_i h1
    injection hr with hr; subst hr
    rw [if_pos h1]
    exact ⟨_, rfl, (h.cut 1).push hf 2 2 (.inl rfl)⟩
  rename_i h1
  rw [if_neg h1]
  split at hr
  · rename_i h2
    rw [if_pos h2]
    split at hr
    · exact nomatch hr
    rename_i h3
    injection hr with hr; subst hr
    rw [if_neg (by rcases a1 with e | ⟨e, e2⟩ <;> omega)]
    exact ⟨_, rfl, (h.cut 2).push hf 2 2 (.inl rfl)⟩
  rename_i h2
  rw [if_neg h2]
  split at hr
  · rename_i h3
    rw [if_pos h3]
    split at hr
    · rename_i h4
      injection hr with hr; subst hr
      rw [if_pos (by rcases a1 with e | ⟨e, e2⟩ <;> omega)]
      exact ⟨_, rfl, h.cut 1⟩
    · exact nomatch hr
  rename_i h3
  rw [if_neg h3]
  split at hr
  · rename_i h4
    rw [if_pos h4]
    split at hr
    · rename_i h5
      injection hr with hr; subst hr
      rw [if_pos ⟨by rw [keyK_alike a1]; exact h5.1, by rcases a2 with e | ⟨e, e2⟩ <;> omega⟩]
      exact ⟨_, rfl, h.cut 2⟩
    · exact nomatch hr
  rename_i h4
  rw [if_neg h4]
  split at hr
  · rename_i h5
    rw [if_pos h5]
    split at hr
    · rename_i h6
      injection hr with hr; subst hr
      have e5 : atS t 1 = 5 := by
        rcases a1 with e | ⟨e, e2⟩
        · omega
        · exact absurd ⟨h5, e2⟩ hn
      have hst : st t.stack 1 = st s.stack 1 := by rw [h.tk]
      have h50 : (0 : Int) ≤ atS s 1 := by omega
      have hp := atS_nonneg h50
      have hk5 : s.kinds.getD (st s.stack 1).toNat 0 = 5 := by
        have := h6.1
        unfold atS at this
        rw [if_pos hp.1, if_neg (by omega)] at this
        exact this
      have ht5 : t.kinds.getD (st s.stack 1).toNat 0 = 5 := by
        have := e5
        unfold atS at this
        rw [h.tk, if_pos hp.1, if_neg (by omega)] at this
        exact this
      have hfull : t.full.getD (st s.stack 1).toNat false = s.full.getD (st s.stack 1).toNat false := by
        rcases h.kk (st s.stack 1).toNat with e | e
        · exact e.2
        · omega
      rw [hst, if_pos ⟨e5, by rw [hfull]; exact h6.2⟩]
      refine ⟨_, rfl, (h.cut 1).tk, h.me, h.dn, h.kl, by simp [h.fl], fun i => ?_⟩
      have g1 := getD_set t.full (st s.stack 1).toNat true false i
      have g2 := getD_set s.full (st s.stack 1).toNat true false i
      simp only
      rw [g1, g2, h.fl]
      rcases h.kk i with e | e
      · exact .inl ⟨e.1, by rw [e.2]⟩
      · exact .inr e
    · exact nomatch hr
  rename_i h5
  rw [if_neg h5]
  split at hr
  · rename_i h6
    injection hr with hr; subst hr
    rw [if_pos h6, h.tk, h.me]
    exact ⟨_, rfl, rfl, rfl, h.dn, h.kl, h.fl, h.kk⟩
  rename_i h6
  rw [if_neg h6]
  split at hr
  · rename_i h7
    rw [if_pos h7]
    split at hr
    · rename_i h8
      injection hr with hr; subst hr
      rw [if_pos (by rw [h.tk]; exact h8)]
      exact ⟨_, rfl, h.tk, h.me, rfl, h.kl, h.fl, h.kk⟩
    · exact nomatch hr
  rename_i h7
  rw [if_neg h7]
  injection hr with hr; subst hr
  exact ⟨_, rfl, h.cut 1⟩
theorem rawS_take {s : Sh} {o : Opr} (h1 : ¬ 0 ≤ newK o.code) (h2 : o.code ≠ 2) (h3 : o.code ≠ 16) (h4 : ¬ (o.code = 3 ∨ o.code = 9 ∨ o.code = 12 ∨ o.code = 18)) : rawS s o = takeS s o := by
  unfold rawS; rw [if_neg h1, if_neg h2, if_neg h3, if_neg h4]
theorem Lk.raw {s t r : Sh} (h : Lk s t) (hf : s.full.length = s.kinds.length) (c : Int) (o : Opr) (hr : rawS s o = some r) : ∃ r', rawS t (turnS c t o) = some r' ∧ Lk r r' := by
  unfold turnS
  by_cases h13 : o.code = 13 ∧ o.arg = c
  · rw [if_pos h13]
    rw [rawS_new s o (by rw [h13.1]; decide)] at hr
    injection hr with hr; subst hr
    exact ⟨_, rawS_new t ⟨7, 0⟩ (by decide), h.push hf _ _ (.inr ⟨by rw [h13.1]; rfl, rfl⟩)⟩
  rw [if_neg h13]
  by_cases h14 : o.code = 14 ∧ atS t 1 = 3
  · rw [if_pos h14]
    have hc : o.code = 14 := h14.1
    rw [rawS_take (by rw [hc]; decide) (by omega) (by omega) (by omega)] at hr
    unfold takeS at hr
    split at hr
    · exact nomatch hr
    rename_i h0
    rw [if_neg (by omega), if_neg (by omega), if_neg (by omega), if_neg (by omega)] at hr
    split at hr
    · rename_i h6
      injection hr with hr; subst hr
      have a0 := h.at 0
      refine ⟨cutS t 1, ?_, (h.cut 1).tk, h.me, h.dn, h.kl, by simp [h.fl, cutS], fun i => ?_⟩
      · rw [rawS_take (by decide) (by decide) (by decide) (by decide)]
        unfold takeS
        rw [if_neg (by rcases a0 with e | ⟨e, e2⟩ <;> omega)]
        simp [h14.2]
      · have g2 := getD_set s.full (st s.stack 1).toNat true false i
        simp only [cutS]
        rw [g2]
        have h50 : (0 : Int) ≤ atS s 1 := by omega
        have hp := atS_nonneg h50
        by_cases hi : i = (st s.stack 1).toNat ∧ (st s.stack 1).toNat < s.full.length
        · right
          have e1 := h6.1
          have e2 := h14.2
          unfold atS at e1 e2
          rw [if_pos hp.1, if_neg (by omega)] at e1
          rw [h.tk, if_pos hp.1, if_neg (by omega)] at e2
          rw [hi.1]
          exact ⟨e1, e2⟩
        · rw [if_neg hi]
          exact h.kk i
    · exact nomatch hr
  rw [if_neg h14]
  unfold rawS at hr
  split at hr
  · rename_i h1
    injection hr with hr; subst hr
    exact ⟨_, rawS_new t o h1, h.push hf _ _ (.inl rfl)⟩
  rename_i h1
  split at hr
  · rename_i h2
    injection hr with hr; subst hr
    refine ⟨_, by unfold rawS; rw [if_neg h1, if_pos h2], h.stack (-1)⟩
  rename_i h2
  split at hr
  · rename_i h3
    split at hr
    · exact nomatch hr
    rename_i h4
    injection hr with hr; subst hr
    refine ⟨_, by unfold rawS; rw [if_neg h1, if_neg h2, if_pos h3, h.me, if_neg h4], h.stack _⟩
  rename_i h3
  split at hr
  · rename_i h4
    obtain ⟨r', e1, e2⟩ := h.mark hf o.code hr
    exact ⟨r', by unfold rawS; rw [if_neg h1, if_neg h2, if_neg h3, if_pos h4, e1], e2⟩
  · rename_i h4
    obtain ⟨r', e1, e2⟩ := h.take hf o h14 hr
    exact ⟨r', by rw [rawS_take h1 h2 h3 h4, e1], e2⟩
/-- A possible order stays possible. -/
theorem Lk.step {s t r : Sh} (h : Lk s t) (hf : s.full.length = s.kinds.length) (c : Int) (o : Opr) (hr : stepS s o = some r) : ∃ r', stepS t (turnS c t o) = some r' ∧ Lk r r' := by
  unfold stepS at hr ⊢
  rw [h.dn]
  split at hr
  · exact nomatch hr
  rename_i h0
  rw [if_neg h0]
  cases hw : rawS s o with
  | none => rw [hw] at hr; exact nomatch hr
  | some s1 =>
    rw [hw] at hr
    unfold fitS at hr
    simp only at hr
    split at hr
    · rename_i hs
      injection hr with hr; subst hr
      obtain ⟨r', e1, e2⟩ := h.raw hf c o hw
      refine ⟨r', ?_, e2⟩
      rw [e1]
      unfold fitS
      simp only
      rw [if_pos (by rw [e2.kl, e2.tk]; exact hs)]
    · exact nomatch hr

/-- What the loop keeps: the old machine, and the turned one. -/
structure Forb (c : Int) (ops : List Opr) (k : Nat) (m : Mc) : Prop where
  run : runP newM (ops.take k) = (m, (ops.take k).length)
  ok : okM (301 * k) m
  kk : okK m
  ok' : okM (301 * k) (forbM c newM (ops.take k))
  kk' : okK (forbM c newM (ops.take k))
  lk : Lk (shp m) (shp (forbM c newM (ops.take k)))
theorem Forb.new (c : Int) (ops : List Opr) : Forb c ops 0 newM := ⟨rfl, okM_new, okK_new, okM_new, okK_new, Lk.rf _⟩
theorem turn_shp {c : Int} {m : Mc} {o : Opr} (h : o.code = 14 → 1 < m.stack.length ∧ 0 ≤ st m.stack 1) : turnP c m o = turnS c (shp m) o := by
  unfold turnP turnS
  by_cases h14 : o.code = 14
  · obtain ⟨h1, h2⟩ := h h14
    rw [shp_at m 1 h1 h2]
  · simp [h14]
/-- The next order: what the state order looks at is there, and the turned order is possible. -/
theorem Forb.next {c : Int} {ops : List Opr} {k : Nat} {m m1 : Mc} (h : Forb c ops k m) (hk : k < ops.length) (ho : okO ops[k] = true) (hs : stepP m ops[k] = some m1) :
    (ops[k].code = 14 → 1 < (forbM c newM (ops.take k)).stack.length ∧ 0 ≤ st (forbM c newM (ops.take k)).stack 1 ∧ st (forbM c newM (ops.take k)).stack 1 < (forbM c newM (ops.take k)).nodes.length) ∧
    (∃ m', stepP (forbM c newM (ops.take k)) (turnP c (forbM c newM (ops.take k)) ops[k]) = some m' ∧ m' = forbM c newM (ops.take (k + 1))) ∧ Forb c ops (k + 1) m1 := by
  have hst : (forbM c newM (ops.take k)).stack = m.stack := h.lk.tk
  have hss := stepS_shp h.ok h.kk ops[k] ho
  rw [hs] at hss
  have h14 : ops[k].code = 14 → 1 < (forbM c newM (ops.take k)).stack.length ∧ 0 ≤ st (forbM c newM (ops.take k)).stack 1 ∧ st (forbM c newM (ops.take k)).stack 1 < (forbM c newM (ops.take k)).nodes.length := by
    intro hc
    have h2 : 2 ≤ topN m.stack := by
      unfold stepP at hs
      split at hs
      · exact nomatch hs
      have e : ops[k] = ⟨14, ops[k].arg⟩ := by rw [← hc]
      rw [e, doP_14] at hs
      split at hs
      · assumption
      · exact nomatch hs
    have hp := st_ok h.ok 1 (by omega)
    have hl := topN_le m.stack
    have hn : (forbM c newM (ops.take k)).nodes.length = m.nodes.length := by
      have := h.lk.kl
      simpa [shp] using this
    rw [hst, hn]
    exact ⟨by omega, hp⟩
  have ht : turnP c (forbM c newM (ops.take k)) ops[k] = turnS c (shp (forbM c newM (ops.take k))) ops[k] := turn_shp (fun e => ⟨(h14 e).1, (h14 e).2.1⟩)
  obtain ⟨r', e1, e2⟩ := h.lk.step (shp_ok h.ok h.kk).fl c ops[k] hss
  rw [← ht] at e1
  have hok' := turn_ok (c := c) (m := forbM c newM (ops.take k)) ho
  have hss' := stepS_shp h.ok' h.kk' _ hok'
  rw [e1] at hss'
  cases hs' : stepP (forbM c newM (ops.take k)) (turnP c (forbM c newM (ops.take k)) ops[k]) with
  | none => rw [hs'] at hss'; exact nomatch hss'
  | some m' =>
    rw [hs'] at hss'
    injection hss' with hss'
    have hm' : m' = forbM c newM (ops.take (k + 1)) := by
      rw [List.take_succ_eq_append_getElem hk, (forb_snoc c (ops.take k) newM ops[k]).2, hs']
      rfl
    have hrun := (runP_snoc (ops.take k) newM m ops[k] h.run).1
    rw [hs, ← List.take_succ_eq_append_getElem hk] at hrun
    have hb : 301 * (k + 1) = 301 * k + 301 := by omega
    refine ⟨h14, ⟨m', rfl, hm'⟩, ?_, ?_, h.kk.step _ ho hs, ?_, ?_, ?_⟩
    · rw [hrun]
      simp only [Prod.mk.injEq, true_and, List.length_take]
      omega
    · rw [hb]; exact okM_step h.ok ho hs
    · rw [hb, ← hm']; exact okM_step h.ok' hok' hs'
    · rw [← hm']; exact h.kk'.step _ hok' hs'
    · rw [← hm', ← hss']; exact e2
end Go.Proofs.Ytcodbpjaamggeaa.P
