/- An order, and a program, seen by kinds alone. A machine that is done has just one node on its stack. -/
import Derived.Test.YtgenllcfpjgklaaPs
import Derived.Test.YtgenllcfpjgklaaPo
set_option linter.unusedVariables false
set_option linter.unusedSimpArgs false
namespace Go.Proofs.Ytgenllcfpjgklaa.P
/-- What is seen of a machine. -/
def shp (m : Mc) : Sh := ⟨m.nodes.map (·.kind), m.nodes.map (fun n => n.kind == 5 && !n.kids.isEmpty), m.stack, m.memo, m.done⟩
/-- The kinds are kinds. -/
def okK (m : Mc) : Prop := ∀ n ∈ m.nodes, 0 ≤ n.kind ∧ n.kind ≤ 5
theorem shp_ok {B : Nat} {m : Mc} (h : okM B m) (hk : okK m) : okS (shp m) := by
  refine ⟨by simpa [shp] using h.nl, by simp [shp], h.sl, h.ml, fun x hx => by simpa [shp] using h.si x hx, fun x hx => by simpa [shp] using h.mi x hx, fun x hx => ?_⟩
  obtain ⟨n, hn, rfl⟩ := List.mem_map.1 hx
  exact hk n hn
theorem shp_new : shp newM = newS := rfl
theorem shp_push (m : Mc) (kind val : Int) (kids : List Int) (hf : kind = 5 → kids = []) : (mk m kind val kids).map shp = fitS (some (pushS (shp m) kind)) := by
  have e : (kind == 5 && !kids.isEmpty) = false := by
    by_cases h : kind = 5
    · rw [hf h]; simp
    · simp [h]
  unfold mk push fitS
  by_cases h1 : m.nodes.length + 1 ≤ 300 <;> by_cases h2 : m.stack.length + 1 ≤ 300 <;> simp [h1, h2, shp, pushS, e]
theorem shp_kind (m : Mc) (x : Int) : (shp m).kinds.getD x.toNat 0 = (nd m x).kind := by
  unfold shp nd
  simp only [List.getD_eq_getElem?_getD, List.getElem?_map]
  cases m.nodes[x.toNat]? <;> rfl
theorem shp_at_top {m : Mc} (hk : okK m) (hi : ∀ x ∈ m.stack, -1 ≤ x ∧ x < m.nodes.length) (d : Nat) : 0 ≤ atS (shp m) d ↔ d < m.stack.length ∧ 0 ≤ st m.stack d := by
  constructor
  · exact fun h => atS_nonneg h
  · rintro ⟨h1, h2⟩
    unfold atS
    rw [if_pos (show d < (shp m).stack.length from h1), if_neg (by show ¬ st m.stack d < 0; omega)]
    show 0 ≤ (shp m).kinds.getD (st m.stack d).toNat 0
    rw [shp_kind]
    have h3 := (hi _ (st_mem _ _ h1)).2
    unfold nd
    rw [List.getD_eq_getElem?_getD, List.getElem?_eq_getElem (by omega)]
    exact (hk _ (List.getElem_mem _)).1
theorem shp_at (m : Mc) (d : Nat) (h1 : d < m.stack.length) (h2 : 0 ≤ st m.stack d) : atS (shp m) d = (nd m (st m.stack d)).kind := by
  unfold atS
  rw [if_pos (show d < (shp m).stack.length from h1), if_neg (by show ¬ st m.stack d < 0; omega)]
  exact shp_kind m _
theorem topN_lt (s : List Int) (k : Nat) : k < topN s ↔ ∀ d, d ≤ k → d < s.length ∧ 0 ≤ st s d := by
  constructor
  · intro h d hd
    obtain ⟨h1, h2⟩ := topN_ge s d (by omega)
    exact ⟨h1, by rw [st_at _ _ h1]; exact h2⟩
  · intro h
    have key : ∀ j, j ≤ k + 1 → j ≤ topN s := by
      intro j
      induction j with
      | zero => exact fun _ => Nat.zero_le _
      | succ j ih =>
        intro hj
        obtain ⟨h1, h2⟩ := h j (by omega)
        rw [st_at _ _ h1] at h2
        exact topN_step s j (ih (by omega)) h1 h2
    exact key (k + 1) (Nat.le_refl _)
theorem at_drop (m : Mc) (n d : Nat) (hn : n ≤ m.stack.length) : atS (cutS (shp m) n) d = atS (shp m) (d + n) := by
  unfold atS
  by_cases h : d + n < m.stack.length
  · have h1 : d < (cutS (shp m) n).stack.length := by simp [cutS, shp]; omega
    have h2 : st (cutS (shp m) n).stack d = st m.stack (d + n) := st_take m.stack n d h
    rw [if_pos h1, if_pos (show d + n < (shp m).stack.length from h), h2]
    rfl
  · have h1 : ¬ d < (cutS (shp m) n).stack.length := by simp [cutS, shp]; omega
    rw [if_neg h1, if_neg (show ¬ d + n < (shp m).stack.length from h)]
theorem shp_drop (m : Mc) (n : Nat) : shp (drop m n) = cutS (shp m) n := rfl
theorem okK.drop {m : Mc} (h : okK m) (n : Nat) : okK (P.drop m n) := h
/-- The topmost node is of a kind. -/
theorem topK_at {m : Mc} (k : Int) (h0 : 0 ≤ k) : (atS (shp m) 0 = k → topK m k = some (st m.stack 0)) ∧ (atS (shp m) 0 ≠ k → topK m k = none) := by
  unfold topK
  by_cases ht : topN m.stack = 0
  · rw [if_pos ht]
    refine ⟨fun h => ?_, fun _ => rfl⟩
    have h1 := atS_nonneg (s := shp m) (d := 0) (by omega)
    have := (topN_lt m.stack 0).2 (fun d hd => by obtain rfl : d = 0 := by omega
                                                  exact h1)
    omega
  · rw [if_neg ht]
    have h1 := (topN_lt m.stack 0).1 (by omega) 0 (by omega)
    rw [shp_at m 0 h1.1 h1.2]
    exact ⟨fun h => by rw [if_pos h], fun h => by rw [if_neg h]⟩
theorem shp_set {m : Mc} (d : Int) (kids : List Int) (hd : (nd m d).kind = 5 → False) : shp (setKids m d kids) = shp m := by
  unfold shp setKids
  congr 1
  · rw [List.map_set]
    by_cases h : d.toNat < m.nodes.length
    · have e : nd m d = m.nodes[d.toNat] := by unfold nd; rw [List.getD_eq_getElem?_getD, List.getElem?_eq_getElem h]; rfl
      rw [e]
      have := @List.set_getElem_self _ (m.nodes.map (·.kind)) d.toNat (by simpa using h)
      simpa using this
    · exact List.set_eq_of_length_le (by simp; omega)
  · rw [List.map_set]
    by_cases h : d.toNat < m.nodes.length
    · have e : nd m d = m.nodes[d.toNat] := by unfold nd; rw [List.getD_eq_getElem?_getD, List.getElem?_eq_getElem h]; rfl
      have h5 : (m.nodes[d.toNat].kind == 5) = false := by rw [← e]; simpa using hd
      rw [e]
      have := @List.set_getElem_self _ (m.nodes.map (fun n => n.kind == 5 && !n.kids.isEmpty)) d.toNat (by simpa using h)
      simp only [h5, Bool.false_and]
      simpa [h5] using this
    · exact List.set_eq_of_length_le (by simp; omega)
theorem shp_state {m : Mc} (d : Int) (x : Int) (h5 : (nd m d).kind = 5) : shp (setKids m d [x]) = { shp m with full := (shp m).full.set d.toNat true } := by
  unfold shp setKids
  simp only [Sh.mk.injEq, and_self, and_true, true_and]
  constructor
  · rw [List.map_set]
    by_cases h : d.toNat < m.nodes.length
    · have e : nd m d = m.nodes[d.toNat] := by unfold nd; rw [List.getD_eq_getElem?_getD, List.getElem?_eq_getElem h]; rfl
      rw [e]
      have := @List.set_getElem_self _ (m.nodes.map (·.kind)) d.toNat (by simpa using h)
      simpa using this
    · exact List.set_eq_of_length_le (by simp; omega)
  · rw [List.map_set, h5]; rfl
theorem allK_good {m : Mc} (hk : okK m) : ∀ l : List Int, (∀ x ∈ l, 0 ≤ x ∧ x < m.nodes.length) → (goodK m.nodes l = true ↔ allK (shp m).kinds l = true ∧ l.length % 2 = 0)
  | [], _ => by simp [goodK, allK]
  | [a], _ => by simp [goodK]
  | a :: b :: r, hl => by
    have ih := allK_good hk r (fun x hx => hl x (by simp [hx]))
    have ha := hl a (by simp)
    have e : (nd m a).kind ≤ 1 ↔ keyK (nd m a).kind = true := by
      have hn : nd m a ∈ m.nodes := by
        unfold nd; rw [List.getD_eq_getElem?_getD, List.getElem?_eq_getElem (by omega)]; exact List.getElem_mem _
      have := hk _ hn
      simp only [keyK, Bool.or_eq_true, beq_iff_eq]; omega
    have e2 : (m.nodes.getD a.toNat default).kind ≤ 1 ↔ keyK ((shp m).kinds.getD a.toNat 0) = true := by rw [shp_kind]; exact e
    simp only [goodK, allK, Bool.and_eq_true, decide_eq_true_eq, List.length_cons, e2, ih, and_assoc]
    constructor
    · rintro ⟨h1, h2, h3⟩; exact ⟨h1, h2, by omega⟩
    · rintro ⟨h1, h2, h3⟩; exact ⟨h1, h2, by omega⟩
theorem fit_ok {B : Nat} {m : Mc} (h : okM B m) {s : Sh} (h1 : s.kinds.length = m.nodes.length) (h2 : s.stack.length ≤ m.stack.length) : fitS (some s) = some s := by
  unfold fitS
  have := h.nl; have := h.sl
  show (if _ ∧ _ then some s else none) = some s
  rw [if_pos ⟨by omega, by omega⟩]
theorem setP_shp {m : Mc} (hk : okK m) (l : List Int) (hl : ∀ x ∈ l, 0 ≤ x ∧ x < m.nodes.length) : (setP m l).map shp = if allK (shp m).kinds l = true ∧ atS (shp m) 0 = 4 ∧ l.length % 2 = 0 then some (shp m) else none := by
  unfold setP
  by_cases h4 : atS (shp m) 0 = 4
  · rw [(topK_at 4 (by omega)).1 h4]
    have h5 : (nd m (st m.stack 0)).kind = 4 := by
      have := atS_nonneg (s := shp m) (d := 0) (by omega)
      rw [← shp_at m 0 this.1 this.2]; exact h4
    have e := allK_good hk l hl
    by_cases hg : goodK m.nodes l = true
    · have h6 := e.1 hg
      simp only
      rw [if_pos ⟨h6.2, hg⟩, if_pos ⟨h6.1, h4, h6.2⟩]
      show some (shp (setKids m _ _)) = _
      rw [shp_set _ _ (fun h => by rw [h5] at h; omega)]
    · simp only
      rw [if_neg (fun h => hg h.2), if_neg (fun h => hg (e.2 ⟨h.1, h.2.2⟩))]; rfl
  · rw [(topK_at 4 (by omega)).2 h4, if_neg (fun h => h4 h.2.1)]; rfl
theorem not_at {m : Mc} (hk : okK m) (hi : ∀ x ∈ m.stack, -1 ≤ x ∧ x < m.nodes.length) (d : Nat) : ¬ atS (shp m) d < 0 ↔ d < m.stack.length ∧ 0 ≤ st m.stack d := by
  rw [← shp_at_top hk hi d]; omega

theorem okK.push {m m' : Mc} (h : okK m) (i : Int) (hp : push m i = some m') : okK m' := by
  unfold P.push at hp
  split at hp
  · injection hp with hp; subst hp; exact h
  · exact nomatch hp
theorem okK.make {m m' : Mc} (h : okK m) (kind val : Int) (kids : List Int) (hk : 0 ≤ kind ∧ kind ≤ 5) (hp : P.mk m kind val kids = some m') : okK m' := by
  unfold P.mk at hp
  split at hp
  · refine okK.push (m := { m with nodes := m.nodes ++ [⟨kind, val, kids⟩] }) (fun n hn => ?_) _ hp
    rcases List.mem_append.1 hn with hn | hn
    · exact h n hn
    · rw [List.mem_singleton] at hn; subst hn; exact hk
  · exact nomatch hp
theorem okK.setKids {m : Mc} (h : okK m) (d : Int) (kids : List Int) : okK (P.setKids m d kids) := by
  by_cases hd : d.toNat < m.nodes.length
  · intro n hn
    rcases List.mem_or_eq_of_mem_set hn with hn | rfl
    · exact h n hn
    · have e : nd m d = m.nodes[d.toNat] := by unfold nd; rw [List.getD_eq_getElem?_getD, List.getElem?_eq_getElem hd]; rfl
      show 0 ≤ (nd m d).kind ∧ (nd m d).kind ≤ 5
      rw [e]; exact h _ (List.getElem_mem hd)
  · intro n hn
    have : (P.setKids m d kids).nodes = m.nodes := List.set_eq_of_length_le (by omega)
    rw [this] at hn
    exact h n hn
theorem okK.setP {m m' : Mc} (h : okK m) (l : List Int) (hp : setP m l = some m') : okK m' := by
  unfold P.setP at hp
  split at hp
  · exact nomatch hp
  · split at hp
    · injection hp with hp; subst hp; exact h.setKids _ _
    · exact nomatch hp
theorem okK.above {m m' : Mc} {l : List Int} (h : okK m) (hp : above m = some (m', l)) : okK m' := by
  unfold P.above at hp
  split at hp
  · exact nomatch hp
  · injection hp with hp; injection hp with hp _; subst hp; exact h
theorem okK.doP {m m' : Mc} (h : okK m) (o : Opr) (ho : okO o = true) (hp : doP m o = some m') : okK m' := by
  obtain ⟨n, hn, hc⟩ := code_cases ho
  obtain ⟨c, arg⟩ := o
  simp only at hc
  subst hc
  match n, hn with
  | 0, _ => exact h.make 0 arg [] (by omega) hp
  | 1, _ => exact h.make 1 arg [] (by omega) hp
  | 13, _ => exact h.make 5 arg [] (by omega) hp
  | 4, _ => exact h.make 2 0 [] (by omega) hp
  | 7, _ => exact h.make 3 0 [] (by omega) hp
  | 10, _ => exact h.make 4 0 [] (by omega) hp
  | 2, _ => exact h.push (-1) hp
  | 3, _ =>
    replace hp : (match P.above m with | none => none | some (m', kids) => mk m' 2 0 kids) = some m' := hp
    split at hp
    · exact nomatch hp
    · rename_i h1; exact (h.above h1).make _ _ _ (by omega) hp
  | 5, _ =>
    replace hp : (if 1 ≤ topN m.stack then mk (P.drop m 1) 2 0 [st m.stack 0] else none) = some m' := hp
    split at hp
    · exact (h.drop 1).make _ _ _ (by omega) hp
    · exact nomatch hp
  | 6, _ =>
    replace hp : (if 2 ≤ topN m.stack then mk (P.drop m 2) 2 0 [st m.stack 1, st m.stack 0] else none) = some m' := hp
    split at hp
    · exact (h.drop 2).make _ _ _ (by omega) hp
    · exact nomatch hp
  | 8, _ =>
    replace hp : (if 2 ≤ topN m.stack then (match topK (P.drop m 1) 3 with | none => none | some d => some (P.setKids (P.drop m 1) d ((nd m d).kids ++ [st m.stack 0]))) else none) = some m' := hp
    split at hp
    · split at hp
      · exact nomatch hp
      · injection hp with hp; subst hp; exact okK.setKids (h.drop 1) _ _
    · exact nomatch hp
  | 9, _ =>
    replace hp : (match P.above m with | none => none | some (m', kids) => match topK m' 3 with | none => none | some d => some (P.setKids m' d ((nd m' d).kids ++ kids))) = some m' := hp
    split at hp
    · exact nomatch hp
    · rename_i h1
      split at hp
      · exact nomatch hp
      · injection hp with hp; subst hp; exact (h.above h1).setKids _ _
  | 11, _ =>
    replace hp : (if 3 ≤ topN m.stack then P.setP (P.drop m 2) [st m.stack 1, st m.stack 0] else none) = some m' := hp
    split at hp
    · exact okK.setP (h.drop 2) _ hp
    · exact nomatch hp
  | 12, _ =>
    replace hp : (match P.above m with | none => none | some (m', pairs) => P.setP m' pairs) = some m' := hp
    split at hp
    · exact nomatch hp
    · rename_i h1; exact (h.above h1).setP _ hp
  | 14, _ =>
    replace hp : (if 2 ≤ topN m.stack then (match topK (P.drop m 1) 5 with | none => none | some d => if (nd m d).kids = [] then some (P.setKids (P.drop m 1) d [st m.stack 0]) else none) else none) = some m' := hp
    split at hp
    · split at hp
      · exact nomatch hp
      · split at hp
        · injection hp with hp; subst hp; exact okK.setKids (h.drop 1) _ _
        · exact nomatch hp
    · exact nomatch hp
  | 15, _ =>
    replace hp : (if 1 ≤ topN m.stack then some { m with memo := m.memo.set arg.toNat (st m.stack 0) } else none) = some m' := hp
    split at hp
    · injection hp with hp; subst hp; exact h
    · exact nomatch hp
  | 16, _ =>
    replace hp : (if 0 ≤ m.memo.getD arg.toNat 0 then P.push m (m.memo.getD arg.toNat 0) else none) = some m' := hp
    split at hp
    · exact h.push _ hp
    · exact nomatch hp
  | 17, _ =>
    replace hp : (if 1 ≤ topN m.stack then some (P.drop m 1) else none) = some m' := hp
    split at hp
    · injection hp with hp; subst hp; exact h
    · exact nomatch hp
  | 18, _ =>
    replace hp : (match P.above m with | none => none | some (m', _) => some m') = some m' := hp
    split at hp
    · exact nomatch hp
    · rename_i h1; injection hp with hp; subst hp; exact h.above h1
  | 19, _ =>
    replace hp : (if m.stack.length = 1 ∧ topN m.stack = 1 then some { m with done := true } else none) = some m' := hp
    split at hp
    · injection hp with hp; subst hp; exact h
    · exact nomatch hp
theorem okK.step {m m' : Mc} (h : okK m) (o : Opr) (ho : okO o = true) (hp : stepP m o = some m') : okK m' := by
  unfold stepP at hp
  split at hp
  · exact nomatch hp
  · exact h.doP o ho hp
theorem okK_new : okK newM := fun n hn => nomatch hn

theorem ite_fit (p : Prop) [Decidable p] (s : Sh) (h : fitS (some s) = some s) : (if p then some s else none) = fitS (if p then some s else none) := by
  by_cases hp : p
  · rw [if_pos hp, h]
  · rw [if_neg hp]; rfl
theorem rawS_new (s : Sh) (o : Opr) (h : 0 ≤ newK o.code) : rawS s o = some (pushS s (newK o.code)) := by unfold rawS; rw [if_pos h]
theorem fit_drop {B : Nat} {m : Mc} (h : okM B m) (n : Nat) : fitS (some (cutS (shp m) n)) = some (cutS (shp m) n) := fit_ok h (by simp [cutS, shp]) (by simp [cutS, shp])
/-- An order that takes all above a mark. -/
theorem do_mark {B : Nat} {m : Mc} (h : okM B m) (hk : okK m) (c : Int) (hc : c = 3 ∨ c = 9 ∨ c = 12 ∨ c = 18) (arg : Int) : (doP m ⟨c, arg⟩).map shp = fitS (markS (shp m) c) := by
  unfold markS
  have e0 : (shp m).stack = m.stack := rfl
  rw [e0]
  have hl := topN_le m.stack
  by_cases ht : topN m.stack = m.stack.length
  · rw [if_pos ht]
    rcases hc with rfl | rfl | rfl | rfl
    · show Option.map shp (match above m with | none => none | some (m', kids) => mk m' 2 0 kids) = _
      rw [above_none ht]; rfl
    · show Option.map shp (match above m with | none => none | some (m', kids) => match topK m' 3 with | none => none | some d => some (setKids m' d ((nd m' d).kids ++ kids))) = _
      rw [above_none ht]; rfl
    · show Option.map shp (match above m with | none => none | some (m', pairs) => setP m' pairs) = _
      rw [above_none ht]; rfl
    · show Option.map shp (match above m with | none => none | some (m', _) => some m') = _
      rw [above_none ht]; rfl
  · rw [if_neg ht]
    have htop := h.top (topN m.stack) (Nat.le_refl _)
    rcases hc with rfl | rfl | rfl | rfl
    · show Option.map shp (match above m with | none => none | some (m', kids) => mk m' 2 0 kids) = _
      rw [above_some ht, if_pos rfl]
      exact shp_push _ _ _ _ (by omega)
    · show Option.map shp (match above m with | none => none | some (m', kids) => match topK m' 3 with | none => none | some d => some (setKids m' d ((nd m' d).kids ++ kids))) = _
      rw [above_some ht, if_neg (by omega), if_pos rfl]
      simp only
      by_cases h3 : atS (cutS (shp m) (topN m.stack + 1)) 0 = 3
      · rw [if_pos h3, (topK_at (m := drop m (topN m.stack + 1)) 3 (by omega)).1 h3, fit_drop h]
        have h5 : (nd (drop m (topN m.stack + 1)) (st (drop m (topN m.stack + 1)).stack 0)).kind = 3 := by
          have := atS_nonneg (s := shp (drop m (topN m.stack + 1))) (d := 0) (by rw [shp_drop]; omega)
          rw [← shp_at _ 0 this.1 this.2]; exact h3
        simp only [Option.map_some]
        rw [shp_set _ _ (fun e => by rw [h5] at e; omega)]; rfl
      · rw [if_neg h3, (topK_at (m := drop m (topN m.stack + 1)) 3 (by omega)).2 h3]; rfl
    · show Option.map shp (match above m with | none => none | some (m', pairs) => setP m' pairs) = _
      rw [above_some ht, if_neg (by omega), if_neg (by omega), if_pos rfl]
      simp only
      rw [setP_shp (m := drop m (topN m.stack + 1)) hk _ htop]
      have hll : (m.stack.drop (m.stack.length - topN m.stack)).length = topN m.stack := by simp; omega
      rw [hll]
      exact ite_fit _ _ (fit_drop h _)
    · show Option.map shp (match above m with | none => none | some (m', _) => some m') = _
      rw [above_some ht, if_neg (by omega), if_neg (by omega), if_neg (by omega)]
      exact (fit_drop h _).symm
theorem two_at {m : Mc} (hk : okK m) (hi : ∀ x ∈ m.stack, -1 ≤ x ∧ x < m.nodes.length) : (1 ≤ topN m.stack ↔ 0 ≤ atS (shp m) 0) ∧ (2 ≤ topN m.stack ↔ 0 ≤ atS (shp m) 0 ∧ 0 ≤ atS (shp m) 1) ∧ (3 ≤ topN m.stack ↔ 0 ≤ atS (shp m) 0 ∧ 0 ≤ atS (shp m) 1 ∧ 0 ≤ atS (shp m) 2) := by
  have e := fun d => shp_at_top hk hi d
  refine ⟨?_, ?_, ?_⟩
  · rw [e 0]
    constructor
    · exact fun h => (topN_lt _ 0).1 h 0 (by omega)
    · exact fun h => (topN_lt _ 0).2 (fun d hd => by obtain rfl : d = 0 := by omega
                                                     exact h)
  · rw [e 0, e 1]
    constructor
    · exact fun h => ⟨(topN_lt _ 1).1 h 0 (by omega), (topN_lt _ 1).1 h 1 (by omega)⟩
    · rintro ⟨h0, h1⟩
      refine (topN_lt _ 1).2 (fun d hd => ?_)
      rcases (by omega : d = 0 ∨ d = 1) with rfl | rfl
      · exact h0
      · exact h1
  · rw [e 0, e 1, e 2]
    constructor
    · exact fun h => ⟨(topN_lt _ 2).1 h 0 (by omega), (topN_lt _ 2).1 h 1 (by omega), (topN_lt _ 2).1 h 2 (by omega)⟩
    · rintro ⟨h0, h1, h2⟩
      refine (topN_lt _ 2).2 (fun d hd => ?_)
      rcases (by omega : d = 0 ∨ d = 1 ∨ d = 2) with rfl | rfl | rfl
      · exact h0
      · exact h1
      · exact h2
theorem nd_drop (m : Mc) (n : Nat) (i : Int) : nd (drop m n) i = nd m i := rfl
theorem do_take {B : Nat} {m : Mc} (h : okM B m) (hk : okK m) (c : Int) (hc : c = 5 ∨ c = 6 ∨ c = 8 ∨ c = 11 ∨ c = 14 ∨ c = 15 ∨ c = 17 ∨ c = 19) (arg : Int) : (doP m ⟨c, arg⟩).map shp = fitS (takeS (shp m) ⟨c, arg⟩) := by
  obtain ⟨t1, t2, t3⟩ := two_at hk h.si
  have hl := topN_le m.stack
  unfold takeS
  by_cases h0 : atS (shp m) 0 < 0
  · rw [if_pos h0]
    have n1 : ¬ 1 ≤ topN m.stack := fun e => by have := t1.1 e; omega
    have n2 : ¬ 2 ≤ topN m.stack := by omega
    have n3 : ¬ 3 ≤ topN m.stack := by omega
    rcases hc with rfl | rfl | rfl | rfl | rfl | rfl | rfl | rfl
    · show Option.map shp (if 1 ≤ topN m.stack then mk (drop m 1) 2 0 [st m.stack 0] else none) = _
      rw [if_neg n1]; rfl
    · show Option.map shp (if 2 ≤ topN m.stack then mk (drop m 2) 2 0 [st m.stack 1, st m.stack 0] else none) = _
      rw [if_neg n2]; rfl
    · show Option.map shp (if 2 ≤ topN m.stack then (match topK (drop m 1) 3 with | none => none | some d => some (setKids (drop m 1) d ((nd m d).kids ++ [st m.stack 0]))) else none) = _
      rw [if_neg n2]; rfl
    · show Option.map shp (if 3 ≤ topN m.stack then setP (drop m 2) [st m.stack 1, st m.stack 0] else none) = _
      rw [if_neg n3]; rfl
    · show Option.map shp (if 2 ≤ topN m.stack then (match topK (drop m 1) 5 with | none => none | some d => if (nd m d).kids = [] then some (setKids (drop m 1) d [st m.stack 0]) else none) else none) = _
      rw [if_neg n2]; rfl
    · show Option.map shp (if 1 ≤ topN m.stack then some { m with memo := m.memo.set arg.toNat (st m.stack 0) } else none) = _
      rw [if_neg n1]; rfl
    · show Option.map shp (if 1 ≤ topN m.stack then some (drop m 1) else none) = _
      rw [if_neg n1]; rfl
    · show Option.map shp (if m.stack.length = 1 ∧ topN m.stack = 1 then some { m with done := true } else none) = _
      rw [if_neg (by omega)]; rfl
  · rw [if_neg h0]
    have p1 : 1 ≤ topN m.stack := t1.2 (by omega)
    have hlen : 1 ≤ m.stack.length := by omega
    rcases hc with rfl | rfl | rfl | rfl | rfl | rfl | rfl | rfl
    · show Option.map shp (if 1 ≤ topN m.stack then mk (drop m 1) 2 0 [st m.stack 0] else none) = fitS (some (pushS (cutS (shp m) 1) 2))
      rw [if_pos p1]
      exact shp_push (drop m 1) _ _ _ (by omega)
    · show Option.map shp (if 2 ≤ topN m.stack then mk (drop m 2) 2 0 [st m.stack 1, st m.stack 0] else none) = fitS (if atS (shp m) 1 < 0 then none else some (pushS (cutS (shp m) 2) 2))
      by_cases h1 : atS (shp m) 1 < 0
      · rw [if_neg (fun e => by have := t2.1 e; omega), if_pos h1]; rfl
      · rw [if_pos (t2.2 (by omega)), if_neg h1]
        exact shp_push (drop m 2) _ _ _ (by omega)
    · show Option.map shp (if 2 ≤ topN m.stack then (match topK (drop m 1) 3 with | none => none | some d => some (setKids (drop m 1) d ((nd m d).kids ++ [st m.stack 0]))) else none) = fitS (if atS (shp m) 1 = 3 then some (cutS (shp m) 1) else none)
      have ea : atS (cutS (shp m) 1) 0 = atS (shp m) 1 := at_drop m 1 0 hlen
      by_cases h3 : atS (shp m) 1 = 3
      · rw [if_pos (t2.2 (by omega)), if_pos h3, (topK_at (m := drop m 1) 3 (by omega)).1 (by rw [shp_drop, ea]; exact h3), fit_drop h]
        have h5 : (nd (drop m 1) (st (drop m 1).stack 0)).kind = 3 := by
          have := atS_nonneg (s := shp (drop m 1)) (d := 0) (by rw [shp_drop, ea]; omega)
          rw [← shp_at _ 0 this.1 this.2, shp_drop, ea]; exact h3
        simp only [Option.map_some]
        rw [shp_set _ _ (fun e => by rw [h5] at e; omega)]; rfl
      · rw [if_neg h3, (topK_at (m := drop m 1) 3 (by omega)).2 (by rw [shp_drop, ea]; exact h3)]
        split <;> rfl
    · show Option.map shp (if 3 ≤ topN m.stack then setP (drop m 2) [st m.stack 1, st m.stack 0] else none) = fitS (if keyK (atS (shp m) 1) = true ∧ atS (shp m) 2 = 4 then some (cutS (shp m) 2) else none)
      by_cases h3 : 3 ≤ topN m.stack
      · obtain ⟨_, g1, g2⟩ := t3.1 h3
        have s0 := (topN_lt _ 1).1 (by omega : 1 < topN m.stack) 0 (by omega)
        have s1 := (topN_lt _ 1).1 (by omega : 1 < topN m.stack) 1 (by omega)
        rw [if_pos h3, setP_shp (m := drop m 2) hk _ (fun x hx => by
          rcases List.mem_cons.1 hx with rfl | hx
          · exact ⟨s1.2, (h.si _ (st_mem _ _ s1.1)).2⟩
          · rw [List.mem_singleton] at hx; subst hx; exact ⟨s0.2, (h.si _ (st_mem _ _ s0.1)).2⟩)]
        have ea : atS (shp (drop m 2)) 0 = atS (shp m) 2 := at_drop m 2 0 (by omega)
        have ek : allK (shp (drop m 2)).kinds [st m.stack 1, st m.stack 0] = keyK (atS (shp m) 1) := by
          rw [shp_at m 1 s1.1 s1.2, ← shp_kind]
          simp [allK, shp, drop]
        rw [ea, ek]
        by_cases hq : keyK (atS (shp m) 1) = true ∧ atS (shp m) 2 = 4
        · rw [if_pos ⟨hq.1, hq.2, by simp⟩, if_pos hq, fit_drop h]; rfl
        · rw [if_neg (fun e => hq ⟨e.1, e.2.1⟩), if_neg hq]; rfl
      · rw [if_neg h3, if_neg (fun e => h3 (t3.2 ⟨by omega, by have := e.1; simp only [keyK, Bool.or_eq_true, beq_iff_eq] at this; omega, by omega⟩))]; rfl
    · show Option.map shp (if 2 ≤ topN m.stack then (match topK (drop m 1) 5 with | none => none | some d => if (nd m d).kids = [] then some (setKids (drop m 1) d [st m.stack 0]) else none) else none) = fitS (if atS (shp m) 1 = 5 ∧ (shp m).full.getD (st m.stack 1).toNat false = false then some { cutS (shp m) 1 with full := (shp m).full.set (st m.stack 1).toNat true } else none)
      have ea : atS (cutS (shp m) 1) 0 = atS (shp m) 1 := at_drop m 1 0 hlen
      by_cases h3 : atS (shp m) 1 = 5
      · have hs1 := atS_nonneg (s := shp m) (d := 1) (by omega)
        have es : st (drop m 1).stack 0 = st m.stack 1 := st_take m.stack 1 0 hs1.1
        rw [if_pos (t2.2 (by omega)), (topK_at (m := drop m 1) 5 (by omega)).1 (by rw [shp_drop, ea]; exact h3), es]
        have h5 : (nd m (st m.stack 1)).kind = 5 := by rw [← shp_at _ 1 hs1.1 hs1.2]; exact h3
        have hlt : (st m.stack 1).toNat < m.nodes.length := by have := (h.si _ (st_mem _ _ hs1.1)).2; have h' : 0 ≤ st m.stack 1 := hs1.2; omega
        have ef : (shp m).full.getD (st m.stack 1).toNat false = !(nd m (st m.stack 1)).kids.isEmpty := by
          have e : nd m (st m.stack 1) = m.nodes[(st m.stack 1).toNat] := by unfold nd; rw [List.getD_eq_getElem?_getD, List.getElem?_eq_getElem hlt]; rfl
          rw [e] at h5 ⊢
          simp [shp, List.getD_eq_getElem?_getD, List.getElem?_eq_getElem hlt, h5]
        rw [ef]
        simp only
        by_cases hq : (nd m (st m.stack 1)).kids = []
        · rw [if_pos hq, if_pos ⟨h3, by rw [hq]; rfl⟩]
          simp only [Option.map_some]
          rw [shp_state (m := drop m 1) _ _ h5, fit_ok h (by simp [cutS, shp]) (by simp [cutS, shp])]
          rfl
        · rw [if_neg hq, if_neg (fun e => hq (by have := e.2; simpa using this))]; rfl
      · have hn : (if atS (shp m) 1 = 5 ∧ (shp m).full.getD (st m.stack 1).toNat false = false then some { cutS (shp m) 1 with full := (shp m).full.set (st m.stack 1).toNat true } else none) = none := if_neg (fun e => h3 e.1)
        rw [hn, (topK_at (m := drop m 1) 5 (by omega)).2 (by rw [shp_drop, ea]; exact h3)]
        split <;> rfl
    · show Option.map shp (if 1 ≤ topN m.stack then some { m with memo := m.memo.set arg.toNat (st m.stack 0) } else none) = fitS (some { shp m with memo := m.memo.set arg.toNat (st m.stack 0) })
      rw [if_pos p1, fit_ok h (by simp [shp]) (by simp [shp])]; rfl
    · show Option.map shp (if 1 ≤ topN m.stack then some (drop m 1) else none) = fitS (some (cutS (shp m) 1))
      rw [if_pos p1, fit_drop h]; rfl
    · show Option.map shp (if m.stack.length = 1 ∧ topN m.stack = 1 then some { m with done := true } else none) = fitS (if m.stack.length = 1 then some { shp m with done := true } else none)
      by_cases h1 : m.stack.length = 1
      · rw [if_pos ⟨h1, by omega⟩, if_pos h1, fit_ok h (by simp [shp]) (by simp [shp])]; rfl
      · rw [if_neg (fun e => h1 e.1), if_neg h1]; rfl
theorem stepS_shp {B : Nat} {m : Mc} (h : okM B m) (hk : okK m) (o : Opr) (ho : okO o = true) : stepS (shp m) o = (stepP m o).map shp := by
  unfold stepS stepP
  show (if m.done = true then none else _) = _
  split
  · rfl
  · obtain ⟨n, hn, hc⟩ := code_cases ho
    obtain ⟨c, arg⟩ := o
    simp only at hc
    subst hc
    match n, hn with
    | 0, _ => exact (shp_push m 0 arg [] (fun _ => rfl)).symm
    | 1, _ => exact (shp_push m 1 arg [] (fun _ => rfl)).symm
    | 13, _ => exact (shp_push m 5 arg [] (fun _ => rfl)).symm
    | 4, _ => exact (shp_push m 2 0 [] (fun _ => rfl)).symm
    | 7, _ => exact (shp_push m 3 0 [] (fun _ => rfl)).symm
    | 10, _ => exact (shp_push m 4 0 [] (fun _ => rfl)).symm
    | 2, _ =>
      show fitS (some { shp m with stack := m.stack ++ [-1] }) = (push m (-1)).map shp
      unfold fitS push
      have h1 : (shp m).kinds.length ≤ 300 := by simpa [shp] using h.nl
      simp only [List.length_append, List.length_singleton]
      by_cases h2 : m.stack.length + 1 ≤ 300
      · rw [if_pos h2, if_pos ⟨h1, h2⟩]; rfl
      · rw [if_neg h2, if_neg (fun e => h2 e.2)]; rfl
    | 16, _ =>
      show fitS (if m.memo.getD arg.toNat 0 < 0 then none else some { shp m with stack := m.stack ++ [m.memo.getD arg.toNat 0] }) = (if 0 ≤ m.memo.getD arg.toNat 0 then push m (m.memo.getD arg.toNat 0) else none).map shp
      by_cases h0 : m.memo.getD arg.toNat 0 < 0
      · rw [if_pos h0, if_neg (by omega)]; rfl
      · rw [if_neg h0, if_pos (by omega)]
        unfold fitS push
        have h1 : (shp m).kinds.length ≤ 300 := by simpa [shp] using h.nl
        simp only [List.length_append, List.length_singleton]
        by_cases h2 : m.stack.length + 1 ≤ 300
        · rw [if_pos h2, if_pos ⟨h1, h2⟩]; rfl
        · rw [if_neg h2, if_neg (fun e => h2 e.2)]; rfl
    | 3, _ => exact (do_mark h hk 3 (by omega) arg).symm
    | 9, _ => exact (do_mark h hk 9 (by omega) arg).symm
    | 12, _ => exact (do_mark h hk 12 (by omega) arg).symm
    | 18, _ => exact (do_mark h hk 18 (by omega) arg).symm
    | 5, _ => exact (do_take h hk 5 (by omega) arg).symm
    | 6, _ => exact (do_take h hk 6 (by omega) arg).symm
    | 8, _ => exact (do_take h hk 8 (by omega) arg).symm
    | 11, _ => exact (do_take h hk 11 (by omega) arg).symm
    | 14, _ => exact (do_take h hk 14 (by omega) arg).symm
    | 15, _ => exact (do_take h hk 15 (by omega) arg).symm
    | 17, _ => exact (do_take h hk 17 (by omega) arg).symm
    | 19, _ => exact (do_take h hk 19 (by omega) arg).symm
end Go.Proofs.Ytgenllcfpjgklaa.P
namespace Go.Proofs.Ytgenllcfpjgklaa.P
theorem runS_shp : ∀ (l : List Opr) (B : Nat) (m : Mc), okM B m → okK m → l.all okO = true → runS (shp m) l = (shp (runP m l).1, (runP m l).2)
  | [], _, m, _, _, _ => rfl
  | o :: l, B, m, h, hk, hl => by
    rw [List.all_cons, Bool.and_eq_true] at hl
    simp only [runS, runP, stepS_shp h hk o hl.1]
    cases hs : stepP m o with
    | none => rfl
    | some m' =>
      simp only [Option.map_some]
      rw [runS_shp l _ m' (okM_step h hl.1 hs) (hk.step o hl.1 hs) hl.2]
theorem runS_new {l : List Opr} (hl : l.all okO = true) : runS newS l = (shp (runP newM l).1, (runP newM l).2) := runS_shp l 0 newM okM_new okK_new hl
/-- Just one node is on the stack. -/
def One (s : Sh) : Prop := s.stack.length = 1 ∧ 0 ≤ st s.stack 0
theorem markS_done {s r : Sh} {c : Int} (hr : markS s c = some r) : r.done = s.done := by
  unfold markS at hr
  split at hr
  · exact nomatch hr
  split at hr
  · injection hr with hr; subst hr; rfl
  split at hr
  · split at hr
    · injection hr with hr; subst hr; rfl
    · exact nomatch hr
  split at hr
  · split at hr
    · injection hr with hr; subst hr; rfl
    · exact nomatch hr
  · injection hr with hr; subst hr; rfl
theorem takeS_done {s r : Sh} {o : Opr} (hr : takeS s o = some r) : r.done = s.done ∨ One r := by
  unfold takeS at hr
  split at hr
  · exact nomatch hr
  rename_i h0
  have h1 := atS_nonneg (s := s) (d := 0) (by omega)
  split at hr
  · injection hr with hr; subst hr; exact .inl rfl
  split at hr
  · split at hr
    · exact nomatch hr
    · injection hr with hr; subst hr; exact .inl rfl
  split at hr
  · split at hr
    · injection hr with hr; subst hr; exact .inl rfl
    · exact nomatch hr
  split at hr
  · split at hr
    · injection hr with hr; subst hr; exact .inl rfl
    · exact nomatch hr
  split at hr
  · split at hr
    · injection hr with hr; subst hr; exact .inl rfl
    · exact nomatch hr
  split at hr
  · injection hr with hr; subst hr; exact .inl rfl
  split at hr
  · split at hr
    · rename_i h2
      injection hr with hr; subst hr; exact .inr ⟨h2, h1.2⟩
    · exact nomatch hr
  · injection hr with hr; subst hr; exact .inl rfl
theorem stepS_done {s r : Sh} {o : Opr} (hr : stepS s o = some r) : r.done = false ∨ One r := by
  unfold stepS at hr
  split at hr
  · exact nomatch hr
  · rename_i hd
    have hd : s.done = false := by simpa using hd
    unfold fitS at hr
    split at hr
    · exact nomatch hr
    · rename_i s1 h1
      split at hr
      · injection hr with hr; subst hr
        unfold rawS at h1
        split at h1
        · injection h1 with h1; subst h1; exact .inl hd
        split at h1
        · injection h1 with h1; subst h1; exact .inl hd
        split at h1
        · split at h1
          · exact nomatch h1
          · injection h1 with h1; subst h1; exact .inl hd
        split at h1
        · exact .inl ((markS_done h1).trans hd)
        · exact (takeS_done h1).imp (fun e => e.trans hd) id
      · exact nomatch hr
theorem runS_done : ∀ (l : List Opr) (s : Sh), (s.done = false ∨ One s) → ((runS s l).1.done = false ∨ One (runS s l).1)
  | [], s, h => h
  | o :: l, s, h => by
    simp only [runS]
    cases hs : stepS s o with
    | none => exact h
    | some s' => exact runS_done l s' (stepS_done hs)
theorem runP_one {l : List Opr} (hl : l.all okO = true) (hd : (runP newM l).1.done = true) : (runP newM l).1.stack.length = 1 ∧ 0 ≤ st (runP newM l).1.stack 0 := by
  have h := runS_done l newS (.inl rfl)
  have e := runS_shp l 0 newM okM_new okK_new hl
  rw [shp_new] at e
  rw [e] at h
  exact h.elim (fun h => by rw [show (shp (runP newM l).1).done = (runP newM l).1.done from rfl, hd] at h; exact nomatch h) (fun h => h)
theorem runP_le : ∀ (l : List Opr) (m : Mc), (runP m l).2 ≤ l.length
  | [], m => Nat.le_refl _
  | o :: l, m => by
    simp only [runP]
    cases stepP m o with
    | none => exact Nat.zero_le _
    | some m' => simp only [List.length_cons]; have := runP_le l m'; omega
end Go.Proofs.Ytgenllcfpjgklaa.P
