/- What stands in a machine stands after each order. -/
import Derived.Test.YtgenllcfpjgklaaPm
set_option linter.unusedVariables false
set_option linter.unusedSimpArgs false
namespace Go.Proofs.Ytgenllcfpjgklaa.P

theorem okM.mono {B B' : Nat} {m : Mc} (h : okM B m) (hB : B ≤ B') : okM B' m := ⟨h.nl, h.sl, h.ml, h.si, h.mi, fun n hn => ⟨Nat.le_trans (h.ki n hn).1 hB, (h.ki n hn).2⟩⟩
theorem okM.push {B : Nat} {m m' : Mc} (h : okM B m) (i : Int) (hi : -1 ≤ i ∧ i < m.nodes.length) (hp : push m i = some m') : okM B m' := by
  unfold P.push at hp
  split at hp
  · rename_i hl
    injection hp with hp
    subst hp
    exact ⟨h.nl, by simpa using hl, h.ml, fun x hx => (List.mem_append.1 hx).elim (h.si x) (fun e => by rw [List.mem_singleton] at e; subst e; exact hi), h.mi, h.ki⟩
  · exact nomatch hp
theorem okM.make {B : Nat} {m m' : Mc} (h : okM B m) (kind val : Int) (kids : List Int) (hk : ∀ x ∈ kids, 0 ≤ x ∧ x < m.nodes.length) (hl : kids.length ≤ B) (h4 : kind = 4 → kids.length % 2 = 0) (hp : P.mk m kind val kids = some m') : okM B m' := by
  unfold P.mk at hp
  split at hp
  · rename_i hn
    have h1 : okM B { m with nodes := m.nodes ++ [⟨kind, val, kids⟩] } := by
      refine ⟨by simpa using hn, h.sl, h.ml, fun x hx => ?_, fun x hx => ?_, fun n hn => ?_⟩
      · have := h.si x hx; simp only [List.length_append, List.length_singleton]; omega
      · have := h.mi x hx; simp only [List.length_append, List.length_singleton]; omega
      · simp only [List.length_append, List.length_singleton]
        rcases List.mem_append.1 hn with hn | hn
        · obtain ⟨a, b, c⟩ := h.ki n hn
          exact ⟨a, fun x hx => by have := b x hx; omega, c⟩
        · rw [List.mem_singleton] at hn; subst hn
          exact ⟨hl, fun x hx => by have := hk x hx; omega, h4⟩
    exact h1.push _ (by simp only [List.length_append, List.length_singleton]; omega) hp
  · exact nomatch hp
theorem okM.setKids {B B' : Nat} {m : Mc} (h : okM B m) (hB : B ≤ B') (d : Nat) (hd : d < m.nodes.length) (kids : List Int) (hk : ∀ x ∈ kids, 0 ≤ x ∧ x < m.nodes.length) (hl : kids.length ≤ B') (h4 : (nd m d).kind = 4 → kids.length % 2 = 0) : okM B' (setKids m d kids) := by
  have hn : (P.setKids m d kids).nodes.length = m.nodes.length := setKids_len _ _ _
  refine ⟨by rw [hn]; exact h.nl, h.sl, h.ml, fun x hx => by rw [hn]; exact h.si x hx, fun x hx => by rw [hn]; exact h.mi x hx, fun n hx => ?_⟩
  rw [hn]
  rcases List.mem_or_eq_of_mem_set hx with hx | rfl
  · obtain ⟨a, b⟩ := h.ki n hx; exact ⟨Nat.le_trans a hB, b⟩
  · exact ⟨hl, hk, h4⟩
theorem nd_mem {m : Mc} {d : Nat} (hd : d < m.nodes.length) : nd m d ∈ m.nodes := by
  unfold nd
  rw [Int.toNat_natCast, List.getD_eq_getElem?_getD, List.getElem?_eq_getElem hd]
  exact List.getElem_mem hd
theorem topK_ok {B : Nat} {m : Mc} (h : okM B m) {kind : Int} {d : Int} (hk : topK m kind = some d) : ∃ x : Nat, d = x ∧ x < m.nodes.length ∧ (nd m x).kind = kind := by
  unfold topK at hk
  split at hk
  · exact nomatch hk
  · rename_i ht
    split at hk
    · rename_i hkd
      injection hk with hk
      obtain ⟨x, hx, hxl⟩ := top_ok h (Nat.pos_of_ne_zero ht)
      exact ⟨x, by rw [← hk, hx], hxl, by rw [← hx]; exact hkd⟩
    · exact nomatch hk
theorem putAll_ok (nodes : List Nd) (n : Nat) : ∀ (l kids : List Int), (∀ x ∈ kids, 0 ≤ x ∧ x < (n : Int)) → (∀ x ∈ l, 0 ≤ x ∧ x < (n : Int)) → (∀ x ∈ putAll nodes kids l, 0 ≤ x ∧ x < (n : Int)) ∧ (putAll nodes kids l).length ≤ kids.length + l.length ∧ (putAll nodes kids l).length % 2 = kids.length % 2
  | [], kids, hk, _ => ⟨hk, Nat.le_refl _, rfl⟩
  | [a], kids, hk, _ => ⟨hk, by show kids.length ≤ _; omega, rfl⟩
  | a :: b :: r, kids, hk, hl => by
    have h1 := put1_len nodes kids a b
    have h2 := putAll_ok nodes n r (put1 nodes kids a b) (fun x hx => by
      rcases put1_mem _ _ _ _ _ hx with h | rfl | rfl
      · exact hk x h
      · exact hl _ (by simp)
      · exact hl _ (by simp)) (fun x hx => hl x (by simp [hx]))
    have e : putAll nodes kids (a :: b :: r) = putAll nodes (put1 nodes kids a b) r := rfl
    rw [e]
    exact ⟨h2.1, by simp only [List.length_cons]; omega, by omega⟩
theorem okM.setP {B : Nat} {m m' : Mc} (h : okM B m) (l : List Int) (hl : ∀ x ∈ l, 0 ≤ x ∧ x < m.nodes.length) (hn : l.length ≤ 300) (hp : setP m l = some m') : okM (B + 301) m' := by
  unfold P.setP at hp
  split at hp
  · exact nomatch hp
  · rename_i d hd
    obtain ⟨x, rfl, hx, hkd⟩ := topK_ok h hd
    split at hp
    · injection hp with hp
      subst hp
      have hk := h.ki _ (nd_mem hx)
      have hq := putAll_ok m.nodes m.nodes.length l (nd m x).kids hk.2.1 hl
      exact h.setKids (Nat.le_add_right _ _) x hx _ hq.1 (by omega) (fun h4 => by rw [hq.2.2]; exact hk.2.2 h4)
    · exact nomatch hp
theorem st_ok {B : Nat} {m : Mc} (h : okM B m) (d : Nat) (hd : d < topN m.stack) : 0 ≤ st m.stack d ∧ st m.stack d < m.nodes.length := by
  obtain ⟨h1, h2⟩ := topN_ge m.stack d hd
  rw [st_at _ _ h1]
  exact ⟨h2, (h.si _ (List.getElem_mem _)).2⟩

theorem doP_0 (m : Mc) (arg : Int) : doP m ⟨0, arg⟩ = mk m 0 arg [] := by rfl
theorem doP_1 (m : Mc) (arg : Int) : doP m ⟨1, arg⟩ = mk m 1 arg [] := by rfl
theorem doP_13 (m : Mc) (arg : Int) : doP m ⟨13, arg⟩ = mk m 5 arg [] := by rfl
theorem doP_4 (m : Mc) (arg : Int) : doP m ⟨4, arg⟩ = mk m 2 0 [] := by rfl
theorem doP_7 (m : Mc) (arg : Int) : doP m ⟨7, arg⟩ = mk m 3 0 [] := by rfl
theorem doP_10 (m : Mc) (arg : Int) : doP m ⟨10, arg⟩ = mk m 4 0 [] := by rfl
theorem doP_2 (m : Mc) (arg : Int) : doP m ⟨2, arg⟩ = push m (-1) := by rfl
theorem doP_3 (m : Mc) (arg : Int) : doP m ⟨3, arg⟩ = (match above m with | none => none | some (m', kids) => mk m' 2 0 kids) := by rfl
theorem doP_5 (m : Mc) (arg : Int) : doP m ⟨5, arg⟩ = (if 1 ≤ topN m.stack then mk (drop m 1) 2 0 [st m.stack 0] else none) := by rfl
theorem doP_6 (m : Mc) (arg : Int) : doP m ⟨6, arg⟩ = (if 2 ≤ topN m.stack then mk (drop m 2) 2 0 [st m.stack 1, st m.stack 0] else none) := by rfl
theorem doP_8 (m : Mc) (arg : Int) : doP m ⟨8, arg⟩ = (if 2 ≤ topN m.stack then (match topK (drop m 1) 3 with | none => none | some d => some (setKids (drop m 1) d ((nd m d).kids ++ [st m.stack 0]))) else none) := by rfl
theorem doP_9 (m : Mc) (arg : Int) : doP m ⟨9, arg⟩ = (match above m with | none => none | some (m', kids) => match topK m' 3 with | none => none | some d => some (setKids m' d ((nd m' d).kids ++ kids))) := by rfl
theorem doP_11 (m : Mc) (arg : Int) : doP m ⟨11, arg⟩ = (if 3 ≤ topN m.stack then setP (drop m 2) [st m.stack 1, st m.stack 0] else none) := by rfl
theorem doP_12 (m : Mc) (arg : Int) : doP m ⟨12, arg⟩ = (match above m with | none => none | some (m', pairs) => setP m' pairs) := by rfl
theorem doP_14 (m : Mc) (arg : Int) : doP m ⟨14, arg⟩ = (if 2 ≤ topN m.stack then (match topK (drop m 1) 5 with | none => none | some d => if (nd m d).kids = [] then some (setKids (drop m 1) d [st m.stack 0]) else none) else none) := by rfl
theorem doP_15 (m : Mc) (arg : Int) : doP m ⟨15, arg⟩ = (if 1 ≤ topN m.stack then some { m with memo := m.memo.set arg.toNat (st m.stack 0) } else none) := by rfl
theorem doP_16 (m : Mc) (arg : Int) : doP m ⟨16, arg⟩ = (if 0 ≤ m.memo.getD arg.toNat 0 then push m (m.memo.getD arg.toNat 0) else none) := by rfl
theorem doP_17 (m : Mc) (arg : Int) : doP m ⟨17, arg⟩ = (if 1 ≤ topN m.stack then some (drop m 1) else none) := by rfl
theorem doP_18 (m : Mc) (arg : Int) : doP m ⟨18, arg⟩ = (match above m with | none => none | some (m', _) => some m') := by rfl
theorem doP_19 (m : Mc) (arg : Int) : doP m ⟨19, arg⟩ = (if m.stack.length = 1 ∧ topN m.stack = 1 then some { m with done := true } else none) := by rfl
theorem okM_do {B : Nat} {m m' : Mc} (h : okM B m) (c arg : Int) (ho : okO ⟨c, arg⟩ = true) (hp : doP m ⟨c, arg⟩ = some m') : okM (B + 301) m' := by
  have hmn : B ≤ B + 301 := Nat.le_add_right _ _
  have htl := topN_le m.stack
  have hsl := h.sl
  simp only [okO, decide_eq_true_eq] at ho
  obtain ⟨h1, h2, h3, h4⟩ := ho
  obtain ⟨n, rfl⟩ := Int.eq_ofNat_of_zero_le h1
  have hn : n ≤ 19 := by omega
  match n, hn with
  | 0, _ =>
    replace hp := (doP_0 m arg).symm.trans hp
    exact (h.make _ _ [] (by simp) (by simp) (by simp) hp).mono hmn
  | 1, _ =>
    replace hp := (doP_1 m arg).symm.trans hp
    exact (h.make _ _ [] (by simp) (by simp) (by simp) hp).mono hmn
  | 2, _ =>
    replace hp := (doP_2 m arg).symm.trans hp
    exact (h.push (-1) (by omega) hp).mono hmn
  | 3, _ =>
    replace hp := (doP_3 m arg).symm.trans hp
    by_cases ht : topN m.stack = m.stack.length
    · rw [above_none ht] at hp; exact nomatch hp
    · rw [above_some ht] at hp
      exact ((h.mono hmn).drop _).make _ _ _ (h.top _ (Nat.le_refl _)) (by rw [List.length_drop]; omega) (by simp) hp
  | 4, _ =>
    replace hp := (doP_4 m arg).symm.trans hp
    exact (h.make _ _ [] (by simp) (by simp) (by simp) hp).mono hmn
  | 5, _ =>
    replace hp := (doP_5 m arg).symm.trans hp
    split at hp
    · exact ((h.mono hmn).drop _).make _ _ _ (fun x hx => by rw [List.mem_singleton] at hx; subst hx; exact st_ok h 0 (by omega)) (by simp) (by simp) hp
    · exact nomatch hp
  | 6, _ =>
    replace hp := (doP_6 m arg).symm.trans hp
    split at hp
    · refine ((h.mono hmn).drop _).make _ _ _ (fun x hx => ?_) (by simp) (by simp) hp
      simp only [List.mem_cons, List.not_mem_nil, or_false] at hx
      rcases hx with rfl | rfl
      · exact st_ok h 1 (by omega)
      · exact st_ok h 0 (by omega)
    · exact nomatch hp
  | 7, _ =>
    replace hp := (doP_7 m arg).symm.trans hp
    exact (h.make _ _ [] (by simp) (by simp) (by simp) hp).mono hmn
  | 8, _ =>
    replace hp := (doP_8 m arg).symm.trans hp
    split at hp
    · split at hp
      · exact nomatch hp
      · rename_i d hd
        injection hp with hp
        subst hp
        obtain ⟨x, rfl, hx, hkd⟩ := topK_ok (h.drop 1) hd
        have hk := h.ki _ (nd_mem hx)
        have e : nd m x = nd (drop m 1) x := rfl
        refine (h.drop 1).setKids hmn x hx _ (fun y hy => ?_) (by rw [List.length_append]; have := hk.1; simp only [e] at *; simp; omega) (fun h4 => by rw [hkd] at h4; omega)
        rcases List.mem_append.1 hy with hy | hy
        · exact hk.2.1 y hy
        · rw [List.mem_singleton] at hy; subst hy; exact st_ok h 0 (by omega)
    · exact nomatch hp
  | 9, _ =>
    replace hp := (doP_9 m arg).symm.trans hp
    by_cases ht : topN m.stack = m.stack.length
    · rw [above_none ht] at hp; exact nomatch hp
    · rw [above_some ht] at hp
      simp only at hp
      split at hp
      · exact nomatch hp
      · rename_i d hd
        injection hp with hp
        subst hp
        obtain ⟨x, rfl, hx, hkd⟩ := topK_ok (h.drop _) hd
        have hk := h.ki _ (nd_mem hx)
        have hkl : (nd (drop m (topN m.stack + 1)) x).kids.length ≤ B := hk.1
        refine (h.drop _).setKids hmn x hx _ (fun y hy => ?_) (by rw [List.length_append, List.length_drop]; omega) (fun h4 => by rw [hkd] at h4; omega)
        rcases List.mem_append.1 hy with hy | hy
        · exact hk.2.1 y hy
        · exact h.top _ (Nat.le_refl _) y hy
  | 10, _ =>
    replace hp := (doP_10 m arg).symm.trans hp
    exact (h.make _ _ [] (by simp) (by simp) (by simp) hp).mono hmn
  | 11, _ =>
    replace hp := (doP_11 m arg).symm.trans hp
    split at hp
    · refine (h.drop 2).setP _ (fun x hx => ?_) (by simp) hp
      simp only [List.mem_cons, List.not_mem_nil, or_false] at hx
      rcases hx with rfl | rfl
      · exact st_ok h 1 (by omega)
      · exact st_ok h 0 (by omega)
    · exact nomatch hp
  | 12, _ =>
    replace hp := (doP_12 m arg).symm.trans hp
    by_cases ht : topN m.stack = m.stack.length
    · rw [above_none ht] at hp; exact nomatch hp
    · rw [above_some ht] at hp
      exact (h.drop _).setP _ (h.top _ (Nat.le_refl _)) (by rw [List.length_drop]; omega) hp
  | 13, _ =>
    replace hp := (doP_13 m arg).symm.trans hp
    exact (h.make _ _ [] (by simp) (by simp) (by simp) hp).mono hmn
  | 14, _ =>
    replace hp := (doP_14 m arg).symm.trans hp
    split at hp
    · split at hp
      · exact nomatch hp
      · rename_i d hd
        split at hp
        · injection hp with hp
          subst hp
          obtain ⟨x, rfl, hx, hkd⟩ := topK_ok (h.drop 1) hd
          exact (h.drop 1).setKids hmn x hx _ (fun y hy => by rw [List.mem_singleton] at hy; subst hy; exact st_ok h 0 (by omega)) (by simp) (fun h4 => by rw [hkd] at h4; omega)
        · exact nomatch hp
    · exact nomatch hp
  | 15, _ =>
    replace hp := (doP_15 m arg).symm.trans hp
    split at hp
    · injection hp with hp
      subst hp
      refine ⟨h.nl, h.sl, by simpa using h.ml, h.si, fun x hx => ?_, (h.mono hmn).ki⟩
      rcases List.mem_or_eq_of_mem_set hx with hx | rfl
      · exact h.mi x hx
      · have := st_ok h 0 (by omega); exact ⟨by omega, this.2⟩
    · exact nomatch hp
  | 16, _ =>
    replace hp := (doP_16 m arg).symm.trans hp
    split at hp
    · refine (h.push _ ?_ hp).mono hmn
      rw [List.getD_eq_getElem?_getD]
      by_cases hl : arg.toNat < m.memo.length
      · rw [List.getElem?_eq_getElem hl]; exact h.mi _ (List.getElem_mem _)
      · have : mostA ((16 : Nat) : Int) = 19 := rfl
        have := h.ml
        omega
    · exact nomatch hp
  | 17, _ =>
    replace hp := (doP_17 m arg).symm.trans hp
    split at hp
    · injection hp with hp; subst hp; exact (h.drop 1).mono hmn
    · exact nomatch hp
  | 18, _ =>
    replace hp := (doP_18 m arg).symm.trans hp
    by_cases ht : topN m.stack = m.stack.length
    · rw [above_none ht] at hp; exact nomatch hp
    · rw [above_some ht] at hp
      injection hp with hp; subst hp; exact (h.drop _).mono hmn
  | 19, _ =>
    replace hp := (doP_19 m arg).symm.trans hp
    split at hp
    · injection hp with hp; subst hp; exact ⟨h.nl, h.sl, h.ml, h.si, h.mi, (h.mono hmn).ki⟩
    · exact nomatch hp
  | n + 20, hn => omega
theorem okM_step {B : Nat} {m m' : Mc} {o : Opr} (h : okM B m) (ho : okO o = true) (hp : stepP m o = some m') : okM (B + 301) m' := by
  unfold stepP at hp
  split at hp
  · exact nomatch hp
  · obtain ⟨c, a⟩ := o
    exact okM_do h c a ho hp
theorem okM_new : okM 0 newM := ⟨by simp [newM], by simp [newM], by simp [newM], by simp [newM], fun x hx => by
  simp only [newM, List.mem_replicate] at hx
  rw [hx.2]; simp [newM], by simp [newM]⟩
theorem vOps_all {l : List Opr} (h : vOps l = true) : l.all okO = true ∧ l.length ≤ 300 := by
  simp only [vOps, Bool.and_eq_true, decide_eq_true_eq] at h
  exact h
/-- How many are below zero. -/
def cntN (l : List Int) : Nat := (l.filter (fun x => decide (x < 0))).length
theorem cntN_le (l : List Int) : cntN l ≤ l.length := List.length_filter_le _ _
theorem cntN_nil : cntN [] = 0 := rfl
theorem cntN_y (l : List Int) (k : Nat) (h : k < l.length) (hx : l[k] < 0) : cntN (l.take (k + 1)) = cntN (l.take k) + 1 := by
  rw [List.take_succ_eq_append_getElem h]
  unfold cntN
  rw [List.filter_append, List.length_append, List.filter_cons_of_pos (by simpa using hx)]
  rfl
theorem cntN_n (l : List Int) (k : Nat) (h : k < l.length) (hx : ¬ l[k] < 0) : cntN (l.take (k + 1)) = cntN (l.take k) := by
  rw [List.take_succ_eq_append_getElem h]
  unfold cntN
  rw [List.filter_append, List.length_append, List.filter_cons_of_neg (by simpa using hx)]
  rfl
end Go.Proofs.Ytgenllcfpjgklaa.P
