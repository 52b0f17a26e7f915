/- The reference's machine does what the plain machine does: one order. -/
import Derived.Test.YtcodbpjaamggeaaMf
set_option linter.unusedVariables false
set_option linter.unusedSimpArgs false
set_option linter.unusedSectionVars false
namespace Go.Proofs.Ytcodbpjaamggeaa.C
open Go.RowKit Go.Proofs.Ytcodbpjaamggeaa.W Go.Proofs.Ytcodbpjaamggeaa.P

theorem topP_ge {m : Mc} {d : Nat} (h : d < topN m.stack) : 0 ≤ topP m d ∧ topP m d = st m.stack d ∧ d < m.stack.length := by
  obtain ⟨h1, h2⟩ := topN_ge _ _ h
  rw [topP_at h1, st_at _ _ h1]
  exact ⟨h2, rfl, h1⟩
theorem topP_lt {m : Mc} {d : Nat} (h : topN m.stack = d) : topP m d < 0 := by
  unfold topP
  split
  · rename_i h1
    subst h
    rw [st_at _ _ h1]
    exact topN_stop _ h1
  · omega
theorem mfit_some {m : Mc} (h1 : m.nodes.length ≤ 300) (h2 : m.stack.length ≤ 300) : fitM m = some m := by unfold fitM; rw [if_pos ⟨h1, h2⟩]
theorem mk_fit (m : Mc) (kind val : Int) (kids : List Int) : mk m kind val kids = fitM (pushN m kind val kids) := by
  unfold mk P.push fitM pushN addS addN
  simp only [List.length_append, List.length_singleton]
  by_cases h1 : m.nodes.length + 1 ≤ 300
  · by_cases h2 : m.stack.length + 1 ≤ 300
    · simp [h1, h2]
    · simp [h1, h2]
  · simp [h1]
theorem push_fit (m : Mc) (i : Int) (h : m.nodes.length ≤ 300) : P.push m i = fitM (addS m i) := by
  unfold P.push fitM addS
  simp only [List.length_append, List.length_singleton]
  by_cases h2 : m.stack.length + 1 ≤ 300
  · simp [h, h2]
  · simp [h2]
theorem top_gt {m : Mc} {d : Nat} (h : d ≤ topN m.stack) (h0 : 0 ≤ topP m d) : d < topN m.stack := by
  rcases Nat.lt_or_ge d (topN m.stack) with h1 | h1
  · exact h1
  · have := topP_lt (m := m) (d := d) (by omega)
    omega
theorem topP_drop {m : Mc} {n : Nat} (hn : n ≤ m.stack.length) (d : Nat) : topP (drop m n) d = topP m (d + n) := by
  unfold topP
  rw [drop_len]
  by_cases h : d + n < m.stack.length
  · rw [if_pos (by omega), if_pos h]
    exact st_take m.stack n d h
  · rw [if_neg (by omega), if_neg h]
theorem kindP_drop (m : Mc) (n : Nat) (x : Int) : kindP (drop m n) x = kindP m x := rfl
theorem topK_eq (m : Mc) (kind : Int) (hk : 0 ≤ kind) : topK m kind = if kindP m (topP m 0) = kind then some (topP m 0) else none := by
  unfold topK
  by_cases h : topN m.stack = 0
  · have h1 := topP_lt (m := m) h
    rw [if_pos h]
    unfold kindP
    rw [if_pos h1, if_neg (by omega)]
  · obtain ⟨h1, h2, _⟩ := topP_ge (m := m) (d := 0) (by omega)
    rw [if_neg h, ← h2]
    have hk' : kindP m (topP m 0) = (nd m (topP m 0)).kind := by unfold kindP; rw [if_neg (by omega)]
    rw [hk']
theorem kindP_at {Bd : Nat} {m : Mc} (hok : okM Bd m) {d : Nat} {kind : Int} (hk : 0 ≤ kind) (h : kindP m (topP m d) = kind) : ∃ x : Nat, topP m d = x ∧ x < m.nodes.length ∧ (nd m x).kind = kind := by
  have hl := topP_lm hok d
  unfold kindP at h
  split at h
  · omega
  · rename_i h0
    obtain ⟨x, hx⟩ := Int.eq_ofNat_of_zero_le (Int.not_lt.1 h0)
    rw [hx] at hl h
    exact ⟨x, hx, by omega, h⟩
/-- What one of the two functions returns, and how the bounds make it the plain order. -/
def CallsOK (m : Mc) (f : Nat) (code arg : Int) : Prop := ∃ r, (∀ (B : Nat → Prop) (w : World) l vN vS vM, MW B w l vN vS vM m → Calls Try.prog f #[.agg #[vN, vS, vM, .bool m.done], .agg #[.int .i64 code, .int .i64 arg]] w (StepX B r w)) ∧ doP m ⟨code, arg⟩ = r.bind fitM
section
variable {Bd : Nat} {m : Mc} (hok : okM Bd m) (hBd : Bd ≤ 900000) (hkz : ∀ n ∈ m.nodes, 0 ≤ n.kind) (arg : Int)
include hok hBd
theorem no_top (code : Int) (ht : topP m 0 < 0) (hd : doP m ⟨code, arg⟩ = none) : CallsOK m 149 code arg :=
  ⟨none, fun B w l vN vS vM h => stepTop_0 h hok (by omega) arg code ht, by rw [hd]; rfl⟩
theorem fits {m' : Mc} (h1 : m'.nodes.length = m.nodes.length) (h2 : m'.stack.length ≤ m.stack.length) : fitM m' = some m' := mfit_some (by rw [h1]; exact hok.nl) (Nat.le_trans h2 hok.sl)
theorem no_n (ht : ¬ 0 ≤ topP m 0) : topN m.stack = 0 := by
  rcases Nat.eq_zero_or_pos (topN m.stack) with h | h
  · exact h
  · exact absurd (topP_ge h).1 ht
theorem ok_5 : CallsOK m 149 5 arg := by
  by_cases ht : 0 ≤ topP m 0
  · have h1 : 1 ≤ topN m.stack := top_gt (Nat.zero_le _) ht
    refine ⟨_, fun B w l vN vS vM h => stepTop_5 h hok (by omega) arg ht, ?_⟩
    rw [doP_5, if_pos h1, mk_fit, (topP_ge (d := 0) h1).2.1]; rfl
  · have h1 := no_n hok hBd ht
    exact no_top hok hBd arg 5 (by omega) (by rw [doP_5, if_neg (by omega)])
theorem ok_6 : CallsOK m 149 6 arg := by
  by_cases ht : 0 ≤ topP m 0
  · have h1 : 1 ≤ topN m.stack := top_gt (Nat.zero_le _) ht
    by_cases ht2 : 0 ≤ topP m 1
    · have h2 : 2 ≤ topN m.stack := top_gt h1 ht2
      refine ⟨_, fun B w l vN vS vM h => stepTop_6 h hok (by omega) arg ht ht2, ?_⟩
      rw [doP_6, if_pos h2, mk_fit, (topP_ge (d := 0) h1).2.1, (topP_ge (d := 1) h2).2.1]; rfl
    · refine ⟨none, fun B w l vN vS vM h => stepTop_6n h hok (by omega) arg ht (by omega), ?_⟩
      rw [doP_6, if_neg (fun h : 2 ≤ topN m.stack => ht2 (topP_ge (d := 1) h).1)]; rfl
  · have h1 := no_n hok hBd ht
    exact no_top hok hBd arg 6 (by omega) (by rw [doP_6, if_neg (by omega)])
theorem ok_17 : CallsOK m 149 17 arg := by
  by_cases ht : 0 ≤ topP m 0
  · have h1 : 1 ≤ topN m.stack := top_gt (Nat.zero_le _) ht
    refine ⟨_, fun B w l vN vS vM h => stepTop_17 h hok (by omega) arg ht, ?_⟩
    rw [doP_17, if_pos h1]
    exact (fits hok hBd (m' := drop m 1) rfl (by rw [drop_len]; omega)).symm
  · have h1 := no_n hok hBd ht
    exact no_top hok hBd arg 17 (by omega) (by rw [doP_17, if_neg (by omega)])
theorem ok_19 : CallsOK m 149 19 arg := by
  by_cases ht : 0 ≤ topP m 0
  · have h1 : 1 ≤ topN m.stack := top_gt (Nat.zero_le _) ht
    refine ⟨_, fun B w l vN vS vM h => stepTop_19 h hok (by omega) arg ht, ?_⟩
    have h2 := topN_le m.stack
    rw [doP_19]
    unfold doneP
    by_cases hl : m.stack.length = 1
    · rw [if_pos ⟨hl, by omega⟩, if_pos hl]
      exact (fits hok hBd (m' := { m with done := true }) rfl (Nat.le_refl _)).symm
    · rw [if_neg (fun h => hl h.1), if_neg hl]; rfl
  · have h1 := no_n hok hBd ht
    exact no_top hok hBd arg 19 (by omega) (by rw [doP_19, if_neg (by omega)])
theorem ok_15 (j : Nat) (hj : j < 20) : CallsOK m 149 15 j := by
  by_cases ht : 0 ≤ topP m 0
  · have h1 : 1 ≤ topN m.stack := top_gt (Nat.zero_le _) ht
    refine ⟨_, fun B w l vN vS vM h => stepTop_15 h hok (by omega) j hj ht, ?_⟩
    rw [doP_15, if_pos h1, (topP_ge (d := 0) h1).2.1, Int.toNat_natCast]
    exact (fits hok hBd (m' := { m with memo := m.memo.set j (st m.stack 0) }) rfl (Nat.le_refl _)).symm
  · have h1 := no_n hok hBd ht
    exact no_top hok hBd j 15 (by omega) (by rw [doP_15, if_neg (by omega)])
theorem ok_8 : CallsOK m 149 8 arg := by
  by_cases ht : 0 ≤ topP m 0
  · have h1 : 1 ≤ topN m.stack := top_gt (Nat.zero_le _) ht
    have hl := topN_le m.stack
    have hk : topK (drop m 1) 3 = if kindP m (topP m 1) = 3 then some (topP m 1) else none := by
      rw [topK_eq _ _ (by decide), topP_drop (by omega), kindP_drop]
    by_cases h3 : kindP m (topP m 1) = 3
    · obtain ⟨x, hx, hxl, hxk⟩ := kindP_at hok (by decide) h3
      have h2 : 2 ≤ topN m.stack := top_gt h1 (by rw [hx]; exact Int.natCast_nonneg x)
      refine ⟨_, fun B w l vN vS vM h => stepTop_8 h hok (by omega) arg ht x hx hxl hxk, ?_⟩
      rw [doP_8, if_pos h2, hk, if_pos h3, hx, (topP_ge (d := 0) h1).2.1]
      exact (fits hok hBd (m' := drop (setKids m x ((nd m x).kids ++ [st m.stack 0])) 1) (setKids_len _ _ _) (by rw [drop_len]; show m.stack.length - 1 ≤ _; omega)).symm
    · refine ⟨none, fun B w l vN vS vM h => stepTop_8n h hok (by omega) arg ht h3, ?_⟩
      rw [doP_8, hk, if_neg h3]
      simp
  · have h1 := no_n hok hBd ht
    exact no_top hok hBd arg 8 (by omega) (by rw [doP_8, if_neg (by omega)])
theorem ok_14 : CallsOK m 149 14 arg := by
  by_cases ht : 0 ≤ topP m 0
  · have h1 : 1 ≤ topN m.stack := top_gt (Nat.zero_le _) ht
    have hl := topN_le m.stack
    have hk : topK (drop m 1) 5 = if kindP m (topP m 1) = 5 then some (topP m 1) else none := by
      rw [topK_eq _ _ (by decide), topP_drop (by omega), kindP_drop]
    by_cases h3 : kindP m (topP m 1) = 5
    · obtain ⟨x, hx, hxl, hxk⟩ := kindP_at hok (by decide) h3
      have h2 : 2 ≤ topN m.stack := top_gt h1 (by rw [hx]; exact Int.natCast_nonneg x)
      by_cases he : (nd m x).kids = []
      · refine ⟨_, fun B w l vN vS vM h => stepTop_14 h hok (by omega) arg ht x hx hxl hxk he, ?_⟩
        rw [doP_14, if_pos h2, hk, if_pos h3, hx, (topP_ge (d := 0) h1).2.1]
        simp only [he, if_true]
        exact (fits hok hBd (m' := drop (setKids m x [st m.stack 0]) 1) (setKids_len _ _ _) (by rw [drop_len]; show m.stack.length - 1 ≤ _; omega)).symm
      · refine ⟨none, fun B w l vN vS vM h => stepTop_14m h hok (by omega) arg ht x hx hxl hxk he, ?_⟩
        rw [doP_14, if_pos h2, hk, if_pos h3, hx]
        simp [he]
    · refine ⟨none, fun B w l vN vS vM h => stepTop_14n h hok (by omega) arg ht h3, ?_⟩
      rw [doP_14, hk, if_neg h3]
      simp
  · have h1 := no_n hok hBd ht
    exact no_top hok hBd arg 14 (by omega) (by rw [doP_14, if_neg (by omega)])
include hkz in
theorem ok_11 : CallsOK m 149 11 arg := by
  by_cases ht : 0 ≤ topP m 0
  · have h1 : 1 ≤ topN m.stack := top_gt (Nat.zero_le _) ht
    have hl := topN_le m.stack
    by_cases ht2 : 0 ≤ topP m 1
    · have h2 : 2 ≤ topN m.stack := top_gt h1 ht2
      have hk : topK (drop m 2) 4 = if kindP m (topP m 2) = 4 then some (topP m 2) else none := by
        rw [topK_eq _ _ (by decide), topP_drop (by omega), kindP_drop]
      by_cases h3 : kindP m (topP m 2) = 4
      · obtain ⟨x, hx, hxl, hxk⟩ := kindP_at hok (by decide) h3
        have h4 : 3 ≤ topN m.stack := top_gt h2 (by rw [hx]; exact Int.natCast_nonneg x)
        obtain ⟨y, hy⟩ := Int.eq_ofNat_of_zero_le ht2
        have hyl : y < m.nodes.length := by have := topP_lm hok 1; omega
        have hyd : m.nodes.getD y default = m.nodes[y] := by rw [List.getD_eq_getElem?_getD, List.getElem?_eq_getElem hyl]; rfl
        have hyz := hkz _ (List.getElem_mem hyl)
        have hg : goodK m.nodes [st m.stack 1, st m.stack 0] = decide (m.nodes[y].kind ≤ 1) := by
          rw [← (topP_ge (d := 1) h2).2.1, hy]
          simp only [goodK, Int.toNat_natCast, hyd, Bool.and_true]
        by_cases hyk : m.nodes[y].kind = 0 ∨ m.nodes[y].kind = 1
        · refine ⟨_, fun B w l vN vS vM h => stepTop_11 h hok (by omega) arg ht x y hy hyl hx hxl hxk hyk, ?_⟩
          rw [doP_11, if_pos h4]
          unfold setP
          rw [hk, if_pos h3, hx]
          simp only
          rw [if_pos ⟨by simp, by show goodK m.nodes _ = true; rw [hg]; simp; omega⟩, ← (topP_ge (d := 1) h2).2.1, ← (topP_ge (d := 0) h1).2.1, hy]
          exact (fits hok hBd (m' := drop (setKids m x (put1 m.nodes (nd m x).kids y (topP m 0))) 2) (setKids_len _ _ _) (by rw [drop_len]; show m.stack.length - 2 ≤ _; omega)).symm
        · refine ⟨none, fun B w l vN vS vM h => stepTop_11c h hok (by omega) arg ht x y hy hyl hx hxl hxk hyk, ?_⟩
          rw [doP_11, if_pos h4]
          unfold setP
          rw [hk, if_pos h3]
          simp only
          rw [if_neg (fun h => ?_)]
          · rfl
          · have h5 := h.2
            have h6 : goodK m.nodes [st m.stack 1, st m.stack 0] = true := h5
            rw [hg] at h6
            simp at h6
            omega
      · refine ⟨none, fun B w l vN vS vM h => stepTop_11b h hok (by omega) arg ht ht2 h3, ?_⟩
        rw [doP_11]
        unfold setP
        rw [hk, if_neg h3]
        simp
    · refine ⟨none, fun B w l vN vS vM h => stepTop_11a h hok (by omega) arg ht (by omega), ?_⟩
      rw [doP_11, if_neg (fun h => ht2 (topP_ge (d := 1) (by omega)).1)]; rfl
  · have h1 := no_n hok hBd ht
    exact no_top hok hBd arg 11 (by omega) (by rw [doP_11, if_neg (by omega)])
theorem no_mark (code : Int) (ht : topN m.stack = m.stack.length) (hd : doP m ⟨code, arg⟩ = none) : CallsOK m 148 code arg :=
  ⟨none, fun B w l vN vS vM h => stepMark_0 h hok hBd arg code ht, by rw [hd]; rfl⟩
theorem ok_3 : CallsOK m 148 3 arg := by
  by_cases ht : topN m.stack = m.stack.length
  · exact no_mark hok hBd arg 3 ht (by rw [doP_3, above_none ht])
  · refine ⟨_, fun B w l vN vS vM h => stepMark_3 h hok hBd arg ht, ?_⟩
    rw [doP_3, above_some ht]
    exact mk_fit _ _ _ _
theorem ok_18 : CallsOK m 148 18 arg := by
  by_cases ht : topN m.stack = m.stack.length
  · exact no_mark hok hBd arg 18 ht (by rw [doP_18, above_none ht])
  · refine ⟨_, fun B w l vN vS vM h => stepMark_18 h hok hBd arg ht, ?_⟩
    rw [doP_18, above_some ht]
    exact (fits hok hBd (m' := drop m (topN m.stack + 1)) rfl (by rw [drop_len]; omega)).symm
theorem ok_9 : CallsOK m 148 9 arg := by
  by_cases ht : topN m.stack = m.stack.length
  · exact no_mark hok hBd arg 9 ht (by rw [doP_9, above_none ht])
  · have hk := topK_eq (drop m (topN m.stack + 1)) 3 (by decide)
    by_cases h3 : kindP (drop m (topN m.stack + 1)) (topP (drop m (topN m.stack + 1)) 0) = 3
    · obtain ⟨x, hx, hxl, hxk⟩ := kindP_at (hok.drop _) (by decide) h3
      refine ⟨_, fun B w l vN vS vM h => stepMark_9 h hok hBd arg ht x hx hxl hxk, ?_⟩
      rw [doP_9, above_some ht]
      simp only
      rw [hk, if_pos h3, hx]
      exact (fits hok hBd (m' := setKids (drop m (topN m.stack + 1)) x ((nd m x).kids ++ m.stack.drop (m.stack.length - topN m.stack))) (setKids_len _ _ _) (by show (drop m _).stack.length ≤ _; rw [drop_len]; omega)).symm
    · refine ⟨none, fun B w l vN vS vM h => stepMark_9n h hok hBd arg ht h3, ?_⟩
      rw [doP_9, above_some ht]
      simp only
      rw [hk, if_neg h3]; rfl
include hkz in
theorem ok_12 : CallsOK m 148 12 arg := by
  by_cases ht : topN m.stack = m.stack.length
  · exact no_mark hok hBd arg 12 ht (by rw [doP_12, above_none ht])
  · have hk := topK_eq (drop m (topN m.stack + 1)) 4 (by decide)
    by_cases h3 : kindP (drop m (topN m.stack + 1)) (topP (drop m (topN m.stack + 1)) 0) = 4
    · obtain ⟨x, hx, hxl, hxk⟩ := kindP_at (hok.drop _) (by decide) h3
      cases hg : goodK m.nodes (m.stack.drop (m.stack.length - topN m.stack)) with
      | true =>
        refine ⟨_, fun B w l vN vS vM h => stepMark_12 h hok hBd arg ht x hx hxl hxk hkz hg, ?_⟩
        have hev : (m.stack.drop (m.stack.length - topN m.stack)).length % 2 = 0 := by
          by_cases he : (m.stack.drop (m.stack.length - topN m.stack)).length % 2 = 0
          · exact he
          · have := goodK_odd m.nodes _ he
            rw [hg] at this; exact nomatch this
        rw [doP_12, above_some ht]
        simp only
        unfold setP
        rw [hk, if_pos h3, hx]
        simp only
        rw [if_pos ⟨hev, hg⟩]
        exact (fits hok hBd (m' := setKids (drop m (topN m.stack + 1)) x (putAll m.nodes (nd m x).kids (m.stack.drop (m.stack.length - topN m.stack)))) (setKids_len _ _ _) (by show (drop m _).stack.length ≤ _; rw [drop_len]; omega)).symm
      | false =>
        refine ⟨none, fun B w l vN vS vM h => stepMark_12k h hok hBd arg ht x hx hxl hxk hkz hg, ?_⟩
        rw [doP_12, above_some ht]
        simp only
        unfold setP
        rw [hk, if_pos h3]
        simp only
        rw [if_neg (fun h => by have h5 := h.2; have h6 : goodK m.nodes _ = true := h5; rw [hg] at h6; exact nomatch h6)]; rfl
    · refine ⟨none, fun B w l vN vS vM h => stepMark_12n h hok hBd arg ht h3, ?_⟩
      rw [doP_12, above_some ht]
      simp only
      unfold setP
      rw [hk, if_neg h3]; rfl
end
theorem mstep_T {m : Mc} {Bd : Nat} (hok : okM Bd m) (hd : m.done = false) (code arg : Int) (hne : code ≠ 0 ∧ code ≠ 1 ∧ code ≠ 4 ∧ code ≠ 7 ∧ code ≠ 10 ∧ code ≠ 13 ∧ code ≠ 2 ∧ code ≠ 16 ∧ code ≠ 3 ∧ code ≠ 9 ∧ code ≠ 12 ∧ code ≠ 18) (hT : CallsOK m 149 code arg)
    {B w l vN vS vM} (h : MW B w l vN vS vM m) : Calls Try.prog 123 #[.agg #[vN, vS, vM, .bool m.done], .agg #[.int .i64 code, .int .i64 arg]] w (StepX B (doP m ⟨code, arg⟩) w) := by
  obtain ⟨r, h1, h2⟩ := hT
  rw [h2]
  cases r with
  | none => exact mstep_T_n h hok hd code arg hne h1
  | some m1 => exact mstep_T_s h hok hd code arg hne m1 h1
theorem mstep_c {B Bd w l vN vS vM m} (h : MW B w l vN vS vM m) (hok : okM Bd m) (hBd : Bd ≤ 900000) (hkz : ∀ n ∈ m.nodes, 0 ≤ n.kind) (o : Opr) (ho : okO o = true) :
    Calls Try.prog 123 #[.agg #[vN, vS, vM, .bool m.done], .agg #[.int .i64 o.code, .int .i64 o.arg]] w (StepX B (stepP m o) w) := by
  obtain ⟨c, arg⟩ := o
  show Calls Try.prog 123 #[.agg #[vN, vS, vM, .bool m.done], .agg #[.int .i64 c, .int .i64 arg]] w (StepX B (stepP m ⟨c, arg⟩) w)
  unfold stepP
  cases hd : m.done with
  | true =>
    have := mstep_done h hok hd c arg
    rw [hd] at this
    exact this
  | false =>
    suffices hh : Calls Try.prog 123 #[.agg #[vN, vS, vM, .bool m.done], .agg #[.int .i64 c, .int .i64 arg]] w (StepX B (doP m ⟨c, arg⟩) w) by
      rw [hd] at hh
      exact hh
    simp only [okO, decide_eq_true_eq] at ho
    obtain ⟨h1, h2, h3, h4⟩ := ho
    obtain ⟨n, rfl⟩ := Int.eq_ofNat_of_zero_le h1
    have hn : n ≤ 19 := by omega
    have hM : ∀ (code : Int), CallsOK m 148 code arg → (∀ m1 : Mc, (∀ (B : Nat → Prop) (w : World) l vN vS vM, MW B w l vN vS vM m → Calls Try.prog 148 #[.agg #[vN, vS, vM, .bool m.done], .agg #[.int .i64 code, .int .i64 arg]] w (StepX B (some m1) w)) → Calls Try.prog 123 #[.agg #[vN, vS, vM, .bool m.done], .agg #[.int .i64 code, .int .i64 arg]] w (StepX B (fitM m1) w)) →
        ((∀ (B : Nat → Prop) (w : World) l vN vS vM, MW B w l vN vS vM m → Calls Try.prog 148 #[.agg #[vN, vS, vM, .bool m.done], .agg #[.int .i64 code, .int .i64 arg]] w (StepX B none w)) → Calls Try.prog 123 #[.agg #[vN, vS, vM, .bool m.done], .agg #[.int .i64 code, .int .i64 arg]] w (StepX B none w)) →
        Calls Try.prog 123 #[.agg #[vN, vS, vM, .bool m.done], .agg #[.int .i64 code, .int .i64 arg]] w (StepX B (doP m ⟨code, arg⟩) w) := by
      rintro code ⟨r, g1, g2⟩ ks kn
      rw [g2]
      cases r with
      | none => exact kn g1
      | some m1 => exact ks m1 g1
    match n, hn with
    | 0, _ => rw [show doP m ⟨((0 : Nat) : Int), arg⟩ = _ from (doP_0 m arg).trans (mk_fit _ _ _ _)]; exact mstep_0 h hok hd arg
    | 1, _ => rw [show doP m ⟨((1 : Nat) : Int), arg⟩ = _ from (doP_1 m arg).trans (mk_fit _ _ _ _)]; exact mstep_1 h hok hd arg
    | 2, _ => rw [show doP m ⟨((2 : Nat) : Int), arg⟩ = _ from (doP_2 m arg).trans (push_fit _ _ hok.nl)]; exact mstep_2 h hok hd arg
    | 3, _ => exact hM 3 (ok_3 hok hBd arg) (fun m1 g => mstep_M3_s h hok hd arg m1 g) (fun g => mstep_M3_n h hok hd arg g)
    | 4, _ => rw [show doP m ⟨((4 : Nat) : Int), arg⟩ = _ from (doP_4 m arg).trans (mk_fit _ _ _ _)]; exact mstep_4 h hok hd arg
    | 5, _ => exact mstep_T hok hd 5 arg (by decide) (ok_5 hok hBd arg) h
    | 6, _ => exact mstep_T hok hd 6 arg (by decide) (ok_6 hok hBd arg) h
    | 7, _ => rw [show doP m ⟨((7 : Nat) : Int), arg⟩ = _ from (doP_7 m arg).trans (mk_fit _ _ _ _)]; exact mstep_7 h hok hd arg
    | 8, _ => exact mstep_T hok hd 8 arg (by decide) (ok_8 hok hBd arg) h
    | 9, _ => exact hM 9 (ok_9 hok hBd arg) (fun m1 g => mstep_M9_s h hok hd arg m1 g) (fun g => mstep_M9_n h hok hd arg g)
    | 10, _ => rw [show doP m ⟨((10 : Nat) : Int), arg⟩ = _ from (doP_10 m arg).trans (mk_fit _ _ _ _)]; exact mstep_10 h hok hd arg
    | 11, _ => exact mstep_T hok hd 11 arg (by decide) (ok_11 hok hBd hkz arg) h
    | 12, _ => exact hM 12 (ok_12 hok hBd hkz arg) (fun m1 g => mstep_M12_s h hok hd arg m1 g) (fun g => mstep_M12_n h hok hd arg g)
    | 13, _ => rw [show doP m ⟨((13 : Nat) : Int), arg⟩ = _ from (doP_13 m arg).trans (mk_fit _ _ _ _)]; exact mstep_13 h hok hd arg
    | 14, _ => exact mstep_T hok hd 14 arg (by decide) (ok_14 hok hBd arg) h
    | 15, _ =>
      obtain ⟨j, rfl⟩ := Int.eq_ofNat_of_zero_le h3
      have hm : mostA ((15 : Nat) : Int) = 19 := rfl
      exact mstep_T hok hd 15 j (by decide) (ok_15 hok hBd j (by omega)) h
    | 16, _ =>
      obtain ⟨j, rfl⟩ := Int.eq_ofNat_of_zero_le h3
      have hm : mostA ((16 : Nat) : Int) = 19 := rfl
      have hj : j < 20 := by omega
      by_cases h0 : 0 ≤ m.memo.getD j 0
      · rw [show doP m ⟨((16 : Nat) : Int), (j : Int)⟩ = fitM (addS m (m.memo.getD j 0)) from (doP_16 m j).trans (by rw [Int.toNat_natCast, if_pos h0]; exact push_fit _ _ hok.nl)]
        exact mstep_16 h hok hd j hj h0
      · rw [show doP m ⟨((16 : Nat) : Int), (j : Int)⟩ = none from (doP_16 m j).trans (by rw [Int.toNat_natCast, if_neg h0])]
        exact mstep_16n h hok hd j hj (by omega)
    | 17, _ => exact mstep_T hok hd 17 arg (by decide) (ok_17 hok hBd arg) h
    | 18, _ => exact hM 18 (ok_18 hok hBd arg) (fun m1 g => mstep_M18_s h hok hd arg m1 g) (fun g => mstep_M18_n h hok hd arg g)
    | 19, _ => exact mstep_T hok hd 19 arg (by decide) (ok_19 hok hBd arg) h
    | n + 20, hn => omega
end Go.Proofs.Ytcodbpjaamggeaa.C
namespace Go.Proofs.Ytcodbpjaamggeaa.P
/-- Kinds stay. -/
theorem kd_mk {m m' : Mc} (h : ∀ n ∈ m.nodes, 0 ≤ n.kind) {kind val : Int} {kids : List Int} (hk : 0 ≤ kind) (hp : mk m kind val kids = some m') : ∀ n ∈ m'.nodes, 0 ≤ n.kind := by
  unfold mk P.push at hp
  split at hp
  · split at hp
    · injection hp with hp
      subst hp
      intro n hn
      rcases List.mem_append.1 hn with hn | hn
      · exact h n hn
      · rw [List.mem_singleton] at hn; subst hn; exact hk
    · exact nomatch hp
  · exact nomatch hp
theorem kd_push {m m' : Mc} (h : ∀ n ∈ m.nodes, 0 ≤ n.kind) {i : Int} (hp : push m i = some m') : ∀ n ∈ m'.nodes, 0 ≤ n.kind := by
  unfold P.push at hp
  split at hp
  · injection hp with hp; subst hp; exact h
  · exact nomatch hp
theorem kd_set {m : Mc} (h : ∀ n ∈ m.nodes, 0 ≤ n.kind) (d : Int) (kids : List Int) : ∀ n ∈ (setKids m d kids).nodes, 0 ≤ n.kind := by
  intro n hn
  rcases List.mem_or_eq_of_mem_set hn with hn | rfl
  · exact h n hn
  · show 0 ≤ (m.nodes.getD d.toNat default).kind
    rw [List.getD_eq_getElem?_getD]
    by_cases hl : d.toNat < m.nodes.length
    · rw [List.getElem?_eq_getElem hl]; exact h _ (List.getElem_mem hl)
    · rw [List.getElem?_eq_none (by omega)]; decide
theorem kd_above {m m' : Mc} {l : List Int} (h : ∀ n ∈ m.nodes, 0 ≤ n.kind) (ha : above m = some (m', l)) : ∀ n ∈ m'.nodes, 0 ≤ n.kind := by
  unfold above at ha
  split at ha
  · exact nomatch ha
  · injection ha with ha
    injection ha with ha
    subst ha
    exact h
theorem kd_setP {m m' : Mc} {l : List Int} (h : ∀ n ∈ m.nodes, 0 ≤ n.kind) (hp : setP m l = some m') : ∀ n ∈ m'.nodes, 0 ≤ n.kind := by
  unfold setP at hp
  split at hp
  · exact nomatch hp
  · split at hp
    · injection hp with hp; subst hp; exact kd_set h _ _
    · exact nomatch hp
theorem kd_do {m m' : Mc} (h : ∀ n ∈ m.nodes, 0 ≤ n.kind) (c arg : Int) (ho : okO ⟨c, arg⟩ = true) (hp : doP m ⟨c, arg⟩ = some m') : ∀ n ∈ m'.nodes, 0 ≤ n.kind := by
  simp only [okO, decide_eq_true_eq] at ho
  obtain ⟨h1, h2, h3, h4⟩ := ho
  obtain ⟨n, rfl⟩ := Int.eq_ofNat_of_zero_le h1
  have hn : n ≤ 19 := by omega
  match n, hn with
  | 0, _ =>
    replace hp := (doP_0 m arg).symm.trans hp
    exact kd_mk h (by decide) hp
  | 1, _ =>
    replace hp := (doP_1 m arg).symm.trans hp
    exact kd_mk h (by decide) hp
  | 2, _ =>
    replace hp := (doP_2 m arg).symm.trans hp
    exact kd_push h hp
  | 3, _ =>
    replace hp := (doP_3 m arg).symm.trans hp
    split at hp
    · exact nomatch hp
    · rename_i ha; exact kd_mk (kd_above h ha) (by decide) hp
  | 4, _ =>
    replace hp := (doP_4 m arg).symm.trans hp
    exact kd_mk h (by decide) hp
  | 5, _ =>
    replace hp := (doP_5 m arg).symm.trans hp
    split at hp
    · exact kd_mk (m := drop m 1) h (by decide) hp
    · exact nomatch hp
  | 6, _ =>
    replace hp := (doP_6 m arg).symm.trans hp
    split at hp
    · exact kd_mk (m := drop m 2) h (by decide) hp
    · exact nomatch hp
  | 7, _ =>
    replace hp := (doP_7 m arg).symm.trans hp
    exact kd_mk h (by decide) hp
  | 8, _ =>
    replace hp := (doP_8 m arg).symm.trans hp
    split at hp
    · split at hp
      · exact nomatch hp
      · injection hp with hp; subst hp; exact kd_set (m := drop m 1) h _ _
    · exact nomatch hp
  | 9, _ =>
    replace hp := (doP_9 m arg).symm.trans hp
    split at hp
    · exact nomatch hp
    · rename_i ha
      split at hp
      · exact nomatch hp
      · injection hp with hp; subst hp; exact kd_set (kd_above h ha) _ _
  | 10, _ =>
    replace hp := (doP_10 m arg).symm.trans hp
    exact kd_mk h (by decide) hp
  | 11, _ =>
    replace hp := (doP_11 m arg).symm.trans hp
    split at hp
    · exact kd_setP (m := drop m 2) h hp
    · exact nomatch hp
  | 12, _ =>
    replace hp := (doP_12 m arg).symm.trans hp
    split at hp
    · exact nomatch hp
    · rename_i ha; exact kd_setP (kd_above h ha) hp
  | 13, _ =>
    replace hp := (doP_13 m arg).symm.trans hp
    exact kd_mk h (by decide) hp
  | 14, _ =>
    replace hp := (doP_14 m arg).symm.trans hp
    split at hp
    · split at hp
      · exact nomatch hp
      · split at hp
        · injection hp with hp; subst hp; exact kd_set (m := drop m 1) h _ _
        · exact nomatch hp
    · exact nomatch hp
  | 15, _ =>
    replace hp := (doP_15 m arg).symm.trans hp
    split at hp
    · injection hp with hp; subst hp; exact h
    · exact nomatch hp
  | 16, _ =>
    replace hp := (doP_16 m arg).symm.trans hp
    split at hp
    · exact kd_push h hp
    · exact nomatch hp
  | 17, _ =>
    replace hp := (doP_17 m arg).symm.trans hp
    split at hp
    · injection hp with hp; subst hp; exact h
    · exact nomatch hp
  | 18, _ =>
    replace hp := (doP_18 m arg).symm.trans hp
    split at hp
    · exact nomatch hp
    · rename_i ha; injection hp with hp; subst hp; exact kd_above h ha
  | 19, _ =>
    replace hp := (doP_19 m arg).symm.trans hp
    split at hp
    · injection hp with hp; subst hp; exact h
    · exact nomatch hp
  | n + 20, hn => omega
theorem kd_step {m m' : Mc} {o : Opr} (h : ∀ n ∈ m.nodes, 0 ≤ n.kind) (ho : okO o = true) (hp : stepP m o = some m') : ∀ n ∈ m'.nodes, 0 ≤ n.kind := by
  unfold stepP at hp
  split at hp
  · exact nomatch hp
  · obtain ⟨c, a⟩ := o
    exact kd_do h c a ho hp
end Go.Proofs.Ytcodbpjaamggeaa.P
