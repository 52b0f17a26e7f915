/- What an order does, I. -/
import Derived.Test.YtcodbpjaamggeaaCh
set_option linter.unusedVariables false
set_option linter.unusedSimpArgs false
namespace Go.Proofs.Ytcodbpjaamggeaa.P
theorem takeWhile_drop {α : Type} (p : α → Bool) : ∀ (n : Nat) (l : List α), n ≤ (l.takeWhile p).length → ((l.drop n).takeWhile p).length = (l.takeWhile p).length - n
  | 0, l, _ => by simp
  | n + 1, [], h => by simp at h
  | n + 1, a :: l, h => by
    by_cases ha : p a = true
    · simp only [List.takeWhile_cons, ha, if_true, List.length_cons] at h ⊢
      rw [List.drop_succ_cons, takeWhile_drop p n l (by omega)]; omega
    · simp [List.takeWhile_cons, ha] at h
theorem topN_take (s : List Int) (n : Nat) (h : n ≤ topN s) : topN (s.take (s.length - n)) = topN s - n := by
  have hl := topN_le s
  unfold topN at *
  rw [List.reverse_take, show s.length - (s.length - n) = n by omega]
  exact takeWhile_drop _ n _ h
theorem st_take (s : List Int) (n d : Nat) (h : d + n < s.length) : st (s.take (s.length - n)) d = st s (d + n) := by
  unfold st
  rw [List.length_take, List.getD_eq_getElem?_getD, List.getD_eq_getElem?_getD, List.getElem?_take, if_pos (by omega)]
  congr 2; omega
theorem drop_one (s : List Int) (h : 1 ≤ s.length) : s.drop (s.length - 1) = [st s 0] := by
  rw [List.drop_eq_getElem_cons (by omega), List.drop_eq_nil_of_le (by omega), st_at _ _ (by omega)]; simp
theorem drop_two (s : List Int) (h : 2 ≤ s.length) : s.drop (s.length - 2) = [st s 1, st s 0] := by
  rw [List.drop_eq_getElem_cons (by omega), show s.length - 2 + 1 = s.length - 1 by omega, drop_one s (by omega), st_at s 1 (by omega)]
  congr 1
theorem okM.drop {B : Nat} {m : Mc} (h : okM B m) (n : Nat) : okM B (drop m n) :=
  ⟨h.nl, Nat.le_trans (by simp [P.drop]) h.sl, h.ml, fun x hx => h.si x (List.mem_of_mem_take hx), h.mi, h.ki⟩
theorem above_some {m : Mc} (h : topN m.stack ≠ m.stack.length) : above m = some (P.drop m (topN m.stack + 1), m.stack.drop (m.stack.length - topN m.stack)) := by unfold above; rw [if_neg h]
theorem above_none {m : Mc} (h : topN m.stack = m.stack.length) : above m = none := by unfold above; rw [if_pos h]
theorem drop_len (m : Mc) (n : Nat) : (P.drop m n).stack.length = m.stack.length - n := by simp [P.drop]
/-- What is taken are nodes. -/
theorem okM.top {B : Nat} {m : Mc} (h : okM B m) (n : Nat) (hn : n ≤ topN m.stack) : ∀ x ∈ m.stack.drop (m.stack.length - n), 0 ≤ x ∧ x < m.nodes.length := by
  intro x hx
  refine ⟨?_, (h.si x (List.mem_of_mem_drop hx)).2⟩
  obtain ⟨k, hk, rfl⟩ := List.mem_iff_getElem.1 hx
  have hl := topN_le m.stack
  simp only [List.length_drop] at hk
  rw [List.getElem_drop]
  obtain ⟨h1, h2⟩ := topN_ge m.stack (n - 1 - k) (by omega)
  have : m.stack.length - 1 - (n - 1 - k) = m.stack.length - n + k := by omega
  simpa [this] using h2
end Go.Proofs.Ytcodbpjaamggeaa.P
namespace Go.Proofs.Ytcodbpjaamggeaa.C
open Go.RowKit Go.Proofs.Ytcodbpjaamggeaa.W Go.Proofs.Ytcodbpjaamggeaa.P

theorem nodes_m {base w g l A c vN vM m} (h : MR base w g l vN (.slice A m.stack.length c) vM m) (hls : m.stack.length ≤ 1000000) {W : World} (hW : Ext w W) :
    Calls Try.prog 153 #[.pointer (some ⟨g, 0, none⟩)] W fun e w' => e = .returned (.int .i64 (topN m.stack)) ∧ ∃ n, w' = W.drewN n := by
  have h := h.ext hW
  obtain ⟨A0, c0, h1, h2, h3⟩ := h.rdS (by omega)
  injection h1 with h1 _ h4
  subst h1 h4
  exact nodes_c g vN vM m.done A c m.stack W h.mb h3
theorem Does.ext {base g l vN vS vM m r w W e w'} (h : Does base g l vN vS vM m r W e w') (hW : Ext w W) : Does base g l vN vS vM m r w e w' :=
  ⟨h.1, (Fr.ofExt hW).trans h.2.1, h.2.2⟩
theorem Does.cut {base g l vN A c vM m r w w1 w2 n kids A' e} (hc : Cut base g l vN vM A c m n kids A' w w1) (h : Does base g l vN (.slice A (m.stack.length - n) c) vM (drop m n) r w1 e w2) : Does base g l vN (.slice A m.stack.length c) vM m r w e w2 := by
  obtain ⟨h1, h2, h3, h4⟩ := h
  rw [foot_cut g l vN vM A _ m.stack.length c] at h2
  exact ⟨h1, (hc.2.2.1.mono (fun k hk => .inl hk)).trans h2, h3, h4⟩
theorem Does.no {base g l vN vS vM m r w w'} (h : MR base w g l vN vS vM m) (hr : r = none) (hw : Ext w w') : Does base g l vN vS vM m r w (.returned (.bool false)) w' := by
  subst hr
  exact ⟨rfl, Fr.ofExt hw, fun m' hm' => (nomatch hm'), fun _ => (h.ext hw).left⟩
theorem Does.cutNo {base g l vN A c vM m r w w1 w2 n kids A'} (hc : Cut base g l vN vM A c m n kids A' w w1) (hr : r = none) (hw : Ext w1 w2) : Does base g l vN (.slice A m.stack.length c) vM m r w (.returned (.bool false)) w2 :=
  (Does.no (vS := .slice A (m.stack.length - n) c) hc.1 hr hw).cut hc
theorem Does.cutYes {base g l vN A c vM m r w w1 w2 n kids A'} (hc : Cut base g l vN vM A c m n kids A' w w1) (hr : r = some (drop m n)) (hw : Ext w1 w2) : Does base g l vN (.slice A m.stack.length c) vM m r w (.returned (.bool true)) w2 := by
  subst hr
  refine Does.cut hc ⟨rfl, Fr.ofExt hw, fun m' hm' => ?_, fun h => nomatch h⟩
  injection hm' with hm'
  subst hm'
  exact ⟨l, vN, _, hc.1.ext hw⟩


set_option maxRecDepth 100000 in
set_option maxHeartbeats 1000000 in
/-- The orders that push something new. -/
theorem do_new {B base w g l vN vS vM m} (h : MR base w g l vN vS vM m) (hok : okM B m) (code arg : Int) (hc : code = 0 ∨ code = 1 ∨ code = 13 ∨ (code = 4 ∧ arg = 0) ∨ (code = 7 ∧ arg = 0) ∨ (code = 10 ∧ arg = 0) ∨ code = 2) :
    Calls Try.prog 134 #[.pointer (some ⟨g, 0, none⟩), .agg #[.int .i64 code, .int .i64 arg]] w (Does base g l vN vS vM m (doP m ⟨code, arg⟩) w) := by
  have hln := hok.nl
  have hls := hok.sl
  obtain ⟨A, c, rfl, _, _⟩ := h.rdS (by omega)
  have H := As.mk h
  clear h
  have hk : ∀ (kind val : Int) (W : World), Ext w W → Calls Try.prog 154 #[.pointer (some ⟨g, 0, none⟩), .int .i64 kind, .int .i64 val, .slice none 0 0] W (Does base g l vN (.slice A m.stack.length c) vM m (mk m kind val []) w) := fun kind val W hW =>
    (make_m (H.out.ext hW) kind val none 0 [] (RdI.nil _ _) (by omega) (by omega) (by simp)).mono (fun e w' hd => hd.ext hW)
  have HK := As.mk hk
  clear hk
  rcases hc with rfl | rfl | rfl | ⟨rfl, rfl⟩ | ⟨rfl, rfl⟩ | ⟨rfl, rfl⟩ | rfl
  case inr.inr.inr.inr.inr.inr =>
    go_enter Try.func134, Try.ntmps134
    go_wp2_with (first | (go_at_call 153; refine (nodes_m H.out (by omega) (by (repeat (first | exact Ext.rf _ | refine Ext.al ?_ _ | refine Ext.dr ?_ | refine Ext.dN ?_ _)))).mono ?_; rintro e w1 ⟨rfl, nq, rfl⟩) | (go_at_call 155; refine (push_m (H.out.ext (by (repeat (first | exact Ext.rf _ | refine Ext.al ?_ _ | refine Ext.dr ?_ | refine Ext.dN ?_ _)))) (-1) (by omega)).mono ?_; rintro e w2 ⟨rfl, hd⟩; have HD := As.mk hd; clear hd))
    go_ret
    exact Does.ext ⟨rfl, HD.out⟩ (by (repeat (first | exact Ext.rf _ | refine Ext.al ?_ _ | refine Ext.dr ?_ | refine Ext.dN ?_ _)))
  all_goals
    go_enter Try.func134, Try.ntmps134
    go_wp2_with (first | (go_at_call 153; refine (nodes_m H.out (by omega) (by (repeat (first | exact Ext.rf _ | refine Ext.al ?_ _ | refine Ext.dr ?_ | refine Ext.dN ?_ _)))).mono ?_; rintro e w1 ⟨rfl, nq, rfl⟩) | (go_at_call 154; refine (HK.out _ _ _ (by (repeat (first | exact Ext.rf _ | refine Ext.al ?_ _ | refine Ext.dr ?_ | refine Ext.dN ?_ _)))).mono ?_; rintro e w2 ⟨rfl, hd⟩; have HD := As.mk hd; clear hd))
    go_ret
    exact ⟨rfl, HD.out⟩
end Go.Proofs.Ytcodbpjaamggeaa.C
