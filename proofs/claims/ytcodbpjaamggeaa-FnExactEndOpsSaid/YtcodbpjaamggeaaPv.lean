/- A machine that is done has just one node on its stack. -/
import Derived.Test.YtcodbpjaamggeaaPt
set_option linter.unusedVariables false
set_option linter.unusedSimpArgs false
namespace Go.Proofs.Ytcodbpjaamggeaa.P
theorem runS_shp : ∀ (l : List Opr) (B : Nat) (m : Mc), okM B m → okK m → l.all okO = true → runS (shp m) l = (shp (runP m l).1, (runP m l).2)
  | [], _, m, _, _, _ => rfl
  | o :: l, B, m, h, hk, hl => by
    rw [List.all_cons, Bool.and_eq_true] at hl
    simp only [runS, runP, stepS_shp h hk o hl.1]
    cases hs : stepP m o with
    | none => rfl
    | some m' =>
      simp only [Option.map_some]
      rw [runS_shp l _ m' (okM_step h hl.1 hs) (hk.step o hl.1 hs) hl.2]
theorem runS_new {l : List Opr} (hl : l.all okO = true) : runS newS l = (shp (runP newM l).1, (runP newM l).2) := runS_shp l 0 newM okM_new okK_new hl
theorem vOps_all {l : List Opr} (h : vOps l = true) : l.all okO = true ∧ l.length ≤ 300 := by
  simp only [vOps, Bool.and_eq_true, decide_eq_true_eq] at h
  exact h
/-- Just one node is on the stack. -/
def One (s : Sh) : Prop := s.stack.length = 1 ∧ 0 ≤ st s.stack 0
theorem markS_done {s r : Sh} {c : Int} (hr : markS s c = some r) : r.done = s.done := by
  unfold markS at hr
  split at hr
  · exact nomatch hr
  split at hr
  · injection hr with hr; subst hr; rfl
  split at hr
  · split at hr
    · injection hr with hr; subst hr; rfl
    · exact nomatch hr
  split at hr
  · split at hr
    · injection hr with hr; subst hr; rfl
    · exact nomatch hr
  · injection hr with hr; subst hr; rfl
theorem takeS_done {s r : Sh} {o : Opr} (hr : takeS s o = some r) : r.done = s.done ∨ One r := by
  unfold takeS at hr
  split at hr
  · exact nomatch hr
  rename_i h0
  have h1 := atS_nonneg (s := s) (d := 0) (by omega)
  split at hr
  · injection hr with hr; subst hr; exact .inl rfl
  split at hr
  · split at hr
    · exact nomatch hr
    · injection hr with hr; subst hr; exact .inl rfl
  split at hr
  · split at hr
    · injection hr with hr; subst hr; exact .inl rfl
    · exact nomatch hr
  split at hr
  · split at hr
    · injection hr with hr; subst hr; exact .inl rfl
    · exact nomatch hr
  split at hr
  · split at hr
    · injection hr with hr; subst hr; exact .inl rfl
    · exact nomatch hr
  split at hr
  · injection hr with hr; subst hr; exact .inl rfl
  split at hr
  · split at hr
    · rename_i h2
      injection hr with hr; subst hr; exact .inr ⟨h2, h1.2⟩
    · exact nomatch hr
  · injection hr with hr; subst hr; exact .inl rfl
theorem stepS_done {s r : Sh} {o : Opr} (hr : stepS s o = some r) : r.done = false ∨ One r := by
  unfold stepS at hr
  split at hr
  · exact nomatch hr
  · rename_i hd
    have hd : s.done = false := by simpa using hd
    unfold fitS at hr
    split at hr
    · exact nomatch hr
    · rename_i s1 h1
      split at hr
      · injection hr with hr; subst hr
        unfold rawS at h1
        split at h1
        · injection h1 with h1; subst h1; exact .inl hd
        split at h1
        · injection h1 with h1; subst h1; exact .inl hd
        split at h1
        · split at h1
          · exact nomatch h1
          · injection h1 with h1; subst h1; exact .inl hd
        split at h1
        · exact .inl ((markS_done h1).trans hd)
        · exact (takeS_done h1).imp (fun e => e.trans hd) id
      · exact nomatch hr
theorem runS_done : ∀ (l : List Opr) (s : Sh), (s.done = false ∨ One s) → ((runS s l).1.done = false ∨ One (runS s l).1)
  | [], s, h => h
  | o :: l, s, h => by
    simp only [runS]
    cases hs : stepS s o with
    | none => exact h
    | some s' => exact runS_done l s' (stepS_done hs)
theorem runP_one {l : List Opr} (hl : l.all okO = true) (hd : (runP newM l).1.done = true) : (runP newM l).1.stack.length = 1 ∧ 0 ≤ st (runP newM l).1.stack 0 := by
  have h := runS_done l newS (.inl rfl)
  have e := runS_shp l 0 newM okM_new okK_new hl
  rw [shp_new] at e
  rw [e] at h
  exact h.elim (fun h => by rw [show (shp (runP newM l).1).done = (runP newM l).1.done from rfl, hd] at h; exact nomatch h) (fun h => h)
theorem runP_le : ∀ (l : List Opr) (m : Mc), (runP m l).2 ≤ l.length
  | [], m => Nat.le_refl _
  | o :: l, m => by
    simp only [runP]
    cases stepP m o with
    | none => exact Nat.zero_le _
    | some m' => simp only [List.length_cons]; have := runP_le l m'; omega
end Go.Proofs.Ytcodbpjaamggeaa.P
