/- EndOps, both sides: what the walks keep. -/
import Derived.Test.YtcodbpjaamggeaaPe
import Derived.Test.YtcodbpjaamggeaaHh
import Derived.Test.YtcodbpjaamggeaaHe
set_option linter.unusedVariables false
set_option linter.unusedSimpArgs false
namespace Go.Proofs.Ytcodbpjaamggeaa.C
open Go.RowKit Go.Proofs.Ytcodbpjaamggeaa.W Go.Proofs.Ytcodbpjaamggeaa.P

/-- The machine in its variable, and two rows of orders of our own. -/
structure EI (w W : World) (g Bd : Nat) (m : Mc) (v : Value) (x : List Opr) (u : Value) (y : List Opr) : Prop where
  mm : ∃ (B : Nat → Prop) (l : List (Nd × Value)) (vN vS vM : Value), MR B W g l vN vS vM m ∧ (∀ k, B k → w.heap.size ≤ k) ∧ (∀ k, v.ownBlock = some k → ¬ B k) ∧ (∀ k, u.ownBlock = some k → ¬ B k)
  ok : okM Bd m
  ov : OR W v x
  ou : OR W u y
  e : Ext w W
  fv : Fresh v w
  fu : Fresh u w
  a : Apart v u
theorem foot_or {B : Nat → Prop} {w : World} {g : Nat} {l : List (Nd × Value)} {vN vS vM : Value} {m : Mc} (h : MR B w g l vN vS vM m) {v : Value} {x : List Opr} (ho : OR w v x) (k : Nat) (hk : Foot g l vN vS vM k) : v.ownBlock ≠ some k := by
  intro e
  rcases hk with rfl | hk | hk | hk | ⟨p, hp, hk⟩
  · exact own_ne_blk ho h.mb (by decide) e
  · exact own_ne_type h.nr.1 ho (by decide) hk e
  · exact own_ne_type h.sr ho (by decide) hk e
  · exact own_ne_type h.me ho (by decide) hk e
  · exact own_ne_type (h.nr.2 p hp).1 ho (by decide) hk e
theorem mr_cut {B : Nat → Prop} {w : World} {g : Nat} {l : List (Nd × Value)} {vN vS vM : Value} {m : Mc} (h : MR B w g l vN vS vM m) {v : Value} {x : List Opr} (ho : OR w v x) : MR (fun k => B k ∧ v.ownBlock ≠ some k) w g l vN vS vM m :=
  ⟨h.mb, h.nr, h.ns, h.sr, h.me, fun k hk => ⟨h.lo k hk, foot_or h ho k hk⟩, h.kk, h.ks, h.km, h.sm, fun k hk => ⟨h.up k hk, fun e => by have := own_lt ho e; omega⟩⟩
theorem EI.ext {w W W' g Bd m v x u y} (h : EI w W g Bd m v x u y) (e : Ext W W') : EI w W' g Bd m v x u y := by
  obtain ⟨B, l, vN, vS, vM, h1, h2, h3, h4⟩ := h.mm
  exact ⟨⟨B, l, vN, vS, vM, h1.ext e, h2, h3, h4⟩, h.ok, h.ov.ext e, h.ou.ext e, h.e.trans e, h.fv, h.fu, h.a⟩
theorem EI.swap {w W g Bd m v x u y} (h : EI w W g Bd m v x u y) : EI w W g Bd m u y v x := by
  obtain ⟨B, l, vN, vS, vM, h1, h2, h3, h4⟩ := h.mm
  exact ⟨⟨B, l, vN, vS, vM, h1, h2, h4, h3⟩, h.ok, h.ou, h.ov, h.e, h.fu, h.fv, h.a.symm⟩
/-- The second row was written, or moved to a new block. -/
theorem EI.put {w W W' g Bd m v x u y} {u' : Value} {y' : List Opr} (h : EI w W g Bd m v x u y) (ho : OR W' u' y') (hf : Fr (fun k => u.ownBlock = some k) W W') (hb : FreshOr u u' W) : EI w W' g Bd m v x u' y' := by
  obtain ⟨B, l, vN, vS, vM, h1, h2, h3, h4⟩ := h.mm
  have hm : MR B W' g l vN vS vM m := h1.keep hf.size (fun k hk => hf.block k (h1.foot_lt k hk) (fun e => foot_or h1 h.ou k hk e))
  have hfr : Fresh u' w := fun k hk => by
    rcases hb with e | ⟨b, e1, e2⟩
    · exact h.fu k (by rw [← e]; exact hk)
    · rw [hk] at e1; injection e1 with e1; subst e1; exact Nat.le_trans h.e.size e2
  refine ⟨⟨fun k => B k ∧ u'.ownBlock ≠ some k, l, vN, vS, vM, mr_cut hm ho, fun k hk => h2 k hk.1, fun k hk hB => h3 k hk hB.1, fun k hk hB => hB.2 hk⟩, h.ok, h.ov.fr hf (fun k hk e => h.a k hk e), ho, fr_ext h.e hf h.fu, h.fv, hfr, ?_⟩
  intro k hk hk2
  rcases hb with e | ⟨b, e1, e2⟩
  · exact h.a k hk (by rw [← e]; exact hk2)
  · rw [hk2] at e1; injection e1 with e1; subst e1
    have := own_lt h.ov hk
    omega
theorem EI.app {w W W' g Bd m v x u y} {o : Opr} {gP cP : Nat} (h : EI w W g Bd m v x u y) (hap : AppO u y (y ++ [o]) W gP cP W') : EI w W' g Bd m v x (.slice (some ⟨gP, 0, none⟩) (y.length + 1) cP) (y ++ [o]) := by
  obtain ⟨a1, a2, a3, _, _⟩ := hap
  have hs : (y ++ [o]).length = y.length + 1 := by simp
  rw [hs] at a1
  exact h.put a1 a2 (a3.imp (fun e => by rw [e]; rfl) (fun e => ⟨gP, rfl, e⟩))
/-- An order was done, or left undone. -/
theorem EI.step {w W g Bd m v x u y} (h : EI w W g Bd m v x u y) (hBd : Bd ≤ 2000000) (o : Opr) (ho : okO o = true) :
    Calls Try.prog 91 #[.pointer (some ⟨g, 0, none⟩), .agg #[.int .i64 o.code, .int .i64 o.arg]] W fun e W' => e = .returned (.bool (stepP m o).isSome) ∧ EI w W' g (Bd + 301) ((stepP m o).getD m) v x u y := by
  obtain ⟨B, l, vN, vS, vM, h1, h2, h3, h4⟩ := h.mm
  refine (step_m h1 h.ok hBd o ho).mono ?_
  rintro e W' ⟨k1, k2, l', vN', vS', k3⟩
  refine ⟨k1, ⟨⟨B, l', vN', vS', vM, k3, h2, h3, h4⟩, ?_, h.ov.fr k2 h3, h.ou.fr k2 h4, (Fr.then (S := fun _ => False) (Fr.ofExt h.e) k2 (fun k hk => .inr (h2 k hk))).ext (fun _ h => h.elim), h.fv, h.fu, h.a⟩⟩
  cases hs : stepP m o with
  | none => exact h.ok.mono (by omega)
  | some m' => exact okM_step h.ok ho hs
end Go.Proofs.Ytcodbpjaamggeaa.C
