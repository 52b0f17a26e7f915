/- Orders put at the end of a row. -/
import Derived.Test.YtcodbpjaamggeaaIb
set_option linter.unusedVariables false
set_option linter.unusedSimpArgs false
namespace Go.Proofs.Ytcodbpjaamggeaa.C
open Go.RowKit Go.Proofs.Ytcodbpjaamggeaa.W Go.Proofs.Ytcodbpjaamggeaa.P

def AppO (v : Value) (l0 l : List Opr) (W : World) (g c' : Nat) (w' : World) : Prop := OR w' (.slice (some ⟨g, 0, none⟩) l.length c') l ∧ Fr (fun k => v.ownBlock = some k) W w' ∧ (v.ownBlock = some g ∨ W.heap.size ≤ g) ∧ g < w'.heap.size ∧ OR w' v l0
section
variable {ops : Array Oper} {rest : List Oper} {o : Oper} {a : Act} {Q : Exit → Act → World → Prop}
/-- append(v, Op{..}): the goal's world has the box of the order. -/
theorem app_op {W : World} (hgd : o.guard = none) (s x : Operand) (ho : o.op = .call { callee := .builtin .append, args := #[s, x], argTypes := #[25, 25] })
    (v : Value) (l : List Opr) (y : Opr) (hs : a.eval s = v) {nb : Nat} (hx : a.eval x = .slice (some ⟨nb, 0, none⟩) 1 1) (hI : OR W v l) (hl : l.length ≤ 1000000000000)
    (h : ∀ g c' w', AppO v l (l ++ [y]) W g c' w' → wpList Try.prog ops Q rest (a.put o.dst (.slice (some ⟨g, 0, none⟩) (l.length + 1) c')) w') (hnb : nb = W.heap.size := by first | rfl | simp only [al_size] | simp [al_size]) :
    wpList Try.prog ops Q (o :: rest) a (W.alloc (.cells #[.int .i64 y.code, .int .i64 y.arg] 82)) := by
  subst hnb
  refine wpList_plain hgd fun K hK => ?_
  refine app_wp (t := 25) (cs := [.int .i64 y.code, .int .i64 y.arg]) (bytes := 16) (by kernel_rfl) infoO rfl (by omega) s x ho v l.length (ocs l) hs 1 1 hx rfl (by simp [Value.oneCell']) (by omega) hI (by omega) (by omega) ?_
  intro g c' w1 h1 h2 h3 h4 h5
  exact hK _ _ (h g c' w1 ⟨by unfold OR; rw [ocs_app, List.length_append]; exact h1, h2, h3, h4, h5⟩)
/-- append(v, r...): a slice of orders that is read. -/
theorem app_ops {W : World} (hgd : o.guard = none) (s x : Operand) (ho : o.op = .call { callee := .builtin .append, args := #[s, x], argTypes := #[25, 25] })
    (v : Value) (l : List Opr) (ad : Addr) (m c : Nat) (r : List Opr) (hs : a.eval s = v) (hx : a.eval x = .slice (some ad) m c) (hm : r.length = m) (hr : RdO W (some ad) r) (hI : OR W v l) (hl : l.length + m ≤ 1000000000000)
    (h : ∀ A' c' w', OR w' (.slice A' (l.length + m) c') (l ++ r) → Fr (fun k => v.ownBlock = some k) W w' → FreshOr v (.slice A' (l.length + m) c') W → wpList Try.prog ops Q rest (a.put o.dst (.slice A' (l.length + m) c')) w') :
    wpList Try.prog ops Q (o :: rest) a W := by
  refine app_own (t := 25) (e := 82) (z := .agg #[.int .i64 0, .int .i64 0]) (size := 2) (bytes := 16) (by kernel_rfl) infoO rfl (by omega) hgd s x ho v l.length (ocs l) hs ad m c (ocs r) hx (by rw [ocs_len, hm]) (fun j u hu => rdO_cell hr j u hu) (ocs_one _) hI (by omega) (by omega) ?_
  intro A' c' w1 h1 h2 h3 _
  exact h A' c' w1 (by unfold OR; rw [ocs_app, List.length_append, hm]; exact h1) h2 h3
end
end Go.Proofs.Ytcodbpjaamggeaa.C
