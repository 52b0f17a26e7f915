/- Rows of orders: appends, ends of slices, fresh copies. -/
import Derived.Test.YtgenllcfpjgklaaHa
import Derived.Test.YtgenllcfpjgklaaBa
set_option linter.unusedVariables false
set_option linter.unusedSimpArgs false
namespace Go.Proofs.Ytgenllcfpjgklaa.C
open Go.RowKit Go.Proofs.Ytgenllcfpjgklaa.W Go.Proofs.Ytgenllcfpjgklaa.P

theorem infoOb : (Try.prog.info? 52).map (·.size) = some 2 := by kernel_rfl
theorem loadO {w : World} {g : Nat} {v0 v1 : Value} (h : w.heap[g]? = some (.cells #[v0, v1] 52 (0, 0))) : (loadVar 52 ⟨g, 0, none⟩).run Try.prog w = .ok (.agg #[v0, v1]) w := by
  have hm : (Try.prog.underlying 52).map (fun d => match d with | .struct _ => true | _ => false) = some true := by kernel_rfl
  obtain ⟨d, hu, hd⟩ := Option.map_eq_some_iff.1 hm
  refine run_loadVar_row w g _ _ _ _ d h hu ?_ infoOb
  cases d <;> first | rfl | exact absurd hd (by simp)
theorem OR.fz {w : World} {ad : Addr} {n c : Nat} {l : List Opr} (h : OR w (.slice (some ad) n c) l) (j : Nat) : w.frozen? (ad.add j) = false ∧ w.frozen? ⟨(ad.add j).block, (ad.add j).off + 1, none⟩ = false := by
  rcases h.2 with ⟨hv, _⟩ | ⟨g, cap, cur, hv, _, hh, _⟩
  · exact nomatch hv
  · injection hv with hv
    injection hv with hv
    subst hv
    rw [(add_at g j 1).2, (add_at g j 0).1]
    simp [World.frozen?, hh]
theorem OR.setA {w : World} {ad : Addr} {n c : Nat} {l : List Opr} (h : OR w (.slice (some ad) n c) l) (k : Nat) (hk : k < l.length) (o : Opr) :
    OR ((w.setCell (ad.add (k * 2)) (.int .i64 o.code)).setCell ⟨(ad.add (k * 2)).block, (ad.add (k * 2)).off + 1, none⟩ (.int .i64 o.arg)) (.slice (some ad) n c) (l.set k o) := by
  rcases h.2 with ⟨hv, _⟩ | ⟨g, cap, cur, hv, _⟩
  · exact nomatch hv
  · injection hv with hv
    injection hv with hv
    subst hv
    rw [(add_at g (k * 2) 1).2, (add_at g (k * 2) 0).1]
    exact OR.set h k hk o
theorem OR.blk {w : World} {ad : Addr} {n c : Nat} {l : List Opr} (h : OR w (.slice (some ad) n c) l) (j : Nat) : (Value.slice (some ad) n c).ownBlock = some (ad.add j).block := by
  rcases h.2 with ⟨hv, _⟩ | ⟨g, cap, cur, hv, _⟩
  · exact nomatch hv
  · injection hv with hv
    injection hv with hv
    subst hv
    rw [add_block]; rfl
theorem next_cell (w : World) (p : Addr) {u : Value} (h : w.cell? ⟨p.block, p.off + 1, none⟩ = some u) (v : Value) : (w.setCell p v).cell? ⟨p.block, p.off + 1, none⟩ = some u := by
  rw [World.cell?_setCell_other w p _ v (fun e => by have := congrArg Addr.off e; simp at this)]
  exact h
theorem next_fz (w : World) (p : Addr) (h : w.frozen? ⟨p.block, p.off + 1, none⟩ = false) (v : Value) : (w.setCell p v).frozen? ⟨p.block, p.off + 1, none⟩ = false := by
  simpa using h
theorem rdO_cell {w : World} {ad : Addr} {l : List Opr} (h : RdO w (some ad) l) (j : Nat) (u : Value) (hu : (ocs l)[j]? = some u) : w.cell? (ad.add j) = some u := by
  have hj : j < l.length * 2 := by
    have := (List.getElem?_eq_some_iff.1 hu).1
    rwa [ocs_len] at this
  obtain ⟨ad', h1, h2, h3⟩ := h.2 (j / 2) (by omega)
  cases h1
  obtain ⟨h4, h5⟩ := ocs_at l (j / 2) (by omega)
  rcases Nat.mod_two_eq_zero_or_one j with hm | hm
  · have e : j / 2 * 2 = j := by omega
    rw [e] at h4 h2
    rw [hu] at h4
    injection h4 with h4
    rw [h2, h4]
  · have e : j / 2 * 2 + 1 = j := by omega
    have e2 : j / 2 * 2 = j - 1 := by omega
    rw [e, hu] at h5
    injection h5 with h5
    have e3 : ad.add j = ⟨(ad.add (j / 2 * 2)).block, (ad.add (j / 2 * 2)).off + 1, none⟩ := by
      rw [e2]
      have hj0 : j ≠ 0 := by omega
      unfold Addr.add
      rw [if_neg hj0]
      by_cases h0 : j - 1 = 0
      · simp only [h0, if_true]
        have : j = 1 := by omega
        subst this
        rfl
      · simp only [h0, if_false]
        rw [Addr.mk.injEq]
        exact ⟨rfl, by omega, rfl⟩
    rw [e3, h3, h5]
theorem rdO_take {w : World} {A : Option Addr} {l : List Opr} (h : RdO w A l) (n : Nat) : RdO w A (l.take n) :=
  ⟨by have := h.1; simp; omega, fun k hk => by
    have hk' : k < l.length := by simp at hk; omega
    obtain ⟨ad, ha, hc, hd⟩ := h.2 k hk'
    exact ⟨ad, ha, by simpa using hc, by simpa using hd⟩⟩
theorem slice_toO (ad : Addr) (n c k : Nat) (hk : k ≤ n) (hc : n ≤ c) : ∀ W : World, (Instr.slice 30 (.slice (some ad) n c) none (some (.int .i64 (k : Int))) none).run Try.prog W = .ok (.slice (some ad) k c) W := by
  intro W
  have ht : Try.prog.underlying 30 = some (.slice 52) := by kernel_rfl
  obtain ⟨inf, hi, hsz⟩ := Option.map_eq_some_iff.1 infoOb
  have hel : Try.prog.elem 30 = 52 := by simp [Program.elem, ht]
  have hu : Try.prog.underlying 30 = some (.slice (Try.prog.elem 30)) := by rw [hel]; exact ht
  rw [run_slice_h W 30 (some ad) n c hu .i64 (k : Int) (by omega) (by omega), hel]
  simp [sizeOf, typeInfo, hi, hsz, sliced, Result.andThen, Addr.add]
/-- A fresh row of orders is returned. -/
def OwnO (l : List Opr) (w : World) (e : Ending) (w' : World) : Prop := ∃ A' c', e = .returned (.slice A' l.length c') ∧ OR w' (.slice A' l.length c') l ∧ Ext w w' ∧ Fresh (.slice A' l.length c') w
theorem OwnO.nil (w : World) : OwnO [] w (.returned (.slice none 0 0)) w := ⟨none, 0, rfl, World.ownsRow_nil _ _ _ _, Ext.rf _, by simp [Fresh, Value.ownBlock]⟩
theorem OwnO.ext {l : List Opr} {w w1 w' : World} {e : Ending} (h : OwnO l w1 e w') (he : Ext w w1) : OwnO l w e w' := by
  obtain ⟨A, c, h1, h2, h3, h4⟩ := h
  exact ⟨A, c, h1, h2, he.trans h3, fun k hk => Nat.le_trans he.size (h4 k hk)⟩
def AppO (v : Value) (l0 l : List Opr) (W : World) (g c' : Nat) (w' : World) : Prop := OR w' (.slice (some ⟨g, 0, none⟩) l.length c') l ∧ Fr (fun k => v.ownBlock = some k) W w' ∧ (v.ownBlock = some g ∨ W.heap.size ≤ g) ∧ g < w'.heap.size ∧ OR w' v l0
section
variable {ops : Array Oper} {rest : List Oper} {o : Oper} {a : Act} {Q : Exit → Act → World → Prop}
/-- append(v, Op{..}): the goal's world has the box of the order. -/
theorem app_op {W : World} (hgd : o.guard = none) (s x : Operand) (ho : o.op = .call { callee := .builtin .append, args := #[s, x], argTypes := #[30, 30] })
    (v : Value) (l : List Opr) (y : Opr) (hs : a.eval s = v) {nb : Nat} (hx : a.eval x = .slice (some ⟨nb, 0, none⟩) 1 1) (hI : OR W v l) (hl : l.length ≤ 1000000000000)
    (h : ∀ g c' w', AppO v l (l ++ [y]) W g c' w' → wpList Try.prog ops Q rest (a.put o.dst (.slice (some ⟨g, 0, none⟩) (l.length + 1) c')) w') (hnb : nb = W.heap.size := by first | rfl | simp only [al_size] | simp [al_size]) :
    wpList Try.prog ops Q (o :: rest) a (W.alloc (.cells #[.int .i64 y.code, .int .i64 y.arg] 52)) := by
  subst hnb
  refine wpList_plain hgd fun K hK => ?_
  refine app_wp (t := 30) (cs := [.int .i64 y.code, .int .i64 y.arg]) (bytes := 16) (by kernel_rfl) infoO rfl (by omega) s x ho v l.length (ocs l) hs 1 1 hx rfl (by simp [Value.oneCell']) (by omega) hI (by omega) (by omega) ?_
  intro g c' w1 h1 h2 h3 h4 h5
  exact hK _ _ (h g c' w1 ⟨by unfold OR; rw [ocs_app, List.length_append]; exact h1, h2, h3, h4, h5⟩)
/-- append(v, r...): a slice of orders that is read. -/
theorem app_ops {W : World} (hgd : o.guard = none) (s x : Operand) (ho : o.op = .call { callee := .builtin .append, args := #[s, x], argTypes := #[30, 30] })
    (v : Value) (l : List Opr) (ad : Addr) (m c : Nat) (r : List Opr) (hs : a.eval s = v) (hx : a.eval x = .slice (some ad) m c) (hm : r.length = m) (hr : RdO W (some ad) r) (hI : OR W v l) (hl : l.length + m ≤ 1000000000000)
    (h : ∀ A' c' w', OR w' (.slice A' (l.length + m) c') (l ++ r) → Fr (fun k => v.ownBlock = some k) W w' → FreshOr v (.slice A' (l.length + m) c') W → wpList Try.prog ops Q rest (a.put o.dst (.slice A' (l.length + m) c')) w') :
    wpList Try.prog ops Q (o :: rest) a W := by
  refine app_own (t := 30) (e := 52) (z := .agg #[.int .i64 0, .int .i64 0]) (size := 2) (bytes := 16) (by kernel_rfl) infoO rfl (by omega) hgd s x ho v l.length (ocs l) hs ad m c (ocs r) hx (by rw [ocs_len, hm]) (fun j u hu => rdO_cell hr j u hu) (ocs_one _) hI (by omega) (by omega) ?_
  intro A' c' w1 h1 h2 h3 _
  exact h A' c' w1 (by unfold OR; rw [ocs_app, List.length_append, hm]; exact h1) h2 h3
end
theorem infoO_some : ∃ i, Try.prog.info? 52 = some i := by
  obtain ⟨i, h, _⟩ := Option.map_eq_some_iff.1 infoO
  exact ⟨i, h⟩
section
variable {ops : Array Oper} {rest : List Oper} {o : Oper} {a : Act} {Q : Exit → Act → World → Prop}
/-- The same, for a slice that may be nil. -/
theorem app_opsA {W : World} (hgd : o.guard = none) (s x : Operand) (ho : o.op = .call { callee := .builtin .append, args := #[s, x], argTypes := #[30, 30] })
    (v : Value) (l : List Opr) (A : Option Addr) (m c : Nat) (r : List Opr) (hs : a.eval s = v) (hx : a.eval x = .slice A m c) (hm : r.length = m) (hr : RdO W A r) (hI : OR W v l) (hl : l.length + m ≤ 1000000000000)
    (h : ∀ A' c' w', OR w' (.slice A' (l.length + m) c') (l ++ r) → Fr (fun k => v.ownBlock = some k) W w' → FreshOr v (.slice A' (l.length + m) c') W → wpList Try.prog ops Q rest (a.put o.dst (.slice A' (l.length + m) c')) w') :
    wpList Try.prog ops Q (o :: rest) a W := by
  cases A with
  | some ad => exact app_ops hgd s x ho v l ad m c r hs hx hm hr hI hl h
  | none =>
    have hr0 : r = [] := by
      cases r with
      | nil => rfl
      | cons y r => obtain ⟨ad, h, _⟩ := hr.2 0 (by simp); cases h
    subst hr0
    have hm0 : m = 0 := hm.symm
    subst hm0
    refine wpList_plain hgd fun K hK => ?_
    obtain ⟨i, hi⟩ := infoO_some
    obtain ⟨A', c', rfl, _, _⟩ := own_form hI
    have q1 := app_nil (P := Try.prog) W 0 30 o.type 52 i 2 (by kernel_rfl) hi _ l.length (ocs l) hI c
    unfold Oper.wp execOp
    simp only [ho, resolve, invoke, builtin, Sem.run_bind, Sem.run_pure, Result.andThen_ok, List.map_toArray, List.map_cons, List.map_nil, hs, hx, q1]
    have := hK _ _ (h A' c' W (by simpa using hI) (Fr.rf _ _) (by simpa using FreshOr.rf _ _))
    exact this
end
theorem IR.fzA {w : World} {ad : Addr} {n c : Nat} {l : List Int} (h : IR w (.slice (some ad) n c) l) (j : Nat) : w.frozen? (ad.add j) = false ∧ (Value.slice (some ad) n c).ownBlock = some (ad.add j).block := by
  rcases h.2 with ⟨hv, _⟩ | ⟨g, cap, cur, hv, _, hh, _⟩
  · exact nomatch hv
  · injection hv with hv
    injection hv with hv
    subst hv
    rw [(add_at g j 0).1]
    exact ⟨by simp [World.frozen?, hh], rfl⟩
theorem IR.setA {w : World} {ad : Addr} {n c : Nat} {l : List Int} (h : IR w (.slice (some ad) n c) l) (k : Nat) (z : Int) : IR (w.setCell (ad.add k) (.int .i64 z)) (.slice (some ad) n c) (l.set k z) := by
  obtain ⟨A', c', hv, _, _⟩ := own_form h
  injection hv with hv1 hv2 hv3
  subst hv1 hv2 hv3
  have hf : World.ownsRow w 0 3 1 (.slice (some ad) l.length c) l.length (nums l) := h
  obtain ⟨gF, rfl⟩ : ∃ g, ad = ⟨g, 0, none⟩ := by
    rcases hf.2 with ⟨hv, _⟩ | ⟨g, cap, cur, hv, _⟩
    · exact nomatch hv
    · injection hv with hv; injection hv with hv; exact ⟨g, hv⟩
  rw [(add_at gF k 0).1]
  have := own_set hf k (.int .i64 z)
  unfold IR
  rw [List.length_set]
  simpa [nums, List.map_set] using this
/-- A fresh row of orders and a bool are returned. -/
def OwnOB (l : List Opr) (b : Bool) (w : World) (e : Ending) (w' : World) : Prop := ∃ A' c', e = .returned (.tuple #[.slice A' l.length c', .bool b]) ∧ OR w' (.slice A' l.length c') l ∧ Ext w w' ∧ Fresh (.slice A' l.length c') w
theorem OwnOB.nil {w w' : World} (h : Ext w w') (b : Bool) : OwnOB [] b w (.returned (.tuple #[.slice none 0 0, .bool b])) w' := ⟨none, 0, rfl, World.ownsRow_nil _ _ _ _, h, by simp [Fresh, Value.ownBlock]⟩
theorem nilO (w : World) : OR w (.slice none 0 0) [] := World.ownsRow_nil _ _ _ _
theorem nil_own {k : Nat} : ¬ (Value.slice none 0 0).ownBlock = some k := by simp [Value.ownBlock]
theorem fr_ext {a b c : World} {v : Value} (h : Ext a b) (hf : Fr (fun k => v.ownBlock = some k) b c) (hv : Fresh v a) : Ext a c :=
  (Fr.then (S := fun _ => False) (Fr.ofExt h) hf (fun k hk => .inr (hv k hk))).ext (fun _ h => h.elim)
end Go.Proofs.Ytgenllcfpjgklaa.C
