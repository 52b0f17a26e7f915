/- Words for rows that are apart, appends of several, results that lie in a block. -/
import Derived.Test.YtgenllcfpjgklaaCa
import Derived.Test.YtgenllcfpjgklaaWr
import Derived.Deep.OwnRows
import Derived.Laws.Rows
import Derived.Deep.Cut
set_option linter.unusedVariables false
set_option linter.unusedSimpArgs false
namespace Go.Proofs.Ytgenllcfpjgklaa.C
open Go.RowKit Go.Proofs.Ytgenllcfpjgklaa.W Go.Proofs.Ytgenllcfpjgklaa.P

theorem own_set {w : World} {base : Nat} {e : TypeId} {size n : Nat} {g c : Nat} {xs : List Value} (h : w.ownsRow base e size (.slice (some ⟨g, 0, none⟩) n c) n xs) (j : Nat) (u : Value) :
    (w.setCell ⟨g, j, none⟩ u).ownsRow base e size (.slice (some ⟨g, 0, none⟩) n c) n (xs.set j u) := by
  refine ⟨by rw [List.length_set]; exact h.1, ?_⟩
  rcases h.2 with ⟨hv, _⟩ | ⟨g', cap, cur, hv, hg, hh, h1, h2, h3, h4⟩
  · exact nomatch hv
  · injection hv with hv1 hv2 hv3
    injection hv1 with hv1
    injection hv1 with hv1
    subst hv1 hv3
    refine .inr ⟨g, c, cur.setIfInBounds j u, rfl, hg, ?_, h1, h2, by simpa using h3, ?_⟩
    · simp [World.setCell, Array.getElem?_modify, hh]
    · rw [Array.toList_setIfInBounds, List.take_set, h4]

/-- Blocks that differ. -/
def Apart (v v' : Value) : Prop := ∀ k, v.ownBlock = some k → v'.ownBlock ≠ some k
theorem Apart.symm {v v' : Value} (h : Apart v v') : Apart v' v := fun k hk hk' => h k hk' hk
theorem Apart.fresh {v v' : Value} {w : World} (hv : ∀ k, v.ownBlock = some k → k < w.heap.size) (hf : Fresh v' w) : Apart v v' := fun k hk hk' => by have := hf k hk'; have := hv k hk; omega
theorem Apart.of {a b b' : Value} {w : World} (h : Apart a b) (hf : FreshOr b b' w) (ha : ∀ k, a.ownBlock = some k → k < w.heap.size) : Apart a b' := fun k hk => hf.ne (ha k hk) (h k hk)

/-- What an append of several leaves. -/
def AppS (v : Value) (l0 l : List Int) (W : World) (A : Option Addr) (c : Nat) (w' : World) : Prop := IR w' (.slice A l.length c) l ∧ Fr (fun k => v.ownBlock = some k) W w' ∧ FreshOr v (.slice A l.length c) W ∧ IR w' v l0
section
variable {ops : Array Oper} {rest : List Oper} {o : Oper} {a : Act} {Q : Exit → Act → World → Prop}
theorem app_ints {W : World} (hgd : o.guard = none) (s x : Operand) (ho : o.op = .call { callee := .builtin .append, args := #[s, x], argTypes := #[23, 23] })
    (v : Value) (l : List Int) (ad : Addr) (m c : Nat) (r : List Int) (hs : a.eval s = v) (hx : a.eval x = .slice (some ad) m c) (hm : m = r.length) (hr : RdI W (some ad) r) (hI : IR W v l) (hl : l.length ≤ 2000000000000)
    (h : ∀ A' c' w', AppS v l (l ++ r) W A' c' w' → wpList Try.prog ops Q rest (a.put o.dst (.slice A' (l ++ r).length c')) w') :
    wpList Try.prog ops Q (o :: rest) a W := by
  subst hm
  have hrl := hr.1
  have hcell : ∀ j u, (nums r)[j]? = some u → W.cell? (ad.add j) = some u := fun j u hu => by
    obtain ⟨hj, hu⟩ := List.getElem?_eq_some_iff.1 hu
    have hj' : j < r.length := by simpa [nums] using hj
    obtain ⟨ad', ha, hc⟩ := hr.2 j hj'
    injection ha with ha
    subst ha
    rw [hc, ← hu]; simp [nums]
  rcases Nat.eq_zero_or_pos r.length with h0 | h0
  · have hr0 : r = [] := List.length_eq_zero_iff.1 h0
    subst hr0
    rcases hI.2 with ⟨hv, hl0⟩ | ⟨g, cap, cur, hv, hg, hh, h1, h2, h3, h4⟩
    · have hll : l = [] := List.length_eq_zero_iff.1 hl0
      subst hll
      refine app_own (z := .int .i64 0) (bytes := 8) (by kernel_rfl) infoI rfl (by omega) hgd s x ho v 0 (nums []) hs ad 0 c (nums []) hx rfl hcell (by simp [nums]) hI (by omega) (by omega) ?_
      intro A' c' w1 k1 k2 k3 _
      exact h A' c' w1 ⟨k1, k2, k3, ⟨rfl, .inl ⟨hv, rfl⟩⟩⟩
    · refine wpList_plain hgd fun K hK => ?_
      obtain ⟨i0, hi, hzz⟩ := Option.map_eq_some_iff.1 infoI
      simp only [Prod.mk.injEq] at hzz
      subst hv
      obtain ⟨w', q1, q2, q3⟩ := run_append_fits (P := Try.prog) W 0 23 o.type 3 i0 1 (by kernel_rfl) hi hzz.2.1 g l.length cap (nums l) hI ad 0 c (nums []) rfl hcell (by simp [nums]) (by omega)
      unfold Oper.wp execOp
      simp only [ho, resolve, invoke, builtin, Sem.run_bind, Sem.run_pure, Result.andThen_ok, List.map_toArray, List.map_cons, List.map_nil, hs, hx, List.length_nil, q1]
      have e0 : nums l ++ nums [] = nums l := by simp [nums]
      rw [e0] at q2
      refine hK _ _ (h (some ⟨g, 0, none⟩) cap w' ⟨by simpa [IR] using q2, Fr.grown q3 (fun i hi => hi), .inl rfl, q2⟩ |> fun hh => ?_)
      simpa using hh
  · refine wpList_plain hgd fun K hK => ?_
    refine app_wpG (z := .int .i64 0) (bytes := 8) (by kernel_rfl) infoI rfl (by omega) s x ho v l.length (nums l) hs ad r.length c (nums r) hx (by simp [nums]) hcell (nums_one r) h0 hI (by omega) (by omega) ?_
    intro g c' w1 h1 h2 h3 h4 h5
    have := hK _ _ (h (some ⟨g, 0, none⟩) c' w1 ⟨by unfold IR; rw [nums_app, List.length_append]; exact h1, h2, h3.elim (fun e => .inl (by rw [e]; rfl)) (fun e => .inr ⟨_, rfl, e⟩), h5⟩)
    rwa [List.length_append] at this
end
/-- append of ints out of a slice, nil or not. -/
theorem app_nil {P : Program} (w : World) (base : Nat) (t ty e : TypeId) (i : TypeInfo) (size : Nat) (ht : P.underlying t = some (.slice e)) (hi : P.info? e = some i)
    (v : Value) (n : Nat) (xs : List Value) (hown : w.ownsRow base e size v n xs) (c : Nat) : (Builtin.append_ #[t, t] ty #[v, .slice none 0 c]).run P w = .ok v w := by
  rcases hown.2 with ⟨rfl, rfl⟩ | ⟨g, cap, cur, rfl, _, _, hnc, _⟩
  · simp [Builtin.append_, run_underlying ht, sizeOf, typeInfo, hi, Builtin.lenOf, Builtin.firstCells]
  · simp [Builtin.append_, run_underlying ht, sizeOf, typeInfo, hi, Builtin.lenOf, Builtin.firstCells, hnc, storeCells]
theorem infoI_some : ∃ i, Try.prog.info? 3 = some i := by
  obtain ⟨i, h, _⟩ := Option.map_eq_some_iff.1 infoI
  exact ⟨i, h⟩
section
variable {ops : Array Oper} {rest : List Oper} {o : Oper} {a : Act} {Q : Exit → Act → World → Prop}
theorem app_intsA {W : World} (hgd : o.guard = none) (s x : Operand) (ho : o.op = .call { callee := .builtin .append, args := #[s, x], argTypes := #[23, 23] })
    (v : Value) (l : List Int) (A : Option Addr) (m c : Nat) (r : List Int) (hs : a.eval s = v) (hx : a.eval x = .slice A m c) (hm : m = r.length) (hr : RdI W A r) (hI : IR W v l) (hl : l.length ≤ 2000000000000)
    (h : ∀ A' c' w', AppS v l (l ++ r) W A' c' w' → wpList Try.prog ops Q rest (a.put o.dst (.slice A' (l ++ r).length c')) w') :
    wpList Try.prog ops Q (o :: rest) a W := by
  cases A with
  | some ad => exact app_ints hgd s x ho v l ad m c r hs hx hm hr hI hl h
  | none =>
    have hr0 : r = [] := by
      cases r with
      | nil => rfl
      | cons y r => obtain ⟨ad, h, _⟩ := hr.2 0 (by simp); cases h
    subst hr0
    have hm0 : m = 0 := hm
    subst hm0
    refine wpList_plain hgd fun K hK => ?_
    obtain ⟨i, hi⟩ := infoI_some
    obtain ⟨A', c', rfl, _, _⟩ := own_form hI
    have q1 := app_nil (P := Try.prog) W 0 23 o.type 3 i 1 (by kernel_rfl) hi _ l.length (nums l) hI c
    unfold Oper.wp execOp
    simp only [ho, resolve, invoke, builtin, Sem.run_bind, Sem.run_pure, Result.andThen_ok, List.map_toArray, List.map_cons, List.map_nil, hs, hx, q1]
    have := hK _ _ (h A' c' W ⟨by simpa using hI, Fr.rf _ _, by simpa using FreshOr.rf _ _, hI⟩)
    rw [List.append_nil] at this
    exact this
end
/-- A result that lies in a block. -/
theorem results_cell {fn : Func} {p : Tmp} {ty : TypeId} (h : fn.results = #[.cell p ty]) (tmps : Array Value) (w : World) (g : Nat) (v : Value)
    (hp : tmps.getD p undef = .pointer (some ⟨g, 0, none⟩)) (hl : (loadVar ty ⟨g, 0, none⟩).run Try.prog w = .ok v w) :
    (results fn tmps).run Try.prog w = .ok v w := by
  have hp' : tmps[p]?.getD undef = .pointer (some ⟨g, 0, none⟩) := by simpa using hp
  simp [results, h, hp', asAddr, hl]
theorem results_cellt {fn : Func} {p u : Tmp} {ty : TypeId} (h : fn.results = #[.cell p ty, .tmp u]) (tmps : Array Value) (w : World) (g : Nat) (v : Value)
    (hp : tmps.getD p undef = .pointer (some ⟨g, 0, none⟩)) (hl : (loadVar ty ⟨g, 0, none⟩).run Try.prog w = .ok v w) :
    (results fn tmps).run Try.prog w = .ok (.tuple #[v, tmps.getD u undef]) w := by
  have hp' : tmps[p]?.getD undef = .pointer (some ⟨g, 0, none⟩) := by simpa using hp
  simp [results, h, hp', asAddr, hl]
theorem IR.ofRow {w : World} {b n : Nat} {f : Nat → Value} (h : w.rowIs b 3 n f) (l : List Int) (hl : l.length = n) (hf : ∀ (i : Nat) (h : i < l.length), f i = .int .i64 l[i]) (hn : n ≤ 1000000000000) : IR w (.slice (some ⟨b, 0, none⟩) n n) l := by
  obtain ⟨c, hb, hc, hcell⟩ := h
  subst hl
  refine ⟨by simp [nums], .inr ⟨b, l.length, c, rfl, Nat.zero_le _, hb, Nat.le_refl _, by simp only [maxLen]; omega, by omega, ?_⟩⟩
  apply List.ext_getElem?
  intro i
  rw [Nat.mul_one, List.getElem?_take]
  by_cases hi : i < l.length
  · rw [if_pos hi, Array.getElem?_toList, hcell i hi, hf i hi]
    simp [nums, hi]
  · rw [if_neg hi]
    simp [nums, Nat.le_of_not_lt hi]

end Go.Proofs.Ytgenllcfpjgklaa.C
