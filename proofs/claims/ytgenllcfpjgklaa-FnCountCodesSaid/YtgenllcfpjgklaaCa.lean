/- The small functions on orders: their contracts. -/
import Derived.Test.YtgenllcfpjgklaaProg
import Derived.Test.YtgenllcfpjgklaaWa
set_option linter.unusedVariables false
set_option linter.unusedSimpArgs false
namespace Go.Proofs.Ytgenllcfpjgklaa.C
open Go.RowKit Go.Proofs.Ytgenllcfpjgklaa.W Go.Proofs.Ytgenllcfpjgklaa.P

theorem infoI : (Try.prog.info? 3).map (fun i => (i.zero, i.size, i.bytes)) = some (some (.int .i64 0), 1, 8) := by kernel_rfl
theorem infoN : (Try.prog.info? 73).map (fun i => (i.zero, i.size, i.bytes)) = some (some (.agg #[.int .i64 0, .int .i64 0, .slice none 0 0]), 3, 40) := by kernel_rfl

theorem al_new (w : World) (o : Obj) : (w.alloc o).heap[w.heap.size]? = some o := by
  show (w.heap.push o)[w.heap.size]? = some o
  exact Array.getElem?_push_size
theorem al_size (w : World) (o : Obj) : (w.alloc o).heap.size = w.heap.size + 1 := by
  show (w.heap.push o).size = _
  exact Array.size_push o
/-- What is new. -/
def Fresh (v : Value) (w : World) : Prop := ∀ k, v.ownBlock = some k → w.heap.size ≤ k
section
variable {ops : Array Oper} {rest : List Oper} {o : Oper} {a : Act} {Q : Exit → Act → World → Prop}
/-- append to an owned row; the source's cells lie at ad. -/
theorem app_own {W : World} {t e : TypeId} {z : Value} {size bytes : Nat} (ht : Try.prog.underlying t = some (.slice e)) (hinfo : (Try.prog.info? e).map (fun i => (i.zero, i.size, i.bytes)) = some (some z, size, bytes)) (hz : z.cells.size = size) (hs0 : 0 < size)
    (hgd : o.guard = none) (s x : Operand) (ho : o.op = .call { callee := .builtin .append, args := #[s, x], argTypes := #[t, t] })
    (v : Value) (n : Nat) (xs : List Value) (hs : a.eval s = v) (ad : Addr) (m c : Nat) (news : List Value) (hx : a.eval x = .slice (some ad) m c) (hl : news.length = m * size)
    (hn : ∀ j u, news[j]? = some u → W.cell? (ad.add j) = some u) (h1 : ∀ u ∈ news, u.oneCell' = true) (hI : W.ownsRow 0 e size v n xs) (hb : (n + m) * bytes ≤ 140737488355328) (hm : n + m ≤ 140737488355328)
    (h : ∀ A' c' w', w'.ownsRow 0 e size (.slice A' (n + m) c') (n + m) (xs ++ news) → Fr (fun k => v.ownBlock = some k) W w' → FreshOr v (.slice A' (n + m) c') W → n + m ≤ c' → wpList Try.prog ops Q rest (a.put o.dst (.slice A' (n + m) c')) w') :
    wpList Try.prog ops Q (o :: rest) a W := by
  obtain ⟨i0, hi, hzz⟩ := Option.map_eq_some_iff.1 hinfo
  simp only [Prod.mk.injEq] at hzz
  obtain ⟨hz0, hz1, hz2⟩ := hzz
  refine wpList_append_own_at W hgd s x t ho 0 e i0 z size bytes ht hi hz0 hz1 hz2 hz hs0 v n xs hs hI ad m c news hx hl hn h1 (by simp only [maxLen]; omega) hb (Nat.zero_le _) ?_
  intro v1 w1 hown hg _ hat
  obtain ⟨A', c', rfl, hc', _⟩ := own_form hown
  exact h A' c' w1 hown (Fr.grown hg (fun i hi => hi)) (hat.imp id (fun e => ⟨_, e, Nat.le_refl _⟩)) hc'
/-- What an append of one element to an owned row leaves: g is the row's block. -/
def AppI (v : Value) (l0 l : List Int) (W : World) (g c' : Nat) (w' : World) : Prop := IR w' (.slice (some ⟨g, 0, none⟩) (l.length) c') l ∧ Fr (fun k => v.ownBlock = some k) W w' ∧ (v.ownBlock = some g ∨ W.heap.size ≤ g) ∧ g < w'.heap.size ∧ IR w' v l0
def AppN (v : Value) (l0 l : List (Nd × Value)) (W : World) (g c' : Nat) (w' : World) : Prop := w'.ownsRow 0 73 3 (.slice (some ⟨g, 0, none⟩) (l.length) c') l.length (ncs l) ∧ Fr (fun k => v.ownBlock = some k) W w' ∧ (v.ownBlock = some g ∨ W.heap.size ≤ g) ∧ g < w'.heap.size ∧ w'.ownsRow 0 73 3 v l0.length (ncs l0)
/-- append to an owned row out of whatever cells. -/
theorem app_wpG {W : World} {t e : TypeId} {z : Value} {size bytes : Nat} {K : Act → World → Prop} (ht : Try.prog.underlying t = some (.slice e)) (hinfo : (Try.prog.info? e).map (fun i => (i.zero, i.size, i.bytes)) = some (some z, size, bytes)) (hz : z.cells.size = size) (hs0 : 0 < size)
    (s x : Operand) (ho : o.op = .call { callee := .builtin .append, args := #[s, x], argTypes := #[t, t] })
    (v : Value) (n : Nat) (xs : List Value) (hs : a.eval s = v) (ad : Addr) (m c : Nat) (cs : List Value) (hx : a.eval x = .slice (some ad) m c) (hl : cs.length = m * size) (hn : ∀ j u, cs[j]? = some u → W.cell? (ad.add j) = some u)
    (h1 : ∀ u ∈ cs, u.oneCell' = true) (hm0 : 0 < m) (hI : W.ownsRow 0 e size v n xs) (hb : (n + m) * bytes ≤ 140737488355328) (hm : n + m ≤ 140737488355328)
    (h : ∀ g c' w', w'.ownsRow 0 e size (.slice (some ⟨g, 0, none⟩) (n + m) c') (n + m) (xs ++ cs) → Fr (fun k => v.ownBlock = some k) W w' → (v.ownBlock = some g ∨ W.heap.size ≤ g) → g < w'.heap.size → w'.ownsRow 0 e size v n xs → K (a.put o.dst (.slice (some ⟨g, 0, none⟩) (n + m) c')) w') :
    o.wp Try.prog a W K Q := by
  obtain ⟨i0, hi, hzz⟩ := Option.map_eq_some_iff.1 hinfo
  simp only [Prod.mk.injEq] at hzz
  obtain ⟨hz0, hz1, hz2⟩ := hzz
  obtain ⟨g, cap, w1, hr, hown, hg, hat, hlt, hold⟩ := run_app (P := Try.prog) W t o.type e i0 z size bytes ht hi hz0 hz1 hz2 hz hs0 v n xs hI ad m c cs hl hn h1 hm0 (by simp only [maxLen]; omega) hb
  unfold Oper.wp execOp
  simp only [ho, resolve, invoke, builtin, Sem.run_bind, Sem.run_pure, Result.andThen_ok, List.map_toArray, List.map_cons, List.map_nil, hs, hx, hr]
  exact h g cap w1 hown (Fr.grown hg (fun i hi => hi)) hat hlt hold
theorem app_wp {W : World} {t e : TypeId} {z : Value} {size bytes : Nat} {K : Act → World → Prop} (ht : Try.prog.underlying t = some (.slice e)) (hinfo : (Try.prog.info? e).map (fun i => (i.zero, i.size, i.bytes)) = some (some z, size, bytes)) (hz : z.cells.size = size) (hs0 : 0 < size)
    (s x : Operand) (ho : o.op = .call { callee := .builtin .append, args := #[s, x], argTypes := #[t, t] })
    (v : Value) (n : Nat) (xs : List Value) (hs : a.eval s = v) (m c : Nat) (cs : List Value) {nb : Nat} (hx : a.eval x = .slice (some ⟨nb, 0, none⟩) m c) (hl : cs.length = m * size)
    (h1 : ∀ u ∈ cs, u.oneCell' = true) (hm0 : 0 < m) (hI : W.ownsRow 0 e size v n xs) (hb : (n + m) * bytes ≤ 140737488355328) (hm : n + m ≤ 140737488355328)
    (h : ∀ g c' w', w'.ownsRow 0 e size (.slice (some ⟨g, 0, none⟩) (n + m) c') (n + m) (xs ++ cs) → Fr (fun k => v.ownBlock = some k) W w' → (v.ownBlock = some g ∨ W.heap.size ≤ g) → g < w'.heap.size → w'.ownsRow 0 e size v n xs → K (a.put o.dst (.slice (some ⟨g, 0, none⟩) (n + m) c')) w') (hnb : nb = W.heap.size := by first | rfl | simp only [al_size] | simp [al_size]) :
    o.wp Try.prog a (W.alloc (.cells cs.toArray e)) K Q := by
  subst hnb
  refine app_wpG ht hinfo hz hs0 s x ho v n xs hs ⟨W.heap.size, 0, none⟩ m c cs hx hl (fun j u hu => World.news_of_block (cs := cs.toArray) (heap_alloc_new W _) j u (by simpa using hu)) h1 hm0 (World.ownsRow.alloc hI _) hb hm ?_
  intro g cap w1 hown hf hat hlt hold
  exact h g cap w1 hown (Fr.trans (Fr.ofExt ((Ext.rf W).al _)) (Fr.mono (S := fun k => v.ownBlock = some k) ⟨hf.os, hf.tape, hf.output, hf.size, hf.block⟩ (fun i hi => hi))) (hat.imp id (fun e => by simp at e; omega)) hlt hold
/-- append(v, y) at a row of ints: the goal's world has the box of y. -/
theorem app_int {W : World} (hgd : o.guard = none) (s x : Operand) (ho : o.op = .call { callee := .builtin .append, args := #[s, x], argTypes := #[23, 23] })
    (v : Value) (l : List Int) (y : Int) (hs : a.eval s = v) {nb : Nat} (hx : a.eval x = .slice (some ⟨nb, 0, none⟩) 1 1) (hI : IR W v l) (hl : l.length ≤ 2000000000000)
    (h : ∀ g c' w', AppI v l (l ++ [y]) W g c' w' → wpList Try.prog ops Q rest (a.put o.dst (.slice (some ⟨g, 0, none⟩) (l.length + 1) c')) w') (hnb : nb = W.heap.size := by first | rfl | simp only [al_size] | simp [al_size]) :
    wpList Try.prog ops Q (o :: rest) a (W.alloc (.cells #[.int .i64 y] 3)) := by
  subst hnb
  refine wpList_plain hgd fun K hK => ?_
  refine app_wp (t := 23) (cs := [.int .i64 y]) (bytes := 8) (by kernel_rfl) infoI rfl (by omega) s x ho v l.length (nums l) hs 1 1 hx rfl (by simp [Value.oneCell']) (by omega) hI (by omega) (by omega) ?_
  intro g c' w1 h1 h2 h3 h4 h5
  exact hK _ _ (h g c' w1 ⟨by unfold IR; rw [nums_app, List.length_append]; exact h1, h2, h3, h4, h5⟩)
/-- append(v, N{..}): the goal's world has the box of the node. -/
theorem app_node {W : World} (hgd : o.guard = none) (s x : Operand) (ho : o.op = .call { callee := .builtin .append, args := #[s, x], argTypes := #[33, 33] })
    (v : Value) (l : List (Nd × Value)) (n : Nd) (A2 : Option Addr) (n2 c2 : Nat) (hs : a.eval s = v) {nb : Nat} (hx : a.eval x = .slice (some ⟨nb, 0, none⟩) 1 1) (hI : W.ownsRow 0 73 3 v l.length (ncs l)) (hl : l.length ≤ 2000000000000)
    (h : ∀ g c' w', AppN v l (l ++ [(n, .slice A2 n2 c2)]) W g c' w' → wpList Try.prog ops Q rest (a.put o.dst (.slice (some ⟨g, 0, none⟩) (l.length + 1) c')) w') (hnb : nb = W.heap.size := by first | rfl | simp only [al_size] | simp [al_size]) :
    wpList Try.prog ops Q (o :: rest) a (W.alloc (.cells #[.int .i64 n.kind, .int .i64 n.val, .slice A2 n2 c2] 73)) := by
  subst hnb
  refine wpList_plain hgd fun K hK => ?_
  refine app_wp (t := 33) (cs := [.int .i64 n.kind, .int .i64 n.val, .slice A2 n2 c2]) (bytes := 40) (by kernel_rfl) infoN rfl (by omega) s x ho v l.length (ncs l) hs 1 1 hx rfl (by simp [Value.oneCell']) (by omega) hI (by omega) (by omega) ?_
  intro g c' w1 h1 h2 h3 h4 h5
  exact hK _ _ (h g c' w1 ⟨by rw [ncs_app, List.length_append]; exact h1, h2, h3, h4, h5⟩)
end

def inR (n lo hi : Int) : Bool := decide (lo ≤ n ∧ n ≤ hi)
theorem inRange_c (n lo hi : Int) (w : World) : Calls Try.prog 89 #[.int .i64 n, .int .i64 lo, .int .i64 hi] w fun e w' => e = .returned (.bool (inR n lo hi)) ∧ w = w' := by
  by_cases h1 : lo ≤ n <;> by_cases h2 : n ≤ hi
  all_goals
    go_enter Try.func89, Try.ntmps89
    go_wp2
    go_ret
    exact ⟨by simp [inR]; try omega, rfl⟩

theorem mostArg_c (c : Int) (w : World) : Calls Try.prog 80 #[.int .i64 c] w fun e w' => e = .returned (.int .i64 (mostA c)) ∧ w = w' := by
  by_cases h0 : c = 0
  · subst h0; go_enter Try.func80, Try.ntmps80; go_wp2; go_ret; exact ⟨rfl, rfl⟩
  by_cases h1 : c = 1
  · subst h1; go_enter Try.func80, Try.ntmps80; go_wp2; go_ret; exact ⟨rfl, rfl⟩
  by_cases h2 : c = 13
  · subst h2; go_enter Try.func80, Try.ntmps80; go_wp2; go_ret; exact ⟨rfl, rfl⟩
  by_cases h3 : c = 15
  · subst h3; go_enter Try.func80, Try.ntmps80; go_wp2; go_ret; exact ⟨rfl, rfl⟩
  by_cases h4 : c = 16
  · subst h4; go_enter Try.func80, Try.ntmps80; go_wp2; go_ret; exact ⟨rfl, rfl⟩
  go_enter Try.func80, Try.ntmps80
  go_wp2
  go_ret
  exact ⟨by simp [mostA, h0, h1, h2, h3, h4], rfl⟩

theorem opOk_c (o : Opr) (w : World) : Calls Try.prog 71 #[.agg #[.int .i64 o.code, .int .i64 o.arg]] w fun e w' => e = .returned (.bool (okO o)) ∧ Ext w w' := by
  obtain ⟨c, a⟩ := o
  rcases bcase (0 ≤ c) with h1 | h1 <;> rcases bcase (c ≤ 19) with h2 | h2 <;> rcases bcase (0 ≤ a) with h3 | h3
  all_goals
    go_enter Try.func71, Try.ntmps71
    go_wp2_with fail
    go_quiet ((go_at_call 80; exact Calls.quiet_of_same ((mostArg_c _ _).mono fun _ _ h => ⟨h.1, h.2.symm⟩)))
    go_wp2
    go_ret
    refine ⟨ret_bool ?_, ((Ext.rf _).al _).dN _⟩
    simp [okO]
    first | done | omega | (simp [*]; done) | (simp at *; omega) | (simp at h1 h2 h3; simp; omega)

theorem ValidOps_c (A : Option Addr) (c : Nat) (l : List Opr) (w : World) (hr : RdO w A l) : Calls Try.prog 20 #[.slice A l.length c] w fun e w' => e = .returned (.bool (vOps l)) ∧ Ext w w' := by
  have hlen := hr.1
  have H := As.mk hr; clear hr
  go_enter Try.func20, Try.ntmps20
  go_wp2
  go_loopw [7] (fun i wr => ∃ k : Nat, k ≤ l.length ∧ i = .int .i64 k ∧ As ((l.take k).all okO = true) ∧ As (Ext w wr)) (fun i _ => l.length - (intOf i).toNat)
  case atStart => exact ⟨0, Nat.zero_le _, rfl, ⟨by simp⟩, ⟨Ext.rf _⟩⟩
  case round =>
    obtain ⟨k, hk, rfl, hn, he⟩ := hrel
    by_cases hlt : k < l.length
    · obtain ⟨ad, rfl, h1, h2⟩ := (H.out.ext he.out).2 k hlt
      go_wp2_with ((go_at_call 71; refine (opOk_c _ _).mono ?_; rintro e w1 ⟨rfl, hb⟩))
      · have hq : (!okO l[k]) = true := by assumption
        go_ret
        exact ⟨ret_bool (by rw [vOps, all_stop hlt (by simpa using hq)]; rfl), (he.out.al _).trans hb⟩
      · have hq : (!okO l[k]) = false := by assumption
        go_roundw
        case rel => exact ⟨k + 1, by omega, by go_num, ⟨all_step hlt hn.out (by simpa using hq)⟩, ⟨(he.out.al _).trans hb⟩⟩
        case measure => simp [intOf]; omega
    · go_wp2
      go_ret
      exact ⟨ret_bool (by rw [vOps, all_end (by omega) hn.out]; simp; omega), he.out⟩

/-- slices.Clone at ints. -/
def ClonePost (l : List Int) (w : World) (e : Ending) (w' : World) : Prop := ∃ A' c', e = .returned (.slice A' l.length c') ∧ IR w' (.slice A' l.length c') l ∧ Ext w w' ∧ Fresh (.slice A' l.length c') w
theorem clone_c (A : Option Addr) (c : Nat) (l : List Int) (w : World) (hr : RdI w A l) : Calls Try.prog 74 #[.slice A l.length c] w (ClonePost l w) := by
  have he := Lib.run_eql_slice_nil (P := Try.prog)
  have hlen := hr.1
  cases A with
  | none =>
    have h0 : l = [] := by
      cases l with
      | nil => rfl
      | cons x l => obtain ⟨ad, h, _⟩ := hr.2 0 (by simp); cases h
    subst h0
    go_enter Try.func74, Try.ntmps74
    go_wp2
    go_ret
    exact ⟨none, 0, rfl, IR.nil _, Ext.rf _, by simp [Fresh, Value.ownBlock]⟩
  | some ad =>
    have hcell : ∀ j u, (nums l)[j]? = some u → w.cell? (ad.add j) = some u := by
      intro j u hu
      have hj : j < l.length := by
        have := (List.getElem?_eq_some_iff.1 hu).1
        simpa [nums] using this
      obtain ⟨ad', h1, h2⟩ := hr.2 j hj
      cases h1
      rw [h2]
      simpa [nums, hj] using hu
    have HC := As.mk hcell
    clear hr hcell
    go_enter Try.func74, Try.ntmps74
    go_wp2_with ((at_builtin; refine app_own (t := 23) (e := 3) (z := .int .i64 0) (size := 1) (bytes := 8) (by kernel_rfl) infoI rfl (by omega) rfl _ _ rfl (.slice (some ⟨w.heap.size, 0, none⟩) 0 0) 0 [] rfl ad l.length c (nums l) rfl (by simp [nums]) (fun j u hu => (((Ext.rf w).al _).cellOf (HC.out j u hu))) (nums_one l) (World.ownsRow_lit (base := 0) (size := 1) w #[] 0 (Nat.zero_le _) (by simp) rfl) (by omega) (by omega) ?_; intro A' c' w1 hown hf hat _; have HO := As.mk hown; have HF := As.mk hf; have HA := As.mk hat; clear hown hf hat))
    go_ret
    have e0 : Ext w w1 := (Fr.then (S := fun _ => False) (Fr.ofExt ((Ext.rf w).al (.cells #[] 3))) HF.out (fun i hi => .inr (by simp [Value.ownBlock] at hi; omega))).ext (fun _ h => h.elim)
    refine ⟨A', c', by simp, by unfold IR; simpa using HO.out, e0, fun k hk => ?_⟩
    rcases HA.out with h1 | ⟨b, h1, h2⟩
    · rw [Nat.zero_add] at h1; rw [hk] at h1; simp [Value.ownBlock] at h1; omega
    · rw [Nat.zero_add] at h1; rw [hk] at h1; injection h1 with h1; subst h1; simp at h2; omega
end Go.Proofs.Ytgenllcfpjgklaa.C
