/- Keys and values are set in the topmost dictionary. -/
import Derived.Test.YtcodbpjaamggeaaCf
set_option linter.unusedVariables false
set_option linter.unusedSimpArgs false
namespace Go.Proofs.Ytcodbpjaamggeaa.P
/-- What stands in a machine. -/
structure okM (B : Nat) (m : Mc) : Prop where
  nl : m.nodes.length ≤ 300
  sl : m.stack.length ≤ 300
  ml : m.memo.length = 20
  si : ∀ x ∈ m.stack, -1 ≤ x ∧ x < m.nodes.length
  mi : ∀ x ∈ m.memo, -1 ≤ x ∧ x < m.nodes.length
  ki : ∀ n ∈ m.nodes, n.kids.length ≤ B ∧ (∀ x ∈ n.kids, 0 ≤ x ∧ x < m.nodes.length) ∧ (n.kind = 4 → n.kids.length % 2 = 0)

theorem findK_lt (nodes : List Nd) (kids : List Int) (k v : Int) : ∀ (f i j : Nat), findK nodes kids k v f i = some j → j < kids.length ∧ j % 2 = i % 2
  | 0, i, j, h => nomatch h
  | f + 1, i, j, h => by
    unfold findK at h
    split at h
    · simp only at h
      split at h
      · injection h with h; subst h; exact ⟨by assumption, rfl⟩
      · have := findK_lt nodes kids k v f (i + 2) j h
        exact ⟨this.1, by omega⟩
    · exact nomatch h
theorem findKey_lt {nodes : List Nd} {kids : List Int} {k v : Int} {j : Nat} (h : findKey nodes kids k v = some j) (he : kids.length % 2 = 0) : j + 1 < kids.length := by
  have := findK_lt nodes kids k v _ _ _ h
  omega
/-- Kinds and values alone are looked at. -/
theorem findK_same {nodes nodes' : List Nd} (h : ∀ i : Nat, (nodes.getD i default).kind = (nodes'.getD i default).kind ∧ (nodes.getD i default).val = (nodes'.getD i default).val) (kids : List Int) (k v : Int) : ∀ (f i : Nat), findK nodes kids k v f i = findK nodes' kids k v f i
  | 0, _ => rfl
  | f + 1, i => by
    unfold findK
    simp only [(h _).1, (h _).2, findK_same h kids k v f (i + 2)]
theorem same_set (nodes : List Nd) (d : Nat) (kids : List Int) : ∀ i : Nat, ((nodes.set d ⟨(nodes.getD d default).kind, (nodes.getD d default).val, kids⟩).getD i default).kind = (nodes.getD i default).kind ∧ ((nodes.set d ⟨(nodes.getD d default).kind, (nodes.getD d default).val, kids⟩).getD i default).val = (nodes.getD i default).val := by
  intro i
  rw [List.getD_eq_getElem?_getD, List.getD_eq_getElem?_getD, List.getElem?_set]
  by_cases h : d = i
  · subst h
    by_cases h2 : d < nodes.length
    · simp [h2, List.getD_eq_getElem?_getD]
    · simp [h2]
  · simp [h]
theorem setKids_nodes (m : Mc) (d : Nat) (kids : List Int) : (setKids m d kids).nodes = m.nodes.set d ⟨(m.nodes.getD d default).kind, (m.nodes.getD d default).val, kids⟩ := rfl
theorem setKids_again (m : Mc) (d : Nat) (k1 k2 : List Int) (hd : d < m.nodes.length) : setKids (setKids m d k1) d k2 = setKids m d k2 := by
  unfold setKids nd
  simp [hd, List.getD_eq_getElem?_getD]
theorem setKids_nd (m : Mc) (d : Nat) (kids : List Int) (hd : d < m.nodes.length) : nd (setKids m d kids) d = ⟨(nd m d).kind, (nd m d).val, kids⟩ := by
  unfold setKids nd
  simp [hd, List.getD_eq_getElem?_getD]
theorem setKids_self (m : Mc) (d : Nat) (hd : d < m.nodes.length) : setKids m d (nd m d).kids = m := by
  unfold setKids nd
  obtain ⟨a, b, c, e⟩ := m
  simp only at hd
  simp only [Int.toNat_natCast, List.getD_eq_getElem?_getD, List.getElem?_eq_getElem hd, Option.getD_some, Mc.mk.injEq, and_self, and_true]
  exact List.set_getElem_self hd
theorem setKids_len (m : Mc) (d : Int) (kids : List Int) : (setKids m d kids).nodes.length = m.nodes.length := by simp [setKids]
theorem put1_same (nodes nodes' : List Nd) (h : ∀ i : Nat, (nodes.getD i default).kind = (nodes'.getD i default).kind ∧ (nodes.getD i default).val = (nodes'.getD i default).val) (kids : List Int) (a b : Int) : put1 nodes kids a b = put1 nodes' kids a b := by
  unfold put1 findKey
  simp only [(h _).1, (h _).2, findK_same h]
theorem put1_eq (nodes : List Nd) (kids : List Int) (a b : Int) : put1 nodes kids a b = (match findKey nodes kids (nodes.getD a.toNat default).kind (nodes.getD a.toNat default).val with | some i => kids.set (i + 1) b | none => kids ++ [a, b]) := rfl
theorem put1_len (nodes : List Nd) (kids : List Int) (a b : Int) : (put1 nodes kids a b).length ≤ kids.length + 2 ∧ (put1 nodes kids a b).length % 2 = kids.length % 2 := by
  rw [put1_eq]
  cases findKey nodes kids (nodes.getD a.toNat default).kind (nodes.getD a.toNat default).val <;> simp
theorem put1_mem (nodes : List Nd) (kids : List Int) (a b x : Int) (hx : x ∈ put1 nodes kids a b) : x ∈ kids ∨ x = a ∨ x = b := by
  rw [put1_eq] at hx
  cases h : findKey nodes kids (nodes.getD a.toNat default).kind (nodes.getD a.toNat default).val with
  | none => rw [h] at hx; simpa using hx
  | some i => rw [h] at hx; exact (List.mem_or_eq_of_mem_set hx).imp id .inr
theorem goodK_at (nodes : List Nd) (l : List Int) (i : Nat) (h : i + 1 < l.length) : goodK nodes (l.drop i) = (decide ((nodes.getD (l[i]'(by omega)).toNat default).kind ≤ 1) && goodK nodes (l.drop (i + 2))) := by
  rw [List.drop_eq_getElem_cons (by omega), List.drop_eq_getElem_cons (i := i + 1) h]; rfl
theorem putAll_at (nodes : List Nd) (kids l : List Int) (i : Nat) (h : i + 1 < l.length) : putAll nodes kids (l.drop i) = putAll nodes (put1 nodes kids (l[i]'(by omega)) l[i + 1]) (l.drop (i + 2)) := by
  rw [List.drop_eq_getElem_cons (by omega), List.drop_eq_getElem_cons (i := i + 1) h]; rfl
end Go.Proofs.Ytcodbpjaamggeaa.P
namespace Go.Proofs.Ytcodbpjaamggeaa.C
open Go.RowKit Go.Proofs.Ytcodbpjaamggeaa.W Go.Proofs.Ytcodbpjaamggeaa.P

theorem MR.hd {base w g l vN vS vM m} (h : MR base w g l vN vS vM m) (h0 : 0 < m.nodes.length) (hl : m.nodes.length ≤ 1000000000000) : ∃ gN cN, vN = .slice (some ⟨gN, 0, none⟩) m.nodes.length cN ∧ m.nodes.length ≤ cN ∧ RdN w (some ⟨gN, 0, none⟩) m.nodes := by
  obtain ⟨A, c, rfl, hc, hr⟩ := h.rdN hl
  rcases h.nr.1.2 with ⟨hv, _⟩ | ⟨g', cap, cur, hv, _⟩
  · injection hv with _ h1; omega
  · injection hv with h1
    subst h1
    exact ⟨g', c, rfl, hc, hr⟩
/-- The topmost node: where it lies. -/
theorem top_m0 {base w g l A c vN vM m} (h : MR base w g l vN (.slice A m.stack.length c) vM m) (hls : m.stack.length ≤ 1000000) (kind : Int) (ht : topN m.stack = 0) :
    Calls Try.prog 158 #[.pointer (some ⟨g, 0, none⟩), .int .i64 kind] w fun e w' => e = .returned (.tuple #[.pointer none, .bool false]) ∧ ∃ n, w' = w.drewN n := by
  obtain ⟨A0, c0, h1, h2, h3⟩ := h.rdS (by omega)
  injection h1 with h1 _ h4
  subst h1 h4
  exact top_c0 g vN vM m.done A c m.stack kind w h.mb h3 ht
theorem top_m1 {base w g l gN cN A c vM m} (h : MR base w g l (.slice (some ⟨gN, 0, none⟩) m.nodes.length cN) (.slice A m.stack.length c) vM m) (hln : m.nodes.length ≤ 1000000) (hls : m.stack.length ≤ 1000000) (kind : Int) (x : Nat) (ht : 0 < topN m.stack) (hx : st m.stack 0 = x) (hxl : x < m.nodes.length) :
    Calls Try.prog 158 #[.pointer (some ⟨g, 0, none⟩), .int .i64 kind] w fun e w' => e = .returned (.tuple #[.pointer (some ((⟨gN, 0, none⟩ : Addr).add (x * 3))), .bool (m.nodes[x].kind == kind)]) ∧ ∃ n, w' = w.drewN n := by
  obtain ⟨A0, c0, h1, h2, h3⟩ := h.rdS (by omega)
  injection h1 with h1 _ h4
  subst h1 h4
  obtain ⟨g', c', h5, h6, h7⟩ := h.hd (by omega) (by omega)
  injection h5 with h5 _ h8
  injection h5 with h5
  injection h5 with h5
  subst h5 h8
  exact top_c1 g vM m.done A c m.stack _ cN m.nodes x kind w h.mb h3 h7 ht hx hxl
theorem top_ok {B : Nat} {m : Mc} (h : okM B m) (ht : 0 < topN m.stack) : ∃ x : Nat, st m.stack 0 = x ∧ x < m.nodes.length := by
  obtain ⟨h1, h2⟩ := topN_ge m.stack 0 ht
  have h3 := h.si _ (List.getElem_mem (l := m.stack) (n := m.stack.length - 1 - 0) (by omega))
  obtain ⟨x, hx⟩ := Int.eq_ofNat_of_zero_le h2
  exact ⟨x, by rw [st_at _ _ h1, hx], by omega⟩
theorem MR.dN {base w g l vN vS vM m} (h : MR base w g l vN vS vM m) (n : Nat) : MR base (w.drewN n) g l vN vS vM m := h.ext ((Ext.rf w).dN n)
end Go.Proofs.Ytcodbpjaamggeaa.C
