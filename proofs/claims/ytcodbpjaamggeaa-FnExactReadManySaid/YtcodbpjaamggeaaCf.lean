/- Kids that are put at the end of a node's. Keys and values are set in the topmost dictionary. -/
import Derived.Test.YtcodbpjaamggeaaCe
set_option linter.unusedVariables false
set_option linter.unusedSimpArgs false
namespace Go.Proofs.Ytcodbpjaamggeaa.C
open Go.RowKit Go.Proofs.Ytcodbpjaamggeaa.W Go.Proofs.Ytcodbpjaamggeaa.P

/-- The machine stands while a row of kids has grown: its old header reads what it read. -/
theorem MR.app {base w w' g l vN vS vM m} (h : MR base w g l vN vS vM m) (p : Nd × Value) (hp : p ∈ l) (hf : Fr (fun k => p.2.ownBlock = some k) w w') (ho : IR w' p.2 p.1.kids) : MR base w' g l vN vS vM m := by
  have hp1 := (h.nr.2 p hp).1
  refine ⟨hf.blk h.mb (fun e => own_ne_blk hp1 h.mb (by decide) e), ⟨own_keep h.nr.1 (fun k hk => hf.block k (own_lt h.nr.1 hk) (fun e => own_ne_type h.nr.1 hp1 (by decide) hk e)), fun q hq => ?_⟩, h.ns, h.sr.fr hf (fun k hk e => h.ks p hp k e hk), h.me.fr hf (fun k hk e => h.km p hp k e hk), h.lo, h.kk, h.ks, h.km, h.sm, fun k hk => h.up k (Nat.le_trans hf.size hk)⟩
  by_cases hqp : q = p
  · subst hqp; exact ⟨ho, (h.nr.2 q hq).2⟩
  · refine ⟨(h.nr.2 q hq).1.fr hf (fun k hk e => ?_), (h.nr.2 q hq).2⟩
    obtain ⟨i, hi, rfl⟩ := List.mem_iff_getElem.1 hp
    obtain ⟨j, hj, rfl⟩ := List.mem_iff_getElem.1 hq
    rcases Nat.lt_trichotomy i j with hij | hij | hij
    · exact List.pairwise_iff_getElem.1 h.kk i j hi hj hij k e hk
    · subst hij; exact hqp rfl
    · exact List.pairwise_iff_getElem.1 h.kk j i hj hi hij k hk e

/-- Another row of kids. -/
theorem MR.kids {base w g l gN n c vS vM m} (h : MR base w g l (.slice (some ⟨gN, 0, none⟩) n c) vS vM m) (i : Nat) (hi : i < l.length) (vK : Value) (kids : List Int) (hI : IR w vK kids) (hk : kids.length ≤ 1000000000000) (hlo : ∀ k, vK.ownBlock = some k → base k)
    (hS : Apart vK vS) (hM : Apart vK vM) (hO : ∀ j (hj : j < l.length), j ≠ i → Apart l[j].2 vK) :
    MR base (w.setCell ⟨gN, i * 3 + 2, none⟩ vK) g (l.set i (⟨l[i].1.kind, l[i].1.val, kids⟩, vK)) (.slice (some ⟨gN, 0, none⟩) n c) vS vM (setKids m i kids) := by
  have hn : n = l.length := by
    rcases h.nr.1.2 with ⟨hv, _⟩ | ⟨g', cap, cur, hv, _⟩
    · exact nomatch hv
    · injection hv
  subst hn
  have hne : ∀ (v : Value) (l : List Int), IR w v l → IR (w.setCell ⟨gN, i * 3 + 2, none⟩ vK) v l := fun v l hv => hv.keep (fun k hk => Below.heap_setCell _ _ _ _ (fun e => own_ne_type hv h.nr.1 (by decide) hk (by show some gN = some k; rw [e])))
  have hgg : g ≠ gN := fun e => own_ne_blk h.nr.1 h.mb (by decide) (by show some gN = some g; rw [e])
  have hnd : nd m i = l[i].1 := by
    unfold nd
    rw [Int.toNat_natCast, ← h.ns, List.getD_eq_getElem?_getD, List.getElem?_map, List.getElem?_eq_getElem hi]; rfl
  refine ⟨(Below.heap_setCell _ _ _ _ hgg).trans h.mb, ⟨?_, fun p hp => ?_⟩, ?_, hne _ _ h.sr, hne _ _ h.me, fun k hk => ?_, ?_, fun p hp => ?_, fun p hp => ?_, h.sm, fun k hk => h.up k (by simpa [World.setCell] using hk)⟩
  · have := own_set h.nr.1 (i * 3 + 2) vK
    rw [← ncs_set l i hi ⟨l[i].1.kind, l[i].1.val, kids⟩ vK rfl rfl] at this
    simpa using this
  · rcases List.mem_or_eq_of_mem_set hp with hp | rfl
    · exact ⟨hne _ _ (h.nr.2 p hp).1, (h.nr.2 p hp).2⟩
    · exact ⟨hne _ _ hI, hk⟩
  · show (l.set i _).map Prod.fst = m.nodes.set (Int.toNat i) ⟨(nd m i).kind, (nd m i).val, kids⟩
    rw [List.map_set, h.ns, hnd, Int.toNat_natCast]
  · rcases hk with e | e | e | e | ⟨p, hp, e⟩
    · exact h.lo k (.inl e)
    · exact h.lo k (.inr (.inl e))
    · exact h.lo k (.inr (.inr (.inl e)))
    · exact h.lo k (.inr (.inr (.inr (.inl e))))
    · rcases List.mem_or_eq_of_mem_set hp with hp | rfl
      · exact h.lo k (.inr (.inr (.inr (.inr ⟨p, hp, e⟩))))
      · exact hlo k e
  · rw [List.pairwise_iff_getElem]
    intro a b ha hb hab
    simp only [List.length_set] at ha hb
    rw [List.getElem_set, List.getElem_set]
    split
    · rename_i e1
      split
      · omega
      · rename_i e2; exact (hO b hb (fun e => e2 e.symm)).symm
    · rename_i e1
      split
      · exact hO a ha (fun e => e1 e.symm)
      · exact List.pairwise_iff_getElem.1 h.kk a b ha hb hab
  · rcases List.mem_or_eq_of_mem_set hp with hp | rfl
    · exact h.ks p hp
    · exact hS
  · rcases List.mem_or_eq_of_mem_set hp with hp | rfl
    · exact h.km p hp
    · exact hM
end Go.Proofs.Ytcodbpjaamggeaa.C
namespace Go.Proofs.Ytcodbpjaamggeaa.P
/-- What stands in a machine. -/
structure okM (B : Nat) (m : Mc) : Prop where
  nl : m.nodes.length ≤ 300
  sl : m.stack.length ≤ 300
  ml : m.memo.length = 20
  si : ∀ x ∈ m.stack, -1 ≤ x ∧ x < m.nodes.length
  mi : ∀ x ∈ m.memo, -1 ≤ x ∧ x < m.nodes.length
  ki : ∀ n ∈ m.nodes, n.kids.length ≤ B ∧ (∀ x ∈ n.kids, 0 ≤ x ∧ x < m.nodes.length) ∧ (n.kind = 4 → n.kids.length % 2 = 0)

theorem findK_lt (nodes : List Nd) (kids : List Int) (k v : Int) : ∀ (f i j : Nat), findK nodes kids k v f i = some j → j < kids.length ∧ j % 2 = i % 2
  | 0, i, j, h => nomatch h
  | f + 1, i, j, h => by
    unfold findK at h
    split at h
    · simp only at h
      split at h
      · injection h with h; subst h; exact ⟨by assumption, rfl⟩
      · have := findK_lt nodes kids k v f (i + 2) j h
        exact ⟨this.1, by omega⟩
    · exact nomatch h
theorem findKey_lt {nodes : List Nd} {kids : List Int} {k v : Int} {j : Nat} (h : findKey nodes kids k v = some j) (he : kids.length % 2 = 0) : j + 1 < kids.length := by
  have := findK_lt nodes kids k v _ _ _ h
  omega
/-- Kinds and values alone are looked at. -/
theorem findK_same {nodes nodes' : List Nd} (h : ∀ i : Nat, (nodes.getD i default).kind = (nodes'.getD i default).kind ∧ (nodes.getD i default).val = (nodes'.getD i default).val) (kids : List Int) (k v : Int) : ∀ (f i : Nat), findK nodes kids k v f i = findK nodes' kids k v f i
  | 0, _ => rfl
  | f + 1, i => by
    unfold findK
    simp only [(h _).1, (h _).2, findK_same h kids k v f (i + 2)]
theorem same_set (nodes : List Nd) (d : Nat) (kids : List Int) : ∀ i : Nat, ((nodes.set d ⟨(nodes.getD d default).kind, (nodes.getD d default).val, kids⟩).getD i default).kind = (nodes.getD i default).kind ∧ ((nodes.set d ⟨(nodes.getD d default).kind, (nodes.getD d default).val, kids⟩).getD i default).val = (nodes.getD i default).val := by
  intro i
  rw [List.getD_eq_getElem?_getD, List.getD_eq_getElem?_getD, List.getElem?_set]
  by_cases h : d = i
  · subst h
    by_cases h2 : d < nodes.length
    · simp [h2, List.getD_eq_getElem?_getD]
    · simp [h2]
  · simp [h]
theorem setKids_nodes (m : Mc) (d : Nat) (kids : List Int) : (setKids m d kids).nodes = m.nodes.set d ⟨(m.nodes.getD d default).kind, (m.nodes.getD d default).val, kids⟩ := rfl
theorem setKids_again (m : Mc) (d : Nat) (k1 k2 : List Int) (hd : d < m.nodes.length) : setKids (setKids m d k1) d k2 = setKids m d k2 := by
  unfold setKids nd
  simp [hd, List.getD_eq_getElem?_getD]
theorem setKids_nd (m : Mc) (d : Nat) (kids : List Int) (hd : d < m.nodes.length) : nd (setKids m d kids) d = ⟨(nd m d).kind, (nd m d).val, kids⟩ := by
  unfold setKids nd
  simp [hd, List.getD_eq_getElem?_getD]
theorem setKids_self (m : Mc) (d : Nat) (hd : d < m.nodes.length) : setKids m d (nd m d).kids = m := by
  unfold setKids nd
  obtain ⟨a, b, c, e⟩ := m
  simp only at hd
  simp only [Int.toNat_natCast, List.getD_eq_getElem?_getD, List.getElem?_eq_getElem hd, Option.getD_some, Mc.mk.injEq, and_self, and_true]
  exact List.set_getElem_self hd
theorem setKids_len (m : Mc) (d : Int) (kids : List Int) : (setKids m d kids).nodes.length = m.nodes.length := by simp [setKids]
theorem put1_same (nodes nodes' : List Nd) (h : ∀ i : Nat, (nodes.getD i default).kind = (nodes'.getD i default).kind ∧ (nodes.getD i default).val = (nodes'.getD i default).val) (kids : List Int) (a b : Int) : put1 nodes kids a b = put1 nodes' kids a b := by
  unfold put1 findKey
  simp only [(h _).1, (h _).2, findK_same h]
theorem put1_eq (nodes : List Nd) (kids : List Int) (a b : Int) : put1 nodes kids a b = (match findKey nodes kids (nodes.getD a.toNat default).kind (nodes.getD a.toNat default).val with | some i => kids.set (i + 1) b | none => kids ++ [a, b]) := rfl
theorem put1_len (nodes : List Nd) (kids : List Int) (a b : Int) : (put1 nodes kids a b).length ≤ kids.length + 2 ∧ (put1 nodes kids a b).length % 2 = kids.length % 2 := by
  rw [put1_eq]
  cases findKey nodes kids (nodes.getD a.toNat default).kind (nodes.getD a.toNat default).val <;> simp
theorem put1_mem (nodes : List Nd) (kids : List Int) (a b x : Int) (hx : x ∈ put1 nodes kids a b) : x ∈ kids ∨ x = a ∨ x = b := by
  rw [put1_eq] at hx
  cases h : findKey nodes kids (nodes.getD a.toNat default).kind (nodes.getD a.toNat default).val with
  | none => rw [h] at hx; simpa using hx
  | some i => rw [h] at hx; exact (List.mem_or_eq_of_mem_set hx).imp id .inr
theorem goodK_at (nodes : List Nd) (l : List Int) (i : Nat) (h : i + 1 < l.length) : goodK nodes (l.drop i) = (decide ((nodes.getD (l[i]'(by omega)).toNat default).kind ≤ 1) && goodK nodes (l.drop (i + 2))) := by
  rw [List.drop_eq_getElem_cons (by omega), List.drop_eq_getElem_cons (i := i + 1) h]; rfl
theorem putAll_at (nodes : List Nd) (kids l : List Int) (i : Nat) (h : i + 1 < l.length) : putAll nodes kids (l.drop i) = putAll nodes (put1 nodes kids (l[i]'(by omega)) l[i + 1]) (l.drop (i + 2)) := by
  rw [List.drop_eq_getElem_cons (by omega), List.drop_eq_getElem_cons (i := i + 1) h]; rfl
end Go.Proofs.Ytcodbpjaamggeaa.P
namespace Go.Proofs.Ytcodbpjaamggeaa.C
open Go.RowKit Go.Proofs.Ytcodbpjaamggeaa.W Go.Proofs.Ytcodbpjaamggeaa.P

theorem MR.hd {base w g l vN vS vM m} (h : MR base w g l vN vS vM m) (h0 : 0 < m.nodes.length) (hl : m.nodes.length ≤ 1000000000000) : ∃ gN cN, vN = .slice (some ⟨gN, 0, none⟩) m.nodes.length cN ∧ m.nodes.length ≤ cN ∧ RdN w (some ⟨gN, 0, none⟩) m.nodes := by
  obtain ⟨A, c, rfl, hc, hr⟩ := h.rdN hl
  rcases h.nr.1.2 with ⟨hv, _⟩ | ⟨g', cap, cur, hv, _⟩
  · injection hv with _ h1; omega
  · injection hv with h1
    subst h1
    exact ⟨g', c, rfl, hc, hr⟩
/-- The topmost node: where it lies. -/
theorem top_m0 {base w g l A c vN vM m} (h : MR base w g l vN (.slice A m.stack.length c) vM m) (hls : m.stack.length ≤ 1000000) (kind : Int) (ht : topN m.stack = 0) :
    Calls Try.prog 158 #[.pointer (some ⟨g, 0, none⟩), .int .i64 kind] w fun e w' => e = .returned (.tuple #[.pointer none, .bool false]) ∧ ∃ n, w' = w.drewN n := by
  obtain ⟨A0, c0, h1, h2, h3⟩ := h.rdS (by omega)
  injection h1 with h1 _ h4
  subst h1 h4
  exact top_c0 g vN vM m.done A c m.stack kind w h.mb h3 ht
theorem top_m1 {base w g l gN cN A c vM m} (h : MR base w g l (.slice (some ⟨gN, 0, none⟩) m.nodes.length cN) (.slice A m.stack.length c) vM m) (hln : m.nodes.length ≤ 1000000) (hls : m.stack.length ≤ 1000000) (kind : Int) (x : Nat) (ht : 0 < topN m.stack) (hx : st m.stack 0 = x) (hxl : x < m.nodes.length) :
    Calls Try.prog 158 #[.pointer (some ⟨g, 0, none⟩), .int .i64 kind] w fun e w' => e = .returned (.tuple #[.pointer (some ((⟨gN, 0, none⟩ : Addr).add (x * 3))), .bool (m.nodes[x].kind == kind)]) ∧ ∃ n, w' = w.drewN n := by
  obtain ⟨A0, c0, h1, h2, h3⟩ := h.rdS (by omega)
  injection h1 with h1 _ h4
  subst h1 h4
  obtain ⟨g', c', h5, h6, h7⟩ := h.hd (by omega) (by omega)
  injection h5 with h5 _ h8
  injection h5 with h5
  injection h5 with h5
  subst h5 h8
  exact top_c1 g vM m.done A c m.stack _ cN m.nodes x kind w h.mb h3 h7 ht hx hxl
theorem top_ok {B : Nat} {m : Mc} (h : okM B m) (ht : 0 < topN m.stack) : ∃ x : Nat, st m.stack 0 = x ∧ x < m.nodes.length := by
  obtain ⟨h1, h2⟩ := topN_ge m.stack 0 ht
  have h3 := h.si _ (List.getElem_mem (l := m.stack) (n := m.stack.length - 1 - 0) (by omega))
  obtain ⟨x, hx⟩ := Int.eq_ofNat_of_zero_le h2
  exact ⟨x, by rw [st_at _ _ h1, hx], by omega⟩
theorem MR.dN {base w g l vN vS vM m} (h : MR base w g l vN vS vM m) (n : Nat) : MR base (w.drewN n) g l vN vS vM m := h.ext ((Ext.rf w).dN n)
end Go.Proofs.Ytcodbpjaamggeaa.C
