/- Rows of kids that change. -/
import Derived.Test.YtcodbpjaamggeaaCg
set_option linter.unusedVariables false
set_option linter.unusedSimpArgs false
namespace Go.Proofs.Ytcodbpjaamggeaa.C
open Go.RowKit Go.Proofs.Ytcodbpjaamggeaa.W Go.Proofs.Ytcodbpjaamggeaa.P

theorem MR.lo_of {base w g l vN vS vM m} (h : MR base w g l vN vS vM m) {a b : Value} (ho : FreshOr a b w) (ha : ∀ k, a.ownBlock = some k → base k) : ∀ k, b.ownBlock = some k → base k := fun k hk => by
  rcases ho with ho | ⟨b, ho, hb'⟩
  · exact ha k (by rw [← ho]; exact hk)
  · rw [ho] at hk; injection hk with hk; subst hk; exact h.up _ hb'
theorem MR.kk_of {base w g l vN vS vM m} (h : MR base w g l vN vS vM m) (i : Nat) (hi : i < l.length) : ∀ j (hj : j < l.length), j ≠ i → Apart l[j].2 l[i].2 := fun j hj hji => by
  rcases Nat.lt_or_gt_of_ne hji with hlt | hlt
  · exact List.pairwise_iff_getElem.1 h.kk j i hj hi hlt
  · exact (List.pairwise_iff_getElem.1 h.kk i j hi hj hlt).symm
/-- append, and the new header is stored. -/
theorem MR.grow {base w w1 g l gN n c vS vM m} (h : MR base w g l (.slice (some ⟨gN, 0, none⟩) n c) vS vM m) (i : Nat) (hi : i < l.length) (r : List Int) (A' : Option Addr) (c' : Nat) (ha : AppS l[i].2 l[i].1.kids (l[i].1.kids ++ r) w A' c' w1) (hk : (l[i].1.kids ++ r).length ≤ 1000000000000) :
    MR base (w1.setCell ⟨gN, i * 3 + 2, none⟩ (.slice A' (l[i].1.kids ++ r).length c')) g (l.set i (⟨l[i].1.kind, l[i].1.val, l[i].1.kids ++ r⟩, .slice A' (l[i].1.kids ++ r).length c')) (.slice (some ⟨gN, 0, none⟩) n c) vS vM (setKids m i (l[i].1.kids ++ r)) ∧
      Fr (Foot g l (.slice (some ⟨gN, 0, none⟩) n c) vS vM) w (w1.setCell ⟨gN, i * 3 + 2, none⟩ (.slice A' (l[i].1.kids ++ r).length c')) := by
  obtain ⟨h1, h2, h3, h4⟩ := ha
  have hm := List.getElem_mem hi
  have hlt : ∀ k, l[i].2.ownBlock = some k → k < w.heap.size := fun k hk => own_lt (h.nr.2 _ hm).1 hk
  refine ⟨(h.app l[i] hm h2 h4).kids i hi _ _ h1 hk (h.lo_of h3 (fun k hk => h.lo k (.inr (.inr (.inr (.inr ⟨_, hm, hk⟩)))))) ((h.ks _ hm).symm.of h3 (fun k hk => own_lt h.sr hk)).symm ((h.km _ hm).symm.of h3 (fun k hk => own_lt h.me hk)).symm (fun j hj hji => (h.kk_of i hi j hj hji).of h3 (fun k hk => own_lt (h.nr.2 _ (List.getElem_mem hj)).1 hk)), ?_⟩
  exact (h2.mono (fun k hk => .inr (.inr (.inr (.inr ⟨_, hm, hk⟩))))).trans (Fr.set _ _ (.inr (.inl rfl)))

/-- One kid is another one. -/
theorem MR.item {base w g l gN n c vS vM m} (h : MR base w g l (.slice (some ⟨gN, 0, none⟩) n c) vS vM m) (i : Nat) (hi : i < l.length) (b nk ck : Nat) (hb : l[i].2 = .slice (some ⟨b, 0, none⟩) nk ck) (j : Nat) (v : Int) :
    MR base (w.setCell ⟨b, j, none⟩ (.int .i64 v)) g (l.set i (⟨l[i].1.kind, l[i].1.val, l[i].1.kids.set j v⟩, l[i].2)) (.slice (some ⟨gN, 0, none⟩) n c) vS vM (setKids m i (l[i].1.kids.set j v)) ∧ Fr (Foot g l (.slice (some ⟨gN, 0, none⟩) n c) vS vM) w (w.setCell ⟨b, j, none⟩ (.int .i64 v)) := by
  have hm := List.getElem_mem hi
  have hob : l[i].2.ownBlock = some b := by rw [hb]; rfl
  have hI := (h.nr.2 _ hm).1
  have hkeep : ∀ k, k ≠ b → (w.setCell ⟨b, j, none⟩ (.int .i64 v)).heap[k]? = w.heap[k]? := fun k hk => Below.heap_setCell _ _ _ _ hk
  have hgb : g ≠ b := fun e => own_ne_blk hI h.mb (by decide) (by rw [hob, e])
  have hnb : gN ≠ b := fun e => own_ne_type hI h.nr.1 (by decide) hob (by show some gN = some b; rw [e])
  have hnd : nd m i = l[i].1 := by
    unfold nd
    rw [Int.toNat_natCast, ← h.ns, List.getD_eq_getElem?_getD, List.getElem?_map, List.getElem?_eq_getElem hi]; rfl
  have hI' : IR (w.setCell ⟨b, j, none⟩ (.int .i64 v)) l[i].2 (l[i].1.kids.set j v) := by
    have hnk : nk = l[i].1.kids.length := by
      have h2 : w.ownsRow 0 3 1 l[i].2 l[i].1.kids.length (nums l[i].1.kids) := hI
      rw [hb] at h2
      rcases h2.2 with ⟨hv, _⟩ | ⟨g', cap, cur, hv, _⟩
      · exact nomatch hv
      · injection hv
    have h3 : w.ownsRow 0 3 1 l[i].2 l[i].1.kids.length (nums l[i].1.kids) := hI
    show World.ownsRow _ 0 3 1 l[i].2 _ _
    rw [hb] at h3 ⊢
    subst hnk
    have := own_set h3 j (.int .i64 v)
    rw [show (nums l[i].1.kids).set j (.int .i64 v) = nums (l[i].1.kids.set j v) by simp [nums, List.map_set]] at this
    simpa using this
  have hoth : ∀ q ∈ l.set i (⟨l[i].1.kind, l[i].1.val, l[i].1.kids.set j v⟩, l[i].2), IR (w.setCell ⟨b, j, none⟩ (.int .i64 v)) q.2 q.1.kids ∧ q.1.kids.length ≤ 1000000000000 := by
    intro q hq
    obtain ⟨a, ha, rfl⟩ := List.mem_iff_getElem.1 hq
    simp only [List.length_set] at ha
    rw [List.getElem_set]
    split
    · exact ⟨hI', by simpa using (h.nr.2 _ hm).2⟩
    · rename_i hne
      exact ⟨(h.nr.2 _ (List.getElem_mem ha)).1.keep (fun k hk => hkeep k (fun e => h.kk_of i hi a ha (fun e => hne e.symm) k hk (by rw [hob, e]))), (h.nr.2 _ (List.getElem_mem ha)).2⟩
  have hsnd : (l.set i (⟨l[i].1.kind, l[i].1.val, l[i].1.kids.set j v⟩, l[i].2)).map Prod.snd = l.map Prod.snd := by
    rw [List.map_set]
    exact (List.ext_getElem (by simp) (fun k h1 h2 => by rw [List.getElem_set]; split <;> simp_all))
  have hmem : ∀ q ∈ l.set i (⟨l[i].1.kind, l[i].1.val, l[i].1.kids.set j v⟩, l[i].2), ∃ p ∈ l, p.2 = q.2 := by
    intro q hq
    have : q.2 ∈ (l.set i (⟨l[i].1.kind, l[i].1.val, l[i].1.kids.set j v⟩, l[i].2)).map Prod.snd := List.mem_map.2 ⟨q, hq, rfl⟩
    rw [hsnd] at this
    exact List.mem_map.1 this
  refine ⟨⟨(hkeep g hgb).trans h.mb, ⟨?_, hoth⟩, ?_, h.sr.keep (fun k hk => hkeep k (fun e => h.ks _ hm b hob (by rw [hk, e]))), h.me.keep (fun k hk => hkeep k (fun e => h.km _ hm b hob (by rw [hk, e]))), fun k hk => ?_, ?_, fun p hp => ?_, fun p hp => ?_, h.sm, fun k hk => h.up k (by simpa [World.setCell] using hk)⟩, Fr.set _ _ (.inr (.inr (.inr (.inr ⟨_, hm, hob⟩))))⟩
  · have h5 : ncs (l.set i (⟨l[i].1.kind, l[i].1.val, l[i].1.kids.set j v⟩, l[i].2)) = ncs l := by
      rw [ncs_set l i hi ⟨l[i].1.kind, l[i].1.val, l[i].1.kids.set j v⟩ l[i].2 rfl rfl]
      obtain ⟨_, _, h6⟩ := ncs_at l i hi
      obtain ⟨h7, h8⟩ := List.getElem?_eq_some_iff.1 h6
      rw [← h8]
      exact List.set_getElem_self h7
    rw [h5, List.length_set]
    exact own_keep h.nr.1 (fun k hk => hkeep k (fun e => hnb (by injection hk with hk; exact hk.trans e)))
  · show (l.set i _).map Prod.fst = m.nodes.set (Int.toNat i) _
    rw [List.map_set, h.ns, hnd, Int.toNat_natCast]
  · rcases hk with e | e | e | e | ⟨p, hp, e⟩
    · exact h.lo k (.inl e)
    · exact h.lo k (.inr (.inl e))
    · exact h.lo k (.inr (.inr (.inl e)))
    · exact h.lo k (.inr (.inr (.inr (.inl e))))
    · obtain ⟨q, hq, he⟩ := hmem p hp
      exact h.lo k (.inr (.inr (.inr (.inr ⟨q, hq, by rw [he]; exact e⟩))))
  · rw [← List.pairwise_map (f := Prod.snd) (R := fun a b => Apart a b), hsnd, List.pairwise_map]
    exact h.kk
  · obtain ⟨q, hq, he⟩ := hmem p hp; rw [← he]; exact h.ks q hq
  · obtain ⟨q, hq, he⟩ := hmem p hp; rw [← he]; exact h.km q hq
end Go.Proofs.Ytcodbpjaamggeaa.C
