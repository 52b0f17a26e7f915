/- Kids that are put at the end of a node's. -/
import Derived.Test.YtcodbpjaamggeaaCe
set_option linter.unusedVariables false
set_option linter.unusedSimpArgs false
namespace Go.Proofs.Ytcodbpjaamggeaa.C
open Go.RowKit Go.Proofs.Ytcodbpjaamggeaa.W Go.Proofs.Ytcodbpjaamggeaa.P

/-- The machine stands while a row of kids has grown: its old header reads what it read. -/
theorem MR.app {base w w' g l vN vS vM m} (h : MR base w g l vN vS vM m) (p : Nd × Value) (hp : p ∈ l) (hf : Fr (fun k => p.2.ownBlock = some k) w w') (ho : IR w' p.2 p.1.kids) : MR base w' g l vN vS vM m := by
  have hp1 := (h.nr.2 p hp).1
  refine ⟨hf.blk h.mb (fun e => own_ne_blk hp1 h.mb (by decide) e), ⟨own_keep h.nr.1 (fun k hk => hf.block k (own_lt h.nr.1 hk) (fun e => own_ne_type h.nr.1 hp1 (by decide) hk e)), fun q hq => ?_⟩, h.ns, h.sr.fr hf (fun k hk e => h.ks p hp k e hk), h.me.fr hf (fun k hk e => h.km p hp k e hk), h.lo, h.kk, h.ks, h.km, h.sm, fun k hk => h.up k (Nat.le_trans hf.size hk)⟩
  by_cases hqp : q = p
  · subst hqp; exact ⟨ho, (h.nr.2 q hq).2⟩
  · refine ⟨(h.nr.2 q hq).1.fr hf (fun k hk e => ?_), (h.nr.2 q hq).2⟩
    obtain ⟨i, hi, rfl⟩ := List.mem_iff_getElem.1 hp
    obtain ⟨j, hj, rfl⟩ := List.mem_iff_getElem.1 hq
    rcases Nat.lt_trichotomy i j with hij | hij | hij
    · exact List.pairwise_iff_getElem.1 h.kk i j hi hj hij k e hk
    · subst hij; exact hqp rfl
    · exact List.pairwise_iff_getElem.1 h.kk j i hj hi hij k hk e

/-- Another row of kids. -/
theorem MR.kids {base w g l gN n c vS vM m} (h : MR base w g l (.slice (some ⟨gN, 0, none⟩) n c) vS vM m) (i : Nat) (hi : i < l.length) (vK : Value) (kids : List Int) (hI : IR w vK kids) (hk : kids.length ≤ 1000000000000) (hlo : ∀ k, vK.ownBlock = some k → base k)
    (hS : Apart vK vS) (hM : Apart vK vM) (hO : ∀ j (hj : j < l.length), j ≠ i → Apart l[j].2 vK) :
    MR base (w.setCell ⟨gN, i * 3 + 2, none⟩ vK) g (l.set i (⟨l[i].1.kind, l[i].1.val, kids⟩, vK)) (.slice (some ⟨gN, 0, none⟩) n c) vS vM (setKids m i kids) := by
  have hn : n = l.length := by
    rcases h.nr.1.2 with ⟨hv, _⟩ | ⟨g', cap, cur, hv, _⟩
    · exact nomatch hv
    · injection hv
  subst hn
  have hne : ∀ (v : Value) (l : List Int), IR w v l → IR (w.setCell ⟨gN, i * 3 + 2, none⟩ vK) v l := fun v l hv => hv.keep (fun k hk => Below.heap_setCell _ _ _ _ (fun e => own_ne_type hv h.nr.1 (by decide) hk (by show some gN = some k; rw [e])))
  have hgg : g ≠ gN := fun e => own_ne_blk h.nr.1 h.mb (by decide) (by show some gN = some g; rw [e])
  have hnd : nd m i = l[i].1 := by
    unfold nd
    rw [Int.toNat_natCast, ← h.ns, List.getD_eq_getElem?_getD, List.getElem?_map, List.getElem?_eq_getElem hi]; rfl
  refine ⟨(Below.heap_setCell _ _ _ _ hgg).trans h.mb, ⟨?_, fun p hp => ?_⟩, ?_, hne _ _ h.sr, hne _ _ h.me, fun k hk => ?_, ?_, fun p hp => ?_, fun p hp => ?_, h.sm, fun k hk => h.up k (by simpa [World.setCell] using hk)⟩
  · have := own_set h.nr.1 (i * 3 + 2) vK
    rw [← ncs_set l i hi ⟨l[i].1.kind, l[i].1.val, kids⟩ vK rfl rfl] at this
    simpa using this
  · rcases List.mem_or_eq_of_mem_set hp with hp | rfl
    · exact ⟨hne _ _ (h.nr.2 p hp).1, (h.nr.2 p hp).2⟩
    · exact ⟨hne _ _ hI, hk⟩
  · show (l.set i _).map Prod.fst = m.nodes.set (Int.toNat i) ⟨(nd m i).kind, (nd m i).val, kids⟩
    rw [List.map_set, h.ns, hnd, Int.toNat_natCast]
  · rcases hk with e | e | e | e | ⟨p, hp, e⟩
    · exact h.lo k (.inl e)
    · exact h.lo k (.inr (.inl e))
    · exact h.lo k (.inr (.inr (.inl e)))
    · exact h.lo k (.inr (.inr (.inr (.inl e))))
    · rcases List.mem_or_eq_of_mem_set hp with hp | rfl
      · exact h.lo k (.inr (.inr (.inr (.inr ⟨p, hp, e⟩))))
      · exact hlo k e
  · rw [List.pairwise_iff_getElem]
    intro a b ha hb hab
    simp only [List.length_set] at ha hb
    rw [List.getElem_set, List.getElem_set]
    split
    · rename_i e1
      split
      · omega
      · rename_i e2; exact (hO b hb (fun e => e2 e.symm)).symm
    · rename_i e1
      split
      · exact hO a ha (fun e => e1 e.symm)
      · exact List.pairwise_iff_getElem.1 h.kk a b ha hb hab
  · rcases List.mem_or_eq_of_mem_set hp with hp | rfl
    · exact h.ks p hp
    · exact hS
  · rcases List.mem_or_eq_of_mem_set hp with hp | rfl
    · exact h.km p hp
    · exact hM
end Go.Proofs.Ytcodbpjaamggeaa.C
