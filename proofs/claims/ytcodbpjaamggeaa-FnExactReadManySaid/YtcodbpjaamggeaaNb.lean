/- The law's own functions on nodes: marks. -/
import Derived.Test.YtcodbpjaamggeaaNa
set_option linter.unusedVariables false
set_option linter.unusedSimpArgs false
namespace Go.Proofs.Ytcodbpjaamggeaa.C
open Go.RowKit Go.Proofs.Ytcodbpjaamggeaa.W Go.Proofs.Ytcodbpjaamggeaa.P

/-- Nodes that hold the marks from q on. -/
def marksNd (q : Int) : List Nd → List Nd
  | [] => []
  | n :: r => ⟨q, q + 1, marksI (q + 2) n.kids.length⟩ :: marksNd (q + 2 + n.kids.length) r
def endNd (q : Int) : List Nd → Int
  | [] => q
  | n :: r => endNd (q + 2 + n.kids.length) r
theorem marksNd_len : ∀ (l : List Nd) (q : Int), (marksNd q l).length = l.length
  | [], _ => rfl
  | n :: r, q => by simp [marksNd, marksNd_len r]
theorem endNd_snoc : ∀ (l : List Nd) (q : Int) (n : Nd), endNd q (l ++ [n]) = endNd q l + 2 + n.kids.length
  | [], _, _ => rfl
  | a :: r, q, n => by simp [endNd, endNd_snoc r]
theorem marksNd_snoc : ∀ (l : List Nd) (q : Int) (n : Nd), marksNd q (l ++ [n]) = marksNd q l ++ [⟨endNd q l, endNd q l + 1, marksI (endNd q l + 2) n.kids.length⟩]
  | [], _, _ => rfl
  | a :: r, q, n => by simp [marksNd, endNd, marksNd_snoc r]
theorem endNd_ge : ∀ (l : List Nd) (q : Int), q ≤ endNd q l
  | [], _ => Int.le_refl _
  | n :: r, q => by have := endNd_ge r (q + 2 + n.kids.length); simp only [endNd]; omega
theorem endNd_le (K : Nat) : ∀ (l : List Nd) (q : Int), (∀ n ∈ l, n.kids.length ≤ K) → endNd q l ≤ q + (l.length : Int) * (2 + K)
  | [], _, _ => by simp [endNd]
  | n :: r, q, h => by
    have h1 := endNd_le K r (q + 2 + n.kids.length) (fun x hx => h x (List.mem_cons_of_mem _ hx))
    have h2 := h n List.mem_cons_self
    simp only [endNd, List.length_cons]
    have e : ((r.length + 1 : Nat) : Int) * (2 + (K : Int)) = (r.length : Int) * (2 + K) + (2 + K) := by rw [Int.natCast_add, Int.add_mul]; simp
    rw [e]
    omega
/-- A node's kind and value are other ones. -/
theorem ncs_set2 (l : List (Nd × Value)) : ∀ (k : Nat) (h : k < l.length) (a b : Int) (ks : List Int), ncs (l.set k (⟨a, b, ks⟩, l[k].2)) = ((ncs l).set (k * 3) (.int .i64 a)).set (k * 3 + 1) (.int .i64 b) := by
  induction l with
  | nil => intro k h; simp at h
  | cons p l ih =>
    intro k h a b ks
    cases k with
    | zero => simp [ncs_cons]
    | succ k =>
      have hh := ih k (by simpa using h) a b ks
      rw [List.set_cons_succ, ncs_cons, ncs_cons, List.getElem_cons_succ, hh]
      have e0 : (k + 1) * 3 = k * 3 + 1 + 1 + 1 := by omega
      have e1 : (k + 1) * 3 + 1 = k * 3 + 1 + 1 + 1 + 1 := by omega
      rw [e1, e0]
      rfl
/-- Where the marks' walk stands: i nodes are marked. -/
def MarkQ (w : World) (vN : Value) (l : List (Nd × Value)) (q : Int) (i : Nat) (wr : World) : Prop :=
  ∃ l', NR wr vN l' ∧ l'.map Prod.snd = l.map Prod.snd ∧ l'.map Prod.fst = marksNd q ((l.map Prod.fst).take i) ++ (l.map Prod.fst).drop i ∧ Fr (fun k => vN.ownBlock = some k ∨ ∃ p ∈ l, p.2.ownBlock = some k) w wr
theorem markQ_step {w wr w2 : World} {gN n c : Nat} {l : List (Nd × Value)} {q : Int} {i : Nat} (hi : i < l.length) (hkk : l.Pairwise (fun p q => Apart p.2 q.2)) (z : Int) (hz : z = endNd q ((l.map Prod.fst).take i))
    {l' : List (Nd × Value)} (hN : NR wr (.slice (some ⟨gN, 0, none⟩) n c) l') (h1 : l'.map Prod.snd = l.map Prod.snd) (h2 : l'.map Prod.fst = marksNd q ((l.map Prod.fst).take i) ++ (l.map Prod.fst).drop i) (hF : Fr (fun k => (Value.slice (some ⟨gN, 0, none⟩) n c).ownBlock = some k ∨ ∃ p ∈ l, p.2.ownBlock = some k) w wr)
    (hI : IR w2 l[i].2 (marksI (z + 2) l[i].1.kids.length)) (hf : Fr (fun k => l[i].2.ownBlock = some k) ((wr.setCell ⟨gN, i * 3, none⟩ (.int .i64 z)).setCell ⟨gN, i * 3 + 1, none⟩ (.int .i64 (z + 1))) w2) (hb : l[i].1.kids.length ≤ 1000000000000) :
    MarkQ w (.slice (some ⟨gN, 0, none⟩) n c) l q (i + 1) w2 := by
  have hnl : n = l'.length := by
    rcases hN.1.2 with ⟨hv, _⟩ | ⟨g', cap, cur, hv, _⟩
    · exact nomatch hv
    · injection hv
  subst hnl
  have hll : l'.length = l.length := by have := congrArg List.length h1; simpa using this
  have hi' : i < l'.length := by omega
  have hs : ∀ (j : Nat) (hj : j < l.length) (hj' : j < l'.length), l'[j].2 = l[j].2 := fun j hj hj' => by
    have h3 : (l'.map Prod.snd)[j]'(by simpa using hj') = (l.map Prod.snd)[j]'(by simpa using hj) := by simp only [h1]
    simpa using h3
  have hob : (Value.slice (some ⟨gN, 0, none⟩) l'.length c).ownBlock = some gN := rfl
  have hl2 : l'[i].2 = l[i].2 := hs i hi hi'
  have hset : ∀ k, k ≠ gN → ((wr.setCell ⟨gN, i * 3, none⟩ (.int .i64 z)).setCell ⟨gN, i * 3 + 1, none⟩ (.int .i64 (z + 1))).heap[k]? = wr.heap[k]? := fun k hk => (Below.heap_setCell _ _ _ _ hk).trans (Below.heap_setCell _ _ _ _ hk)
  have hmem : l[i] ∈ l := List.getElem_mem hi
  have hkb := (hN.2 _ (List.getElem_mem hi')).1
  have hrow : World.ownsRow w2 0 96 3 (.slice (some ⟨gN, 0, none⟩) l'.length c) l'.length (ncs (l'.set i (⟨z, z + 1, marksI (z + 2) l[i].1.kids.length⟩, l[i].2))) := by
    have r := own_set (own_set hN.1 (i * 3) (.int .i64 z)) (i * 3 + 1) (.int .i64 (z + 1))
    have r2 := own_keep r (fun k hk => hf.block k (own_lt r hk) (fun e => own_ne_type hkb hN.1 (by decide) (by rw [hl2]; exact e) hk))
    have e := ncs_set2 l' i hi' z (z + 1) (marksI (z + 2) l[i].1.kids.length)
    rw [hl2] at e
    rw [e]
    exact r2
  refine ⟨l'.set i (⟨z, z + 1, marksI (z + 2) l[i].1.kids.length⟩, l[i].2), ⟨by rw [List.length_set]; exact hrow, fun p hp => ?_⟩, ?_, ?_, ?_⟩
  · obtain ⟨j, hj, rfl⟩ := List.mem_iff_getElem.1 hp
    rw [List.length_set] at hj
    rw [List.getElem_set]
    by_cases hij : i = j
    · subst hij
      rw [if_pos rfl]
      exact ⟨hI, by show (marksI _ _).length ≤ _; rw [marksI_len]; exact hb⟩
    · rw [if_neg hij]
      have hp2 := hN.2 _ (List.getElem_mem hj)
      refine ⟨hp2.1.keep (fun k hk => ?_), hp2.2⟩
      have hkl : k < ((wr.setCell ⟨gN, i * 3, none⟩ (.int .i64 z)).setCell ⟨gN, i * 3 + 1, none⟩ (.int .i64 (z + 1))).heap.size := by have := own_lt hp2.1 hk; simpa [World.setCell] using this
      rw [hf.block k hkl (fun e => ?_)]
      · exact hset k (fun e => own_ne_type hp2.1 hN.1 (by decide) hk (by rw [hob, e]))
      · rw [hs j (by omega) hj] at hk
        rcases Nat.lt_or_gt_of_ne hij with h | h
        · exact List.pairwise_iff_getElem.1 hkk i j hi (by omega) h k e hk
        · exact List.pairwise_iff_getElem.1 hkk j i (by omega) hi h k hk e
  · rw [List.map_set, h1]
    have : l[i].2 = (l.map Prod.snd)[i]'(by simpa using hi) := by simp
    show (l.map Prod.snd).set i l[i].2 = _
    rw [this, List.set_getElem_self]
  · rw [List.map_set, h2]
    have hi3 : i < (l.map Prod.fst).length := by simpa using hi
    have e0 : (l.map Prod.fst)[i] = l[i].1 := by simp
    rw [List.take_succ_eq_append_getElem hi3, marksNd_snoc, ← hz, e0, List.drop_eq_getElem_cons hi3, List.set_append_right _ _ (by rw [marksNd_len, List.length_take]; omega), marksNd_len, List.length_take, Nat.min_eq_left (Nat.le_of_lt hi3), Nat.sub_self, List.append_assoc]
    rfl
  · have g1 : Fr (fun k => (Value.slice (some ⟨gN, 0, none⟩) l'.length c).ownBlock = some k ∨ ∃ p ∈ l, p.2.ownBlock = some k) wr ((wr.setCell ⟨gN, i * 3, none⟩ (.int .i64 z)).setCell ⟨gN, i * 3 + 1, none⟩ (.int .i64 (z + 1))) := (Fr.set _ _ (.inl rfl)).trans (Fr.set _ _ (.inl rfl))
    exact (hF.trans g1).trans (hf.mono (fun k hk => .inr ⟨_, hmem, hk⟩))
theorem markQ_at {w wr : World} {vN : Value} {l : List (Nd × Value)} {q : Int} {i : Nat} (h : MarkQ w vN l q i wr) (hi : i < l.length) : ∃ l', ∃ hi' : i < l'.length, NR wr vN l' ∧ l'.map Prod.snd = l.map Prod.snd ∧ l'.map Prod.fst = marksNd q ((l.map Prod.fst).take i) ++ (l.map Prod.fst).drop i ∧ Fr (fun k => vN.ownBlock = some k ∨ ∃ p ∈ l, p.2.ownBlock = some k) w wr ∧ l'[i] = l[i] := by
  obtain ⟨l', a, b, c, d⟩ := h
  have hll : l'.length = l.length := by have := congrArg List.length b; simpa using this
  have hi' : i < l'.length := by omega
  refine ⟨l', hi', a, b, c, d, ?_⟩
  have h3 : (l'.map Prod.snd)[i]'(by simpa using hi') = (l.map Prod.snd)[i]'(by simpa using hi) := by simp only [b]
  have h4 : (l'.map Prod.fst)[i]'(by simpa using hi') = (l.map Prod.fst)[i]'(by simpa using hi) := by
    simp only [c]
    rw [List.getElem_append_right (by rw [marksNd_len, List.length_take]; omega)]
    simp only [marksNd_len, List.length_take, List.getElem_drop]
    congr 1
    simp; omega
  simp at h3 h4
  exact Prod.ext h4 h3
set_option maxRecDepth 100000 in
set_option maxHeartbeats 4000000 in
theorem markNodeS_m (A : Option Addr) (n c : Nat) (l : List (Nd × Value)) (q : Int) (w : World) (hN : NR w (.slice A n c) l) (hkk : l.Pairwise (fun p q => Apart p.2 q.2)) (hn : n = l.length) (hl : n ≤ 300) (hkl : ∀ p ∈ l, p.1.kids.length ≤ 100000) (h0 : 0 ≤ q) (h1 : q ≤ 1000000) :
    Calls Try.prog 111 #[.slice A n c, .int .i64 q] w fun e w' => e = .returned (.int .i64 (endNd q (l.map Prod.fst))) ∧ MarkQ w (.slice A n c) l q n w' := by
  have HN := As.mk hn
  have HKK := As.mk hkk
  have HKL := As.mk hkl
  have HQ0 := As.mk (show MarkQ w (.slice A n c) l q 0 w from ⟨l, hN, rfl, by simp [marksNd], Fr.rf _ _⟩)
  clear hn hkk hkl hN
  go_enter Try.func111, Try.ntmps111
  go_wp2_with fail
  go_loopw [1, 5] (fun a i wr => ∃ k : Nat, k ≤ n ∧ i = .int .i64 k ∧ a = .int .i64 (endNd q ((l.map Prod.fst).take k)) ∧ As (MarkQ w (.slice A n c) l q k wr)) (fun _ i _ => n - (intOf i).toNat)
  case atStart => exact ⟨0, Nat.zero_le _, rfl, rfl, HQ0⟩
  case round =>
    obtain ⟨k, hk, rfl, rfl, hst⟩ := hrel
    obtain ⟨z, hz⟩ : ∃ z, z = endNd q ((l.map Prod.fst).take k) := ⟨_, rfl⟩
    rw [← hz]
    have HZ := As.mk hz
    have hz0 : q ≤ z := by rw [hz]; exact endNd_ge _ _
    have hz1 : z ≤ 40000000 := by
      have := endNd_le 100000 ((l.map Prod.fst).take k) q (fun x hx => by obtain ⟨p, hp, rfl⟩ := List.mem_map.1 (List.mem_of_mem_take hx); exact HKL.out p hp)
      have hlk : ((l.map Prod.fst).take k).length ≤ 300 := by rw [List.length_take]; omega
      rw [hz]; omega
    clear hz
    by_cases hlt : k < n
    · have hkl : k < l.length := by have := HN.out; omega
      obtain ⟨l', hk', hNR, hs1, hs2, hFr, hel⟩ := markQ_at hst.out hkl
      obtain ⟨gN, rfl⟩ : ∃ gN, A = some ⟨gN, 0, none⟩ := by
        rcases hNR.1.2 with ⟨hv, h⟩ | ⟨g, cap, cur, hv, _⟩
        · injection hv with _ hv; omega
        · injection hv with hv; exact ⟨g, hv⟩
      obtain ⟨x0, x1, x2⟩ := ncs_at l' k hk'
      have c0 := World.ownsRow.cells hNR.1 (g := gN) rfl _ _ x0
      have c1 := World.ownsRow.cells hNR.1 (g := gN) rfl _ _ x1
      have c2 := World.ownsRow.cells hNR.1 (g := gN) rfl _ _ x2
      rw [(add_at gN (k * 3) 0).1] at c0
      rw [(add_at gN (k * 3 + 1) 0).1] at c1
      rw [(add_at gN (k * 3 + 2) 0).1] at c2
      obtain ⟨kr, kb⟩ := hNR.2 _ (List.getElem_mem hk')
      have hnl : n = l'.length := by
        rcases hNR.1.2 with ⟨hv, _⟩ | ⟨g', cap, cur, hv, _⟩
        · exact nomatch hv
        · injection hv
      have hN1 : wr.ownsRow 0 96 3 (.slice (some ⟨gN, 0, none⟩) n c) n (ncs l') := by have h9 := hNR.1; rw [← hnl] at h9; exact h9
      have hc2 := World.ownsRow.cells (own_set (own_set hN1 (k * 3) (.int .i64 z)) (k * 3 + 1) (.int .i64 (z + 1))) (g := gN) rfl (k * 3 + 2) l'[k].2 (by rw [List.getElem?_set_ne (by omega), List.getElem?_set_ne (by omega)]; exact x2)
      rw [(add_at gN (k * 3 + 2) 0).1, hel] at hc2
      clear hnl hN1
      rw [hel] at c0 c1 c2 kr kb
      obtain ⟨K, cK, hK, _, _⟩ := own_form kr
      rw [hK] at c2 hc2
      have f0 := own_fz hNR.1 (k * 3); have f1 := own_fz hNR.1 (k * 3 + 1)
      have hob : gN ≠ 0 ∨ True := .inr trivial
      have hkbk : l[k].1.kids.length ≤ 100000 := HKL.out _ (List.getElem_mem hkl)
      have hI4 : IR ((wr.setCell ⟨gN, k * 3, none⟩ (.int .i64 z)).setCell ⟨gN, k * 3 + 1, none⟩ (.int .i64 (z + 1))) (.slice K l[k].1.kids.length cK) l[k].1.kids := by
        rw [hK] at kr
        exact kr.keep (fun j hj => (Below.heap_setCell _ _ _ _ (fun e => own_ne_type kr hNR.1 (by decide) hj (by show some gN = some j; rw [e]))).trans (Below.heap_setCell _ _ _ _ (fun e => own_ne_type kr hNR.1 (by decide) hj (by show some gN = some j; rw [e]))))
      have HI4 := As.mk hI4
      have HKF := As.mk hK
      have HM := As.mk (And.intro hNR (And.intro hs1 (And.intro hs2 hFr)))
      obtain ⟨kn, hkn⟩ : ∃ kn, kn = l[k].1.kids.length := ⟨_, rfl⟩
      rw [← hkn] at hI4 HI4 HKF c2 hkbk hc2
      have HKN := As.mk hkn
      have q1 : (k : Int) < n := by omega
      obtain ⟨kd, hkd⟩ : ∃ kd, kd = l[k].1.kind := ⟨_, rfl⟩
      obtain ⟨kv, hkv⟩ : ∃ kv, kv = l[k].1.val := ⟨_, rfl⟩
      rw [← hkd] at c0
      rw [← hkv] at c1
      have HKL2 := As.mk hkl
      clear hI4 hK x0 x1 x2 hNR hs1 hs2 hFr kr hel hst HQ0 hob hkn hkd hkv kb
      go_upto_region 8 with fail
      obtain ⟨w2, hw2⟩ : ∃ w2, w2 = (wr.setCell ⟨gN, k * 3, none⟩ (.int .i64 z)).setCell ⟨gN, k * 3 + 1, none⟩ (.int .i64 (z + 1)) := ⟨_, rfl⟩
      have HW2 := As.mk hw2
      rw [← hw2] at hc2 HI4 ⊢
      clear hw2 c0 c1 c2 f0 f1
      go_wp2_with (go_at_call 33; refine (markIntS_c K kn cK l[k].1.kids (z + 1 + 1) _ HI4.out HKN.out (by omega) (by omega) (by omega)).mono ?_; rintro e w3 ⟨rfl, ho, hf⟩; have HO := As.mk ho; have HF := As.mk hf; clear ho hf)
      have hnext : MarkQ w (.slice (some ⟨gN, 0, none⟩) n c) l q (k + 1) w3 := by
        obtain ⟨a1, a2, a3, a4⟩ := HM.out
        refine markQ_step hkl HKK.out z HZ.out a1 a2 a3 a4 ?_ ?_ (by have := HKL.out _ (List.getElem_mem hkl); omega)
        · rw [HKF.out, ← HKN.out, show z + 2 = z + 1 + 1 by omega]; exact HO.out
        · rw [HKF.out, ← HW2.out]; exact HF.out
      have HNX := As.mk hnext
      have HEN := As.mk (show endNd q ((l.map Prod.fst).take (k + 1)) = z + 2 + kn by
        rw [List.take_succ_eq_append_getElem (by simpa using hkl), endNd_snoc, ← HZ.out, HKN.out]; simp)
      clear hnext HM HO HF HI4 hc2
      go_wp2_with fail
      go_roundw
      case measure => simp only [intOf]; omega
      case rel => exact ⟨k + 1, by omega, by go_num, by rw [HEN.out]; congr 1; omega, HNX⟩
    · have hkn : k = n := by omega
      have hfin : z = endNd q (l.map Prod.fst) := by rw [HZ.out, hkn, HN.out, List.take_of_length_le (by simp)]
      have HF := As.mk hfin
      have HST : As (MarkQ w (.slice A n c) l q n wr) := ⟨by have h9 := hst.out; rw [hkn] at h9; exact h9⟩
      have q1 : ¬ (k : Int) < n := by omega
      clear hkn hfin hst
      go_wp2_with fail
      go_ret
      exact ⟨ret_int HF.out, HST.out⟩
end Go.Proofs.Ytcodbpjaamggeaa.C
