/- Rows of kids that change. Keys and values are set. -/
import Derived.Test.YtcodbpjaamggeaaCf
set_option linter.unusedVariables false
set_option linter.unusedSimpArgs false
namespace Go.Proofs.Ytcodbpjaamggeaa.C
open Go.RowKit Go.Proofs.Ytcodbpjaamggeaa.W Go.Proofs.Ytcodbpjaamggeaa.P

theorem MR.lo_of {base w g l vN vS vM m} (h : MR base w g l vN vS vM m) {a b : Value} (ho : FreshOr a b w) (ha : ∀ k, a.ownBlock = some k → base k) : ∀ k, b.ownBlock = some k → base k := fun k hk => by
  rcases ho with ho | ⟨b, ho, hb'⟩
  · exact ha k (by rw [← ho]; exact hk)
  · rw [ho] at hk; injection hk with hk; subst hk; exact h.up _ hb'
theorem MR.kk_of {base w g l vN vS vM m} (h : MR base w g l vN vS vM m) (i : Nat) (hi : i < l.length) : ∀ j (hj : j < l.length), j ≠ i → Apart l[j].2 l[i].2 := fun j hj hji => by
  rcases Nat.lt_or_gt_of_ne hji with hlt | hlt
  · exact List.pairwise_iff_getElem.1 h.kk j i hj hi hlt
  · exact (List.pairwise_iff_getElem.1 h.kk i j hi hj hlt).symm
/-- append, and the new header is stored. -/
theorem MR.grow {base w w1 g l gN n c vS vM m} (h : MR base w g l (.slice (some ⟨gN, 0, none⟩) n c) vS vM m) (i : Nat) (hi : i < l.length) (r : List Int) (A' : Option Addr) (c' : Nat) (ha : AppS l[i].2 l[i].1.kids (l[i].1.kids ++ r) w A' c' w1) (hk : (l[i].1.kids ++ r).length ≤ 1000000000000) :
    MR base (w1.setCell ⟨gN, i * 3 + 2, none⟩ (.slice A' (l[i].1.kids ++ r).length c')) g (l.set i (⟨l[i].1.kind, l[i].1.val, l[i].1.kids ++ r⟩, .slice A' (l[i].1.kids ++ r).length c')) (.slice (some ⟨gN, 0, none⟩) n c) vS vM (setKids m i (l[i].1.kids ++ r)) ∧
      Fr (Foot g l (.slice (some ⟨gN, 0, none⟩) n c) vS vM) w (w1.setCell ⟨gN, i * 3 + 2, none⟩ (.slice A' (l[i].1.kids ++ r).length c')) := by
  obtain ⟨h1, h2, h3, h4⟩ := ha
  have hm := List.getElem_mem hi
  have hlt : ∀ k, l[i].2.ownBlock = some k → k < w.heap.size := fun k hk => own_lt (h.nr.2 _ hm).1 hk
  refine ⟨(h.app l[i] hm h2 h4).kids i hi _ _ h1 hk (h.lo_of h3 (fun k hk => h.lo k (.inr (.inr (.inr (.inr ⟨_, hm, hk⟩)))))) ((h.ks _ hm).symm.of h3 (fun k hk => own_lt h.sr hk)).symm ((h.km _ hm).symm.of h3 (fun k hk => own_lt h.me hk)).symm (fun j hj hji => (h.kk_of i hi j hj hji).of h3 (fun k hk => own_lt (h.nr.2 _ (List.getElem_mem hj)).1 hk)), ?_⟩
  exact (h2.mono (fun k hk => .inr (.inr (.inr (.inr ⟨_, hm, hk⟩))))).trans (Fr.set _ _ (.inr (.inl rfl)))

/-- One kid is another one. -/
theorem MR.item {base w g l gN n c vS vM m} (h : MR base w g l (.slice (some ⟨gN, 0, none⟩) n c) vS vM m) (i : Nat) (hi : i < l.length) (b nk ck : Nat) (hb : l[i].2 = .slice (some ⟨b, 0, none⟩) nk ck) (j : Nat) (v : Int) :
    MR base (w.setCell ⟨b, j, none⟩ (.int .i64 v)) g (l.set i (⟨l[i].1.kind, l[i].1.val, l[i].1.kids.set j v⟩, l[i].2)) (.slice (some ⟨gN, 0, none⟩) n c) vS vM (setKids m i (l[i].1.kids.set j v)) ∧ Fr (Foot g l (.slice (some ⟨gN, 0, none⟩) n c) vS vM) w (w.setCell ⟨b, j, none⟩ (.int .i64 v)) := by
  have hm := List.getElem_mem hi
  have hob : l[i].2.ownBlock = some b := by rw [hb]; rfl
  have hI := (h.nr.2 _ hm).1
  have hkeep : ∀ k, k ≠ b → (w.setCell ⟨b, j, none⟩ (.int .i64 v)).heap[k]? = w.heap[k]? := fun k hk => Below.heap_setCell _ _ _ _ hk
  have hgb : g ≠ b := fun e => own_ne_blk hI h.mb (by decide) (by rw [hob, e])
  have hnb : gN ≠ b := fun e => own_ne_type hI h.nr.1 (by decide) hob (by show some gN = some b; rw [e])
  have hnd : nd m i = l[i].1 := by
    unfold nd
    rw [Int.toNat_natCast, ← h.ns, List.getD_eq_getElem?_getD, List.getElem?_map, List.getElem?_eq_getElem hi]; rfl
  have hI' : IR (w.setCell ⟨b, j, none⟩ (.int .i64 v)) l[i].2 (l[i].1.kids.set j v) := by
    have hnk : nk = l[i].1.kids.length := by
      have h2 : w.ownsRow 0 3 1 l[i].2 l[i].1.kids.length (nums l[i].1.kids) := hI
      rw [hb] at h2
      rcases h2.2 with ⟨hv, _⟩ | ⟨g', cap, cur, hv, _⟩
      · exact nomatch hv
      · injection hv
    have h3 : w.ownsRow 0 3 1 l[i].2 l[i].1.kids.length (nums l[i].1.kids) := hI
    show World.ownsRow _ 0 3 1 l[i].2 _ _
    rw [hb] at h3 ⊢
    subst hnk
    have := own_set h3 j (.int .i64 v)
    rw [show (nums l[i].1.kids).set j (.int .i64 v) = nums (l[i].1.kids.set j v) by simp [nums, List.map_set]] at this
    simpa using this
  have hoth : ∀ q ∈ l.set i (⟨l[i].1.kind, l[i].1.val, l[i].1.kids.set j v⟩, l[i].2), IR (w.setCell ⟨b, j, none⟩ (.int .i64 v)) q.2 q.1.kids ∧ q.1.kids.length ≤ 1000000000000 := by
    intro q hq
    obtain ⟨a, ha, rfl⟩ := List.mem_iff_getElem.1 hq
    simp only [List.length_set] at ha
    rw [List.getElem_set]
    split
    · exact ⟨hI', by simpa using (h.nr.2 _ hm).2⟩
    · rename_i hne
      exact ⟨(h.nr.2 _ (List.getElem_mem ha)).1.keep (fun k hk => hkeep k (fun e => h.kk_of i hi a ha (fun e => hne e.symm) k hk (by rw [hob, e]))), (h.nr.2 _ (List.getElem_mem ha)).2⟩
  have hsnd : (l.set i (⟨l[i].1.kind, l[i].1.val, l[i].1.kids.set j v⟩, l[i].2)).map Prod.snd = l.map Prod.snd := by
    rw [List.map_set]
    exact (List.ext_getElem (by simp) (fun k h1 h2 => by rw [List.getElem_set]; split <;> simp_all))
  have hmem : ∀ q ∈ l.set i (⟨l[i].1.kind, l[i].1.val, l[i].1.kids.set j v⟩, l[i].2), ∃ p ∈ l, p.2 = q.2 := by
    intro q hq
    have : q.2 ∈ (l.set i (⟨l[i].1.kind, l[i].1.val, l[i].1.kids.set j v⟩, l[i].2)).map Prod.snd := List.mem_map.2 ⟨q, hq, rfl⟩
    rw [hsnd] at this
    exact List.mem_map.1 this
  refine ⟨⟨(hkeep g hgb).trans h.mb, ⟨?_, hoth⟩, ?_, h.sr.keep (fun k hk => hkeep k (fun e => h.ks _ hm b hob (by rw [hk, e]))), h.me.keep (fun k hk => hkeep k (fun e => h.km _ hm b hob (by rw [hk, e]))), fun k hk => ?_, ?_, fun p hp => ?_, fun p hp => ?_, h.sm, fun k hk => h.up k (by simpa [World.setCell] using hk)⟩, Fr.set _ _ (.inr (.inr (.inr (.inr ⟨_, hm, hob⟩))))⟩
  · have h5 : ncs (l.set i (⟨l[i].1.kind, l[i].1.val, l[i].1.kids.set j v⟩, l[i].2)) = ncs l := by
      rw [ncs_set l i hi ⟨l[i].1.kind, l[i].1.val, l[i].1.kids.set j v⟩ l[i].2 rfl rfl]
      obtain ⟨_, _, h6⟩ := ncs_at l i hi
      obtain ⟨h7, h8⟩ := List.getElem?_eq_some_iff.1 h6
      rw [← h8]
      exact List.set_getElem_self h7
    rw [h5, List.length_set]
    exact own_keep h.nr.1 (fun k hk => hkeep k (fun e => hnb (by injection hk with hk; exact hk.trans e)))
  · show (l.set i _).map Prod.fst = m.nodes.set (Int.toNat i) _
    rw [List.map_set, h.ns, hnd, Int.toNat_natCast]
  · rcases hk with e | e | e | e | ⟨p, hp, e⟩
    · exact h.lo k (.inl e)
    · exact h.lo k (.inr (.inl e))
    · exact h.lo k (.inr (.inr (.inl e)))
    · exact h.lo k (.inr (.inr (.inr (.inl e))))
    · obtain ⟨q, hq, he⟩ := hmem p hp
      exact h.lo k (.inr (.inr (.inr (.inr ⟨q, hq, by rw [he]; exact e⟩))))
  · rw [← List.pairwise_map (f := Prod.snd) (R := fun a b => Apart a b), hsnd, List.pairwise_map]
    exact h.kk
  · obtain ⟨q, hq, he⟩ := hmem p hp; rw [← he]; exact h.ks q hq
  · obtain ⟨q, hq, he⟩ := hmem p hp; rw [← he]; exact h.km q hq
end Go.Proofs.Ytcodbpjaamggeaa.C
namespace Go.Proofs.Ytcodbpjaamggeaa.C
open Go.RowKit Go.Proofs.Ytcodbpjaamggeaa.W Go.Proofs.Ytcodbpjaamggeaa.P

/-- The state of the second loop, with k of the pairs set. -/
def SetAt (base : Nat → Prop) (g : Nat) (l : List (Nd × Value)) (vN vS vM : Value) (m : Mc) (x : Nat) (pairs : List Int) (A' : Option Addr) (w : World) (k : Nat) (wr : World) : Prop :=
  ∃ l' kids, putAll m.nodes (nd m x).kids pairs = putAll m.nodes kids (pairs.drop k) ∧ MR base wr g l' vN vS vM (setKids m x kids) ∧ kids.length ≤ 3000000 + k ∧ kids.length % 2 = 0 ∧ (∀ y ∈ kids, 0 ≤ y ∧ y < m.nodes.length) ∧
    Fr (Foot g l vN vS vM) w wr ∧ RdI wr A' pairs ∧ (∀ k, Foot g l' vN vS vM k → Foot g l vN vS vM k ∨ w.heap.size ≤ k)

theorem RdN.cells {w : World} {gN : Nat} {l : List Nd} (h : RdN w (some ⟨gN, 0, none⟩) l) (k : Nat) (hk : k < l.length) : ∃ K c, w.cell? ⟨gN, k * 3, none⟩ = some (.int .i64 l[k].kind) ∧ w.cell? ⟨gN, k * 3 + 1, none⟩ = some (.int .i64 l[k].val) ∧ w.cell? ⟨gN, k * 3 + 2, none⟩ = some (.slice K l[k].kids.length c) ∧ l[k].kids.length ≤ c ∧ RdI w K l[k].kids := by
  obtain ⟨ad, K, c, ha, h0, h1, h2, h3, h4⟩ := h.2 k hk
  cases ha
  rw [(add_at gN (k * 3) 0).1] at h0
  rw [(add_at gN (k * 3) 1).2] at h1
  rw [(add_at gN (k * 3) 2).2] at h2
  exact ⟨K, c, h0, h1, h2, h3, h4⟩
theorem foot_set {g : Nat} {l : List (Nd × Value)} {vN vS vM : Value} {i : Nat} {n : Nd} {v : Value} {k : Nat} (h : Foot g (l.set i (n, v)) vN vS vM k) : Foot g l vN vS vM k ∨ v.ownBlock = some k := by
  rcases h with e | e | e | e | ⟨p, hp, e⟩
  · exact .inl (.inl e)
  · exact .inl (.inr (.inl e))
  · exact .inl (.inr (.inr (.inl e)))
  · exact .inl (.inr (.inr (.inr (.inl e))))
  · rcases List.mem_or_eq_of_mem_set hp with hp | rfl
    · exact .inl (.inr (.inr (.inr (.inr ⟨p, hp, e⟩))))
    · exact .inr e
theorem setAt_step {base : Nat → Prop} {g : Nat} {l l' l'' : List (Nd × Value)} {vN vS vM : Value} {m : Mc} {x : Nat} {pairs kids kids' : List Int} {aP : Addr} {w wr w2 W : World} {k : Nat} (hk1 : k + 1 < pairs.length)
    (hput : putAll m.nodes (nd m x).kids pairs = putAll m.nodes kids (pairs.drop k)) (hdrop : putAll m.nodes kids (pairs.drop k) = putAll m.nodes kids' (pairs.drop (k + 2))) (hM : MR base W g l'' vN vS vM (setKids m x kids'))
    (hk' : kids' = put1 m.nodes kids (pairs[k]'(by omega)) pairs[k + 1]) (hkl : kids.length ≤ 3000000 + k) (hke : kids.length % 2 = 0) (hki : ∀ y ∈ kids, 0 ≤ y ∧ y < m.nodes.length) (hPi : ∀ y ∈ pairs, 0 ≤ y ∧ y < m.nodes.length)
    (hF : Fr (Foot g l vN vS vM) w wr) (hX : Ext wr w2) (hF2 : Fr (Foot g l' vN vS vM) w2 W) (hP : RdI wr (some aP) pairs) (hfo : ∀ k, Foot g l' vN vS vM k → Foot g l vN vS vM k ∨ w.heap.size ≤ k) (hPb : ¬ Foot g l vN vS vM aP.block) (hPlt : aP.block < w.heap.size)
    (hfo2 : ∀ k, Foot g l'' vN vS vM k → Foot g l' vN vS vM k ∨ w2.heap.size ≤ k) : SetAt base g l vN vS vM m x pairs (some aP) w (k + 2) W := by
  have h1 := put1_len m.nodes kids (pairs[k]'(by omega)) pairs[k + 1]
  rw [← hk'] at h1
  have hsz : w.heap.size ≤ w2.heap.size := Nat.le_trans hF.size hX.size
  refine ⟨l'', kids', hput.trans hdrop, hM, by omega, by omega, fun y hy => ?_, (hF.trans (Fr.ofExt hX)).then hF2 hfo, (hP.ext hX).fr hF2 (fun ad had hk => ?_), fun k hk => ?_⟩
  · rw [hk'] at hy
    rcases put1_mem _ _ _ _ _ hy with h | rfl | rfl
    · exact hki y h
    · exact hPi _ (List.getElem_mem _)
    · exact hPi _ (List.getElem_mem _)
  · cases had
    exact (hfo _ hk).elim hPb (fun h => by omega)
  · rcases hfo2 k hk with h | h
    · exact hfo k h
    · exact .inr (by omega)
theorem rd_new (w : World) (x y : Int) (t : TypeId) : RdI (w.alloc (.cells #[.int .i64 x, .int .i64 y] t)) (some ⟨w.heap.size, 0, none⟩) [x, y] := by
  refine ⟨by simp, fun k hk => ⟨_, rfl, ?_⟩⟩
  rw [(add_at _ k 0).1, World.cell?_alloc_new]
  have : k = 0 ∨ k = 1 := by simp at hk; omega
  rcases this with rfl | rfl <;> rfl
theorem own_fz {w : World} {base : Nat} {e : TypeId} {size n n' g c : Nat} {xs : List Value} (h : w.ownsRow base e size (.slice (some ⟨g, 0, none⟩) n' c) n xs) (j : Nat) : w.frozen? ⟨g, j, none⟩ = false := by
  rcases h.2 with ⟨hv, _⟩ | ⟨g', cap, cur, hv, _, hh, _⟩
  · exact nomatch hv
  · injection hv with hv
    injection hv with hv
    injection hv with hv
    subst hv
    simp [World.frozen?, hh]
theorem IR.hdr {w : World} {K : Option Addr} {n c : Nat} {l : List Int} (h : IR w (.slice K n c) l) (h0 : 0 < l.length) : ∃ b, K = some ⟨b, 0, none⟩ ∧ (∀ j, w.frozen? ⟨b, j, none⟩ = false) := by
  rcases h.2 with ⟨hv, _⟩ | ⟨g', cap, cur, hv, _, hh, _⟩
  · omega
  · injection hv with hv
    exact ⟨g', hv, fun j => by simp [World.frozen?, hh]⟩
/-- Where the kids' header of a node lies. -/
theorem MR.kid {base w g l gN n c vS vM m} (h : MR base w g l (.slice (some ⟨gN, 0, none⟩) n c) vS vM m) (i : Nat) (hi : i < l.length) : w.cell? ⟨gN, i * 3 + 2, none⟩ = some l[i].2 ∧ ∃ K cK, l[i].2 = .slice K l[i].1.kids.length cK ∧ l[i].1.kids.length ≤ cK ∧ RdI w K l[i].1.kids := by
  obtain ⟨_, _, h6⟩ := ncs_at l i hi
  have h7 := World.ownsRow.cells h.nr.1 (g := gN) rfl _ _ h6
  rw [(add_at gN (i * 3 + 2) 0).1] at h7
  obtain ⟨h8, h9⟩ := h.nr.2 _ (List.getElem_mem hi)
  exact ⟨h7, h8.rd h9⟩
set_option maxRecDepth 100000 in
set_option maxHeartbeats 1000000 in
theorem set_m {B base w g l vN vS vM m} (h : MR base w g l vN vS vM m) (hok : okM B m) (hB : B ≤ 2000000) (A' : Option Addr) (cP : Nat) (pairs : List Int) (hP : RdI w A' pairs) (hPl : pairs.length ≤ 300) (hPb : ∀ ad, A' = some ad → ¬ Foot g l vN vS vM ad.block) (hPi : ∀ x ∈ pairs, 0 ≤ x ∧ x < m.nodes.length) :
    Calls Try.prog 159 #[.pointer (some ⟨g, 0, none⟩), .slice A' pairs.length cP] w (Does base g l vN vS vM m (setP m pairs) w) := by
  have hln := hok.nl
  have hls := hok.sl
  obtain ⟨A, c, rfl, hc, hrS⟩ := h.rdS (by omega)
  have H := As.mk h
  have HP := As.mk hP
  have HPi := As.mk hPi
  have HPb := As.mk hPb
  have HS := As.mk hrS
  have HO := As.mk hok
  clear h hP hrS hok
  by_cases ht : topN m.stack = 0
  · have hr : setP m pairs = none := by simp [setP, topK, ht]
    have HR := As.mk hr; have HT := As.mk ht
    clear hr ht hPb hPi
    go_enter Try.func159, Try.ntmps159
    go_wp2_with ((go_at_call 158; refine (top_m0 H.out (by omega) _ HT.out).mono ?_; rintro e w1 ⟨rfl, nq, rfl⟩))
    go_ret
    rw [HR.out]
    exact ⟨rfl, Fr.ofExt ((Ext.rf w).dN nq), fun m' hm' => (by exact nomatch hm'), fun _ => (H.out.dN nq).left⟩
  obtain ⟨x, hx, hxl⟩ := top_ok HO.out (Nat.pos_of_ne_zero ht)
  obtain ⟨gN, cN, rfl, hcN, hN⟩ := H.out.hd (by omega) (by omega)
  have htk : ∀ k, topK m k = if (nd m x).kind = k then some (x : Int) else none := fun k => by simp [topK, ht, hx]
  have hnx : nd m x = m.nodes[x] := by unfold nd; rw [Int.toNat_natCast, List.getD_eq_getElem?_getD, List.getElem?_eq_getElem hxl]; rfl
  have HT : As (0 < topN m.stack) := ⟨Nat.pos_of_ne_zero ht⟩
  have HX := As.mk hx
  have HN := As.mk hN
  have HTK := As.mk htk
  have HNX := As.mk hnx
  clear ht hx hN htk hnx hPb hPi
  rcases bceq m.nodes[x].kind 4 with hk | hk
  · rcases bceq ((pairs.length : Int) % 2) 0 with he | he
    · have he' : ((pairs.length : Int) % 2 != 0) = false := by simp; omega
      have he2 : pairs.length % 2 = 0 := by omega
      go_enter Try.func159, Try.ntmps159
      go_wp2_with ((go_at_call 158; refine (top_m1 H.out (by omega) (by omega) _ x HT.out HX.out hxl).mono ?_; rw [hk]; rintro e w1 ⟨rfl, nq, rfl⟩))
      have HE := As.mk he
      clear he he'
      go_loopw [7] (fun i wr => ∃ k : Nat, k ≤ pairs.length ∧ As (k % 2 = 0) ∧ i = .int .i64 k ∧ As (goodK m.nodes pairs = goodK m.nodes (pairs.drop k)) ∧ As (∃ n, wr = w.drewN n)) (fun i _ => pairs.length - (intOf i).toNat)
      case atStart => exact ⟨0, Nat.zero_le _, ⟨rfl⟩, rfl, ⟨rfl⟩, ⟨nq, rfl⟩⟩
      case round =>
        obtain ⟨k, hkl, hk2, rfl, hgd, hw⟩ := hrel
        by_cases hlt : k < pairs.length
        · obtain ⟨n1, rfl⟩ := hw.out
          have hlt1 : k + 1 < pairs.length := by have := hk2.out; omega
          obtain ⟨aP, rfl, p0⟩ := HP.out.2 k hlt
          obtain ⟨y, hy⟩ := Int.eq_ofNat_of_zero_le (HPi.out _ (List.getElem_mem hlt)).1
          have hyl : y < m.nodes.length := by have := (HPi.out _ (List.getElem_mem hlt)).2; rw [hy] at this; exact Int.ofNat_lt.1 this
          rw [hy] at p0
          obtain ⟨K, cK, n0, _, _, _, _⟩ := RdN.cells HN.out y hyl
          have c0 := H.out.mb.c0
          have q1 : (0 : Int) ≤ y := by omega
          have q2 : (y : Int) < m.nodes.length := by omega
          have hgy : (m.nodes.getD (pairs[k]'hlt).toNat default) = m.nodes[y] := by rw [hy, Int.toNat_natCast, List.getD_eq_getElem?_getD, List.getElem?_eq_getElem hyl]; rfl
          have HGY := As.mk hgy
          clear hgy
          rcases bcase ((1 : Int) < m.nodes[y].kind) with hb | hb
          · go_wp2_with fail
            go_quiet (fail)
            go_wp2
            go_ret
            have hr : setP m pairs = none := by
              rw [setP, HTK.out, HNX.out, if_pos hk]
              simp only
              rw [if_neg]
              rw [hgd.out, goodK_at _ _ _ hlt1, HGY.out]
              simp; omega
            rw [hr]
            exact ⟨rfl, Fr.ofExt (((Ext.rf w).dN _).dN _), fun m' hm' => (by exact nomatch hm'), fun _ => ((H.out.dN _).dN _).left⟩
          · go_wp2_with fail
            go_quiet (fail)
            go_wp2
            go_roundw
            case rel => exact ⟨k + 2, by omega, ⟨by have := hk2.out; omega⟩, by go_num, ⟨by rw [hgd.out, goodK_at _ _ _ hlt1, HGY.out, show decide (m.nodes[y].kind ≤ 1) = true by simp at hb; simp; omega]; rfl⟩, ⟨_, by first | rfl | exact World.drewN_drewN ..⟩⟩
            case measure => simp [intOf]; omega
        · have hkk : k = pairs.length := by omega
          go_wp2_with fail
          have hgood : goodK m.nodes pairs = true := by rw [hgd.out, hkk, List.drop_length]; rfl
          have hr : setP m pairs = some (setKids m x (putAll m.nodes (nd m x).kids pairs)) := by
            rw [setP, HTK.out, HNX.out, if_pos hk]
            simp only
            rw [if_pos ⟨he2, hgood⟩, HNX.out]
          have HR := As.mk hr
          clear hr hgood hgd
          have hlx : x < l.length := by rw [← H.out.nl]; exact hxl
          go_loopw [8, 9, 10] (fun i _ _ wr' => ∃ k : Nat, k ≤ pairs.length ∧ As (k % 2 = 0) ∧ i = .int .i64 k ∧ As (SetAt base g l (.slice (some ⟨gN, 0, none⟩) m.nodes.length cN) (.slice A m.stack.length c) vM m x pairs A' w k wr')) (fun i _ _ _ => pairs.length - (intOf i).toNat)
          case atStart =>
            obtain ⟨n1, rfl⟩ := hw.out
            refine ⟨0, Nat.zero_le _, ⟨rfl⟩, rfl, ⟨l, (nd m x).kids, rfl, by rw [setKids_self _ _ hxl]; exact H.out.dN n1, ?_, ?_, ?_, Fr.ofExt ((Ext.rf w).dN n1), HP.out.dN n1, fun k hk => .inl hk⟩⟩
            all_goals have hh := HO.out.ki _ (List.getElem_mem hxl)
            all_goals rw [HNX.out]
            · have := hh.1; omega
            · exact hh.2.2 hk
            · exact hh.2.1
          case round =>
            clear hw hlt hkk hkl hk2
            obtain ⟨k, hkl, hk2, rfl, hst⟩ := hrel
            by_cases hlt : k < pairs.length
            · have hlt1 : k + 1 < pairs.length := by have := hk2.out; omega
              obtain ⟨l', kids, hput, hM, hkl', hke, hki, hF, hP', hfo⟩ := hst.out
              obtain ⟨aP, rfl, p0⟩ := hP'.2 k hlt
              obtain ⟨aP', haP, p1⟩ := hP'.2 (k + 1) hlt1
              cases haP
              obtain ⟨y, hy⟩ := Int.eq_ofNat_of_zero_le (HPi.out _ (List.getElem_mem hlt)).1
              have hyl : y < m.nodes.length := by have := (HPi.out _ (List.getElem_mem hlt)).2; rw [hy] at this; exact Int.ofNat_lt.1 this
              have hml : (setKids m x kids).nodes.length = m.nodes.length := setKids_len _ _ _
              obtain ⟨gN', cN', hv, _, hN1⟩ := hM.hd (by omega) (by omega)
              injection hv with hv hv2 hv3
              injection hv with hv
              injection hv with hv
              subst hv hv3
              clear hv2
              have hy' : y < (setKids m x kids).nodes.length := by omega
              obtain ⟨Ky, cy, n0, n1, n2, _, _⟩ := RdN.cells hN1 y hy'
              have hl'l : l'.length = m.nodes.length := by rw [← hM.nl, hml]
              have hx' : x < l'.length := by omega
              obtain ⟨x2, K, cK, hK, hcK, hrK⟩ := hM.kid x hx'
              have hx1 : l'[x].1 = ⟨(nd m x).kind, (nd m x).val, kids⟩ := by
                have h1 : (l'.map Prod.fst)[x]? = (setKids m x kids).nodes[x]? := by rw [hM.ns]
                rw [List.getElem?_map, List.getElem?_eq_getElem hx', Option.map_some] at h1
                have h2 : (setKids m x kids).nodes[x]? = some ⟨(nd m x).kind, (nd m x).val, kids⟩ := by
                  show (m.nodes.set x _)[x]? = _
                  rw [List.getElem?_set_self hxl]
                rw [h2] at h1
                injection h1
              rw [hK] at x2
              rw [hx1] at hK x2 hcK hrK
              have c0 := hM.mb.c0
              rw [hy] at p0
              have q1 : (0 : Int) ≤ y := by omega
              have q2 : (y : Int) < m.nodes.length := by omega
              have hdrop := putAll_at m.nodes kids pairs k hlt1
              have HST := As.mk (And.intro hput (And.intro hM (And.intro hkl' (And.intro hke (And.intro hki (And.intro hF (And.intro hP' hfo)))))))
              have HKK := As.mk (And.intro hcK (And.intro hrK (And.intro hx1 (And.intro hK (And.intro hN1 hdrop)))))
              have HY := As.mk (And.intro hy (And.intro hml hl'l))
              clear hst hput hM hkl' hke hki hF hP' hfo hcK hrK hx1 hdrop hN1 hK hy hml hl'l
              obtain ⟨ky, hky⟩ : ∃ ky, ky = (setKids m x kids).nodes[y].kind := ⟨_, rfl⟩
              obtain ⟨vy, hvy⟩ : ∃ vy, vy = (setKids m x kids).nodes[y].val := ⟨_, rfl⟩
              obtain ⟨ly, hly⟩ : ∃ ly, ly = (setKids m x kids).nodes[y].kids.length := ⟨_, rfl⟩
              rw [← hky] at n0
              rw [← hvy] at n1
              rw [← hly] at n2
              have HKY := As.mk (And.intro hky hvy)
              clear hky hvy hly
              go_wp2_with fail
              refine region_perm (fun w' => w'.cell? ⟨g, 0, none⟩ = some (.slice (some ⟨gN, 0, none⟩) m.nodes.length cN) ∧ w'.cell? (aP.add k) = some (.int .i64 y) ∧ w'.cell? ⟨gN, y * 3, none⟩ = some (.int .i64 ky) ∧ w'.cell? ⟨gN, y * 3 + 1, none⟩ = some (.int .i64 vy) ∧ w'.cell? ⟨gN, y * 3 + 2, none⟩ = some (.slice Ky ly cy)) [11] [(0, 0), (1, 0), (2, 0), (3, 1), (4, 0), (5, 0), (6, 0), (7, 1), (8, 0), (9, 1), (10, 2), (11, 3)] (by kernel_rfl) (by kernel_rfl) rfl (by kernel_rfl) (fun _ _ _ _ h => h) ?_
              have hS0 := And.intro c0 (And.intro p0 (And.intro n0 (And.intro n1 n2)))
              repeat (first | refine wpP.c0 (h := ?_) | refine wpP.c1 (w := wr.drew) hS0 (h := ?_))
              refine wpP.ev (h := fun Kv hKv => ?_)
              go_wp2_with fail
              have hX : Ext wr (wr.drew.alloc (.cells #[.int .i64 0, .int .i64 0, .slice none 0 0] 96)) := ((Ext.rf wr).dr).al _
              refine hKv.out _ _ ⟨hX.cellOf c0, hX.cellOf p0, hX.cellOf n0, hX.cellOf n1, hX.cellOf n2⟩ ?_
              clear hKv Kv hX
              refine wpP.last (h := fun Kv hKv => ?_)
              go_wp2_with fail
              refine hKv.out _ _ (wpP.done ?_)
              clear hKv Kv hS0
              obtain ⟨w1, hw1⟩ : ∃ w1, w1 = (wr.alloc (.cells #[.int .i64 ky, .int .i64 vy, .slice Ky ly cy] 96)).drew := ⟨_, rfl⟩
              have hX : Ext wr w1 := by rw [hw1]; exact ((Ext.rf wr).al _).dr
              have b0 : w1.cell? ⟨wr.heap.size, 0, none⟩ = some (.int .i64 ky) := by rw [hw1]; exact World.cell?_alloc_new ..
              have b1 : w1.cell? ⟨wr.heap.size, 1, none⟩ = some (.int .i64 vy) := by rw [hw1]; exact World.cell?_alloc_new ..
              have b2 : w1.cell? ⟨wr.heap.size, 2, none⟩ = some (.slice Ky ly cy) := by rw [hw1]; exact World.cell?_alloc_new ..
              rw [← hw1]
              have d0 := hX.cellOf c0
              have d2 := hX.cellOf x2
              have e0 := hX.cellOf p0
              have e1 := hX.cellOf p1
              have HM1 := HST.out.2.1.ext hX
              have HX1 := As.mk hX
              have hfk : ∀ W, Ext wr W → Calls Try.prog 177 #[.slice (some ⟨gN, 0, none⟩) m.nodes.length cN, .slice K kids.length cK, .agg #[.int .i64 ky, .int .i64 vy, .slice Ky ly cy]] W fun e w' => e = .returned (.int .i64 (findI (findKey m.nodes kids ky vy))) ∧ Ext W w' := by
                intro W hW
                have := findKey_c (some ⟨gN, 0, none⟩) K Ky cN cK ly cy (setKids m x kids).nodes kids ky vy W (HKK.out.2.2.2.2.1.ext hW) (HKK.out.2.1.ext hW) (fun y hy => by rw [HY.out.2.1]; exact HST.out.2.2.2.2.1 y hy)
                rw [HY.out.2.1] at this
                have e5 : findKey (setKids m x kids).nodes kids ky vy = findKey m.nodes kids ky vy := findK_same (fun i => (same_set m.nodes x kids i)) kids ky vy _ _
                rwa [e5] at this
              have hput : put1 m.nodes kids (pairs[k]'hlt) (pairs[k + 1]'hlt1) = (match findKey m.nodes kids ky vy with | some i => kids.set (i + 1) (pairs[k + 1]'hlt1) | none => kids ++ [pairs[k]'hlt, pairs[k + 1]'hlt1]) := by
                have h3 : (setKids m x kids).nodes[y] = (setKids m x kids).nodes.getD y default := by rw [List.getD_eq_getElem?_getD, List.getElem?_eq_getElem hy']; rfl
                have h4 := same_set m.nodes x kids y
                rw [put1_eq, HY.out.1, HKY.out.1, HKY.out.2, h3, Int.toNat_natCast]
                have h5 : (setKids m x kids).nodes.getD y default = (m.nodes.set x ⟨(m.nodes.getD x default).kind, (m.nodes.getD x default).val, kids⟩).getD y default := rfl
                rw [h5, h4.1, h4.2]
                cases findKey m.nodes kids (m.nodes.getD y default).kind (m.nodes.getD y default).val <;> rfl
              have HFK := As.mk hfk
              have HPU := As.mk hput
              clear hfk hput c0 p0 p1 n0 n1 n2 x2 hX hw1
              have HM := As.mk HM1
              clear HM1
              go_wp2_with fail
              refine region_perm (fun w' => w'.cell? ⟨g, 0, none⟩ = some (.slice (some ⟨gN, 0, none⟩) m.nodes.length cN) ∧ w'.cell? ⟨gN, x * 3 + 2, none⟩ = some (.slice K kids.length cK) ∧ w'.cell? ⟨wr.heap.size, 0, none⟩ = some (.int .i64 ky) ∧ w'.cell? ⟨wr.heap.size, 1, none⟩ = some (.int .i64 vy) ∧ w'.cell? ⟨wr.heap.size, 2, none⟩ = some (.slice Ky ly cy)) [] [(0, 0), (1, 0), (2, 0), (3, 1), (4, 0), (5, 0), (6, 0), (7, 1), (8, 1), (9, 2), (10, 0)] (by kernel_rfl) (by kernel_rfl) rfl (by kernel_rfl) (fun _ _ _ _ h => h) ?_
              have hS1 := And.intro d0 (And.intro d2 (And.intro b0 (And.intro b1 b2)))
              repeat (first | refine wpP.c0 (h := ?_) | refine wpP.c1 (w := w1.drew) hS1 (h := ?_))
              refine wpP.ev (h := fun Kv hKv => ?_)
              go_wp2_with ((go_at_call 177; refine (HFK.out _ HX1.out.dr).mono ?_; rintro e w2 ⟨rfl, he2⟩; have HE2 : As (Ext w1 w2) := ⟨((Ext.rf w1).dr).trans he2⟩; clear he2))
              refine hKv.out _ _ ⟨HE2.out.cellOf d0, HE2.out.cellOf d2, HE2.out.cellOf b0, HE2.out.cellOf b1, HE2.out.cellOf b2⟩ ?_
              clear hKv Kv
              refine wpP.c0 (h := ?_)
              refine wpP.done ?_
              have HM2 := As.mk (HM.out.ext HE2.out)
              have HX2 := As.mk (HX1.out.trans HE2.out)
              have x2 := HE2.out.cellOf d2
              have y0 := HE2.out.cellOf e0
              have y1 := HE2.out.cellOf e1
              have eadd : aP.add (k + 1) = ⟨aP.block, aP.off + (k + 1), none⟩ := by simp [Addr.add]
              rw [eadd] at y1
              clear eadd
              clear hS1 b0 b1 b2 d0 d2 e0 e1 HM HX1 HE2 HFK w1
              obtain ⟨r, hr⟩ : ∃ r, r = findKey m.nodes kids ky vy := ⟨_, rfl⟩
              rw [← hr] at HPU ⊢
              have HRR := As.mk hr
              clear hr
              cases r with
              | none =>
                unfold findI
                have hIR : IR w2 (.slice K kids.length cK) kids := by have := (HM2.out.nr.2 _ (List.getElem_mem hx')).1; rw [HKK.out.2.2.1, HKK.out.2.2.2.1] at this; exact this
                have HIR := As.mk hIR
                clear hIR
                have z1 := own_fz HM2.out.nr.1 (x * 3 + 2)
                obtain ⟨v, hv⟩ : ∃ v, v = pairs[k + 1] := ⟨_, rfl⟩
                rw [← hv] at y1
                have HV := As.mk hv
                clear hv
                have r2 : (k : Int) + 1 < pairs.length := by omega
                have r3 : (0 : Int) ≤ (k : Int) + 1 := by omega
                have r4 : ((k : Int) + 1).toNat = k + 1 := by omega
                have r7 : IntKind.i64.wrap ((k : Int) + 1) = (k : Int) + 1 := by rw [IntKind.wrap_i64]; omega
                have hkb : kids.length ≤ 4000000 := by have := HST.out.2.2.1; omega
                go_wp2_with fail
                refine region_perm (fun w' => w'.cell? ⟨gN, x * 3 + 2, none⟩ = some (.slice K kids.length cK) ∧ w'.cell? (aP.add k) = some (.int .i64 y) ∧ w'.cell? ⟨aP.block, aP.off + (k + 1), none⟩ = some (.int .i64 v)) [18] [(0, 0), (1, 0), (2, 0), (3, 0), (4, 1), (5, 0), (6, 0), (7, 0), (8, 1), (9, 0), (10, 0), (11, 0), (12, 0), (13, 1), (14, 2), (15, 2), (16, 0), (17, 0), (18, 3)] (by kernel_rfl) (by kernel_rfl) rfl (by kernel_rfl) (fun _ _ _ _ h => h) ?_
                have hS2 := And.intro x2 (And.intro y0 y1)
                repeat (first | refine wpP.c0 (h := ?_) | refine wpP.c1 (w := w2.drew) hS2 (h := ?_))
                refine wpP.ev (h := fun Kv hKv => ?_)
                go_wp2_with fail
                have hX3 : Ext w2 (w2.drew.alloc (.cells #[.int .i64 y, .int .i64 v] 3)) := ((Ext.rf w2).dr).al _
                refine hKv.out _ _ ⟨hX3.cellOf x2, hX3.cellOf y0, hX3.cellOf y1⟩ ?_
                clear hKv Kv hX3
                refine wpP.ev (h := fun Kv hKv => ?_)
                obtain ⟨w3, hw3⟩ : ∃ w3, w3 = (w2.alloc (.cells #[.int .i64 y, .int .i64 v] 3)).drew := ⟨_, rfl⟩
                have hX3 : Ext w2 w3 := by rw [hw3]; exact ((Ext.rf w2).al _).dr
                have hr3 : RdI w3 (some ⟨w2.heap.size, 0, none⟩) [(y : Int), v] := by rw [hw3]; exact (rd_new w2 y v 3).ext ((Ext.rf _).dr)
                rw [← hw3]
                clear hw3
                have HX3 := As.mk hX3
                have HR3 := As.mk hr3
                clear hX3 hr3
                go_wp2_with ((at_builtin; refine app_ints rfl _ _ rfl (.slice K kids.length cK) kids ⟨w2.heap.size, 0, none⟩ 2 2 [(y : Int), v] rfl rfl rfl HR3.out (HIR.out.ext HX3.out) (by omega) ?_; intro A3 c3 w4 hap; have HAP := As.mk hap; clear hap))
                have HM3 := As.mk (HM2.out.ext HX3.out)
                have hm := List.getElem_mem hx'
                have hx1 := HKK.out.2.2.1
                have hx2 := HKK.out.2.2.2.1
                have hkk : l'[x].1.kids = kids := by rw [hx1]
                have hap : AppS l'[x].2 l'[x].1.kids (l'[x].1.kids ++ [(y : Int), v]) w3 A3 c3 w4 := by rw [hkk, hx2]; exact HAP.out
                have HM4 := As.mk (HM3.out.app l'[x] hm hap.2.1 hap.2.2.2)
                have HAP2 := As.mk hap
                have HPL : As (aP.block < w.heap.size) := ⟨by
                  obtain ⟨ad, had, hcp⟩ := HP.out.2 k hlt
                  cases had
                  have hpl := World.block_lt_of_cell? w _ hcp
                  rwa [add_block] at hpl⟩
                have HP4 : As (RdI w4 (some aP) pairs) := ⟨((HST.out.2.2.2.2.2.2.1.ext HX2.out).ext HX3.out).fr HAP2.out.2.1 (fun ad had hk => by
                  cases had
                  exact (HST.out.2.2.2.2.2.2.2 _ (.inr (.inr (.inr (.inr ⟨_, hm, hk⟩))))).elim (HPb.out aP rfl) (fun h => by have := HPL.out; omega))⟩
                have x4 := (HM4.out.kid x hx').1
                rw [hx2] at x4
                have z4 := own_fz HM4.out.nr.1 (x * 3 + 2)
                obtain ⟨ad, had, y4⟩ := HP4.out.2 k hlt
                cases had
                obtain ⟨ad, had, y5⟩ := HP4.out.2 (k + 1) hlt1
                cases had
                rw [show aP.add (k + 1) = ⟨aP.block, aP.off + (k + 1), none⟩ by simp [Addr.add], ← HV.out] at y5
                rw [HY.out.1] at y4
                refine hKv.out _ _ ⟨x4, y4, y5⟩ ?_
                clear hKv Kv hS2 hm hx1 hx2 hkk hap x2 y0 y1 z1
                repeat (first | refine wpP.c0 (h := ?_))
                refine wpP.last (h := fun Kv hKv => ?_)
                go_wp2_with fail
                refine hKv.out _ _ (wpP.done ?_)
                clear hKv Kv
                go_wp2_with fail
                go_roundw
                case measure => simp [intOf]; omega
                case rel =>
                  have hx1 := HKK.out.2.2.1
                  have hkk : l'[x].1.kids = kids := by rw [hx1]
                  have hll : (kids ++ [(y : Int), v]).length = kids.length + 2 := by simp
                  obtain ⟨g1, g2⟩ := HM3.out.grow x hx' [(y : Int), v] A3 c3 HAP2.out (by rw [hkk, hll]; omega)
                  have hfr := HAP2.out.2.2.1
                  have hm := List.getElem_mem hx'
                  rw [hkk, hll] at g1 g2 hfr
                  rw [setKids_again _ _ _ _ hxl] at g1
                  obtain ⟨s1, s2, s3, s4, s5, s6, s7, s8⟩ := HST.out
                  have hpu := HPU.out
                  have hdr := HKK.out.2.2.2.2.2
                  rw [hpu] at hdr
                  have hv := HV.out
                  rw [HY.out.1] at hpu hdr
                  rw [← hv] at hpu hdr
                  refine ⟨k + 2, by omega, ⟨by have := hk2.out; omega⟩, by go_num, ⟨setAt_step (w2 := w3) hlt1 s1 hdr g1 (by rw [HY.out.1, ← hv]; exact hpu.symm) s3 s4 s5 HPi.out s6 (HX2.out.trans HX3.out) g2 s7 s8 (HPb.out aP rfl) HPL.out (fun q hq => ?_)⟩⟩
                  rcases foot_set hq with e | e
                  · exact .inl e
                  · rcases hfr with h | ⟨b, h1, h2⟩
                    · exact .inl (.inr (.inr (.inr (.inr ⟨_, hm, by rw [← h]; exact e⟩))))
                    · rw [h1] at e; injection e with e; subst e; exact .inr h2
              | some j =>
                unfold findI
                have hj := findKey_lt HRR.out.symm HST.out.2.2.2.1
                have hIR : IR w2 (.slice K kids.length cK) kids := by have := (HM2.out.nr.2 _ (List.getElem_mem hx')).1; rw [HKK.out.2.2.1, HKK.out.2.2.2.1] at this; exact this
                obtain ⟨b, rfl, hfz⟩ := IR.hdr hIR (by omega)
                obtain ⟨ad, had, z0⟩ := (HKK.out.2.1.ext HX2.out).2 (j + 1) hj
                cases had
                rw [(add_at b (j + 1) 0).1] at z0
                have z1 := hfz (j + 1)
                clear hfz hIR
                obtain ⟨v, hv⟩ : ∃ v, v = pairs[k + 1] := ⟨_, rfl⟩
                rw [← hv] at y1
                have HV := As.mk hv
                clear hv
                have hkb : kids.length ≤ 4000000 := by have := HST.out.2.2.1; omega
                have r1 : (j : Int) + 1 < kids.length := by omega
                have r2 : (k : Int) + 1 < pairs.length := by omega
                have r3 : (0 : Int) ≤ (k : Int) + 1 := by omega
                have r4 : ((k : Int) + 1).toNat = k + 1 := by omega
                have r5 : (0 : Int) ≤ (j : Int) + 1 := by omega
                have r6 : ((j : Int) + 1).toNat = j + 1 := by omega
                have r7 : IntKind.i64.wrap ((k : Int) + 1) = (k : Int) + 1 := by rw [IntKind.wrap_i64]; omega
                have r8 : IntKind.i64.wrap ((j : Int) + 1) = (j : Int) + 1 := by rw [IntKind.wrap_i64]; omega
                go_wp2_with fail
                refine region_perm (fun w' => w'.cell? ⟨gN, x * 3 + 2, none⟩ = some (.slice (some ⟨b, 0, none⟩) kids.length cK) ∧ w'.cell? ⟨aP.block, aP.off + (k + 1), none⟩ = some (.int .i64 v)) [12] [(0, 0), (1, 0), (2, 0), (3, 1), (4, 0), (5, 0), (6, 0), (7, 0), (8, 0), (9, 0), (10, 1), (11, 0), (12, 3)] (by kernel_rfl) (by kernel_rfl) rfl (by kernel_rfl) (fun _ _ _ _ h => h) ?_
                have hS2 := And.intro x2 y1
                repeat (first | refine wpP.c0 (h := ?_) | refine wpP.c1 (w := w2.drew) hS2 (h := ?_))
                refine wpP.last (h := fun Kv hKv => ?_)
                go_wp2_with fail
                refine hKv.out _ _ (wpP.done ?_)
                clear hKv Kv hS2
                go_wp2_with fail
                go_roundw
                case measure => simp [intOf]; omega
                case rel =>
                  obtain ⟨hit, hif⟩ := (HM2.out.item x hx' b kids.length cK HKK.out.2.2.2.1 (j + 1) v)
                  have hx1 := HKK.out.2.2.1
                  have hkk : l'[x].1.kids = kids := by rw [hx1]
                  rw [hkk, setKids_again _ _ _ _ hxl] at hit
                  obtain ⟨s1, s2, s3, s4, s5, s6, s7, s8⟩ := HST.out
                  have hpu := HPU.out
                  have hdr := HKK.out.2.2.2.2.2
                  rw [hpu] at hdr
                  have hv := HV.out
                  subst hv
                  obtain ⟨ad, had, hcp⟩ := HP.out.2 k hlt
                  cases had
                  have hpl := World.block_lt_of_cell? w _ hcp
                  rw [add_block] at hpl
                  exact ⟨k + 2, by omega, ⟨by have := hk2.out; omega⟩, by go_num, ⟨setAt_step hlt1 s1 hdr (hit.ext ((Ext.rf _).dr)) hpu.symm s3 s4 s5 HPi.out s6 HX2.out (hif.then (Fr.ofExt ((Ext.rf _).dr)) (fun _ h => .inl h)) s7 s8 (HPb.out aP rfl) hpl
                    (fun q hq => .inl ((foot_set hq).elim id (fun e => .inr (.inr (.inr (.inr ⟨_, List.getElem_mem hx', e⟩))))))⟩⟩
            · have hkk : k = pairs.length := by omega
              clear hkl
              go_wp2_with fail
              go_ret
              obtain ⟨l', kids, s1, s2, s3, s4, s5, s6, s7, s8⟩ := hst.out
              rw [hkk, List.drop_length] at s1
              rw [HR.out, s1]
              refine ⟨rfl, s6, fun m' hm' => ?_, fun h => nomatch h⟩
              injection hm' with hm'
              subst hm'
              exact ⟨l', _, _, s2⟩
    · have he' : ((pairs.length : Int) % 2 != 0) = true := by simp at he ⊢; omega
      have hr : setP m pairs = none := by
        rw [setP, HTK.out, HNX.out, if_pos hk]
        simp only
        rw [if_neg]
        simp at he; omega
      have HR := As.mk hr; clear hr
      go_enter Try.func159, Try.ntmps159
      go_wp2_with ((go_at_call 158; refine (top_m1 H.out (by omega) (by omega) _ x HT.out HX.out hxl).mono ?_; rintro e w1 ⟨rfl, nq, rfl⟩))
      go_ret
      rw [HR.out]
      exact ⟨rfl, Fr.ofExt ((Ext.rf w).dN nq), fun m' hm' => (by exact nomatch hm'), fun _ => (H.out.dN nq).left⟩
  · have hr : setP m pairs = none := by
      rw [setP, HTK.out, HNX.out, if_neg (by simpa using hk)]
    have HR := As.mk hr; clear hr
    go_enter Try.func159, Try.ntmps159
    go_wp2_with ((go_at_call 158; refine (top_m1 H.out (by omega) (by omega) _ x HT.out HX.out hxl).mono ?_; rw [hk]; rintro e w1 ⟨rfl, nq, rfl⟩))
    go_ret
    rw [HR.out]
    exact ⟨rfl, Fr.ofExt ((Ext.rf w).dN nq), fun m' hm' => (by exact nomatch hm'), fun _ => (H.out.dN nq).left⟩
end Go.Proofs.Ytcodbpjaamggeaa.C
