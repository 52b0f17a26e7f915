/- A graph is drawn: it is valid. -/
import Derived.Test.YtgenllcfpjgklaaQg
set_option linter.unusedVariables false
set_option linter.unusedSimpArgs false
namespace Go.Proofs.Ytgenllcfpjgklaa.P
theorem VG.reroot {ns : List Nd} {r r' : Int} (h : VG ns r) (h0 : 0 ≤ r') (h1 : r' < ns.length) : VG ns r' := ⟨h.lo, h.hi, h0, h1, h.nd, h.ac⟩
theorem no_way {ns : List Nd} (h : ∀ n ∈ ns, n.kids = []) {i : Nat} (hi : i < ns.length) (x : Int) : ¬ Wy tupB ns i x := by
  intro hw
  have key : ∀ y, Wy tupB ns i y → False := by
    intro y hy
    induction hy with
    | one hx => rw [atN_get i hi, h _ (List.getElem_mem hi)] at hx; simp at hx
    | more _ _ _ ih => exact ih
  exact key x hw
end Go.Proofs.Ytgenllcfpjgklaa.P
namespace Go.Proofs.Ytgenllcfpjgklaa.C
open Go.RowKit Go.Proofs.Ytgenllcfpjgklaa.W Go.Proofs.Ytgenllcfpjgklaa.P

theorem leaf_ok {ns : List Nd} {k v : Int} (h : SN k v) : nodeB ns ⟨k, v, []⟩ = true := by
  unfold nodeB allIn bodyB
  rcases h with ⟨rfl, h0, h1⟩ | ⟨rfl, h0, h1⟩ | ⟨rfl | rfl | rfl, rfl⟩ | ⟨rfl, h0, h1⟩
  · simp [h0, h1]
  · simp [h0, h1]
  · simp
  · simp
  · simp [dictB]
  · simp [h0, h1]
theorem leaf_vg {l : List (Nd × Value)} (h : ∀ p ∈ l, SN p.1.kind p.1.val ∧ p.1.kids = []) (h1 : 1 ≤ l.length) (h2 : l.length ≤ 12) : VG (l.map Prod.fst) ((l.length : Int) - 1) := by
  have hk : ∀ n ∈ l.map Prod.fst, n.kids = [] := fun n hn => by
    obtain ⟨p, hp, rfl⟩ := List.mem_map.1 hn
    exact (h p hp).2
  refine ⟨by simpa using h1, by simpa using h2, by omega, by simp; omega, fun n hn => ?_, fun i hi _ => no_way hk hi _⟩
  obtain ⟨p, hp, rfl⟩ := List.mem_map.1 hn
  obtain ⟨h3, h4⟩ := h p hp
  have : p.1 = ⟨p.1.kind, p.1.val, []⟩ := by rw [← h4]
  rw [this]
  exact leaf_ok h3
theorem NW.addLeaf {lo : Nat} {w w2 : World} {l : List (Nd × Value)} {v : Value} {ns : List Nd} {k vl : Int} {gN cN : Nat} (h : NW (lo ≤ ·) w l v ns) (hlo : lo ≤ w.heap.size) (hap : AppN v l (l ++ [(⟨k, vl, []⟩, .slice none 0 0)]) w gN cN w2) :
    NW (lo ≤ ·) w2 (l ++ [(⟨k, vl, []⟩, .slice none 0 0)]) (.slice (some ⟨gN, 0, none⟩) (l.length + 1) cN) (ns ++ [⟨k, vl, []⟩]) ∧ Fr (fun j => v.ownBlock = some j) w w2 ∧ lo ≤ gN := by
  obtain ⟨a1, a2, a3, -, -⟩ := hap
  have hg : lo ≤ gN := a3.elim (fun e => h.lo _ (.inl e)) (fun e => Nat.le_trans hlo e)
  have hll : (l ++ [((⟨k, vl, []⟩ : Nd), (Value.slice none 0 0))]).length = l.length + 1 := by simp
  rw [hll] at a1
  refine ⟨⟨⟨by rw [hll]; exact a1, fun p hp => ?_⟩, by rw [List.map_append, h.ns]; rfl, fun j hj => ?_, ?_⟩, a2, hg⟩
  · rcases List.mem_append.1 hp with hp | hp
    · have h2 := h.nr.2 p hp
      exact ⟨h2.1.fr a2 (fun j hj e => own_ne_type h2.1 h.nr.1 (by decide) hj e), h2.2⟩
    · rw [List.mem_singleton] at hp; subst hp
      exact ⟨IR.nil _, by simp⟩
  · rcases hj with e | ⟨p, hp, e⟩
    · have e : gN = j := by injection e
      show lo ≤ j; omega
    · rcases List.mem_append.1 hp with hp | hp
      · exact h.lo j (.inr ⟨p, hp, e⟩)
      · rw [List.mem_singleton] at hp; subst hp; simp [Value.ownBlock] at e
  · rw [List.pairwise_append]
    refine ⟨h.kk, by simp, fun a ha b hb => ?_⟩
    rw [List.mem_singleton] at hb; subst hb
    intro j hj e
    simp [Value.ownBlock] at e
/-- While nodes are drawn. -/
def SgA (w : World) (g p b2 b3 : Nat) (n0 k : Int) (wr : World) : Prop :=
  ∃ A c l q, GB wr b2 (.slice none 0 0) (.int .i64 0) ∧ GB wr b3 (.slice A l.length c) (.int .i64 0) ∧ NW (b2 + 2 ≤ ·) wr l (.slice A l.length c) (l.map Prod.fst) ∧ (∀ x ∈ l, (SN x.1.kind x.1.val ∧ x.1.kids = []) ∧ x.2 = .slice none 0 0) ∧ (l.length : Int) + k = n0 ∧ q ≤ p + 1 + 3 * l.length ∧ Rdr wr g q ∧ b2 + 2 ≤ wr.heap.size ∧ Fr (fun j => j = g) w wr
/-- While they get kids. -/
def SgB (w : World) (g p b2 b3 : Nat) (i : Nat) (wr : World) : Prop :=
  ∃ A c l ns r q, GB wr b2 (.slice none 0 0) (.int .i64 0) ∧ GB wr b3 (.slice A ns.length c) (.int .i64 r) ∧ NW (b2 + 2 ≤ ·) wr l (.slice A ns.length c) ns ∧ (∀ j x, i ≤ j → l[j]? = some x → x.2 = .slice none 0 0) ∧ VG ns r ∧ i ≤ ns.length ∧ q ≤ p + 40 + 9 * i ∧ Rdr wr g q ∧ b2 + 2 ≤ wr.heap.size ∧ Fr (fun j => j = g) w wr
/-- A valid graph comes back. -/
def SgV (w : World) (g p : Nat) (e : Ending) (w' : World) : Prop := ∃ A c l ns r q, e = .returned (.agg #[.slice A ns.length c, .int .i64 r]) ∧ NW (w.heap.size ≤ ·) w' l (.slice A ns.length c) ns ∧ VG ns r ∧ q ≤ p + 160 ∧ Rdr w' g q ∧ Fr (fun j => j = g) w w'
set_option maxRecDepth 100000 in
set_option maxHeartbeats 8000000 in
theorem someGraph_c (w : World) (g p : Nat) (hr : Rdr w g p) (hp : p + 160 ≤ 1000000) :
    Calls Try.prog 105 #[.pointer (some ⟨g, 0, none⟩)] w (SgV w g p) := by
  have hg := hr.lt
  have hx : Ext w ((w.alloc (.cells #[.slice none 0 0, .int .i64 0] 105)).alloc (.cells #[.slice none 0 0, .int .i64 0] 105)) := ((Ext.rf w).al _).al _
  have ha : GB ((w.alloc (.cells #[.slice none 0 0, .int .i64 0] 105)).alloc (.cells #[.slice none 0 0, .int .i64 0] 105)) w.heap.size (.slice none 0 0) (.int .i64 0) := ((Ext.rf _).al _).blk (al_new w _)
  have hb : GB ((w.alloc (.cells #[.slice none 0 0, .int .i64 0] 105)).alloc (.cells #[.slice none 0 0, .int .i64 0] 105)) (w.heap.size + 1) (.slice none 0 0) (.int .i64 0) := by have := al_new (w.alloc (.cells #[.slice none 0 0, .int .i64 0] 105)) (.cells #[.slice none 0 0, .int .i64 0] 105); rw [al_size] at this; exact this
  have HX := As.mk hx
  have HA := As.mk ha
  have HB := As.mk hb
  have HR := As.mk (hr.ext hx)
  clear hr hx ha hb
  go_enter Try.func105, Try.ntmps105
  go_upto_region 2 with fail
  generalize (w.alloc (.cells #[.slice none 0 0, .int .i64 0] 105)).alloc (.cells #[.slice none 0 0, .int .i64 0] 105) = w0 at HX HA HB HR ⊢
  obtain ⟨b2, hb2⟩ : ∃ b2, b2 = w.heap.size := ⟨_, rfl⟩
  rw [← hb2] at HA HB ⊢
  have hb2' : w.heap.size ≤ b2 ∧ b2 ≤ w.heap.size := by omega
  have HSZ0 : As (b2 + 2 ≤ w0.heap.size) := ⟨by have := (Array.getElem?_eq_some_iff.1 HB.out).1; omega⟩
  clear hb2
  go_upto_region 3 with (go_at_call 87; refine (one_c _ _ _ (some ⟨w0.heap.size, 0, none⟩) 9 [5, 6, 4, 7, 3, 8, 1, 2, 10] (HR.out.ext ((Ext.rf _).al _)) (by omega) (rdA_J5 (n := 9) (c := 9) (l := [5, 6, 4, 7, 3, 8, 1, 2, 10]) (World.ownsRow_lit (base := 0) (e := 3) (size := 1) w0 #[.int .i64 5, .int .i64 6, .int .i64 4, .int .i64 7, .int .i64 3, .int .i64 8, .int .i64 1, .int .i64 2, .int .i64 10] 9 (Nat.zero_le _) (by decide) rfl) (by simp)) (fun ad e => by have h1 := HR.out.lt; injection e with e; subst e; show w0.heap.size ≠ g; omega) (by simp) (by simp)).mono ?_; rintro e w2 ⟨n0, rfl, hz, hrd, hf⟩; have HRD := As.mk hrd; have HF := As.mk ((Fr.ofExt ((Ext.rf w0).al (.cells #[.int .i64 5, .int .i64 6, .int .i64 4, .int .i64 7, .int .i64 3, .int .i64 8, .int .i64 1, .int .i64 2, .int .i64 10] 3))).trans hf); have HZ := As.mk (show 1 ≤ n0 ∧ n0 ≤ 10 by simp only [List.mem_cons, List.mem_nil_iff, or_false] at hz; omega); clear hz hrd hf)
  have HQ0 : As (SgA w g p b2 (b2 + 1) n0 n0 w2) := ⟨⟨none, 0, [], p + 1, HF.out.blk HA.out (by omega), HF.out.blk HB.out (by omega), NW.nil _ _, by simp, by simp, by simp, HRD.out, Nat.le_trans HSZ0.out HF.out.size, (Fr.ofExt HX.out).trans HF.out⟩⟩
  have hz0 := HZ.out.1
  have hz4 := HZ.out.2
  clear HRD HF HZ HR HA HB
  go_loopw [4] (fun i wr => ∃ k : Int, 0 ≤ k ∧ k ≤ n0 ∧ i = .int .i64 k ∧ As (SgA w g p b2 (b2 + 1) n0 k wr)) (fun i _ => (intOf i).toNat)
  case atStart => exact ⟨n0, by omega, by omega, rfl, HQ0⟩
  case round =>
    obtain ⟨k, hk0, hk4, rfl, hst⟩ := hrel
    obtain ⟨A, c, l, q, ha, hb, hn, hl, hlk, hq, hrd, hsz, hfr⟩ := hst.out
    have HA := As.mk ha
    have HB := As.mk hb
    have HN := As.mk hn
    have HL := As.mk hl
    have HRD := As.mk hrd
    have HFR := As.mk hfr
    have hlk1 : (l.length : Int) + k ≤ n0 ∧ n0 ≤ (l.length : Int) + k := by omega
    clear hst ha hb hn hl hrd hfr HQ0 hlk
    have c0 := gb_c0 HB.out
    by_cases hk : 0 < k
    · go_upto_region 5 with fail
      refine region_perm (fun w' => w'.cell? ⟨b2 + 1, 0, none⟩ = some (.slice A l.length c)) [7] [(0, 0), (1, 1), (2, 0), (3, 2), (4, 2), (5, 2), (6, 0), (7, 3)] (by kernel_rfl) (by kernel_rfl) rfl (by kernel_rfl) (fun _ _ _ _ h => h) ?_
      have hS := c0
      repeat (first | refine wpP.c0 (h := ?_) | refine wpP.c1 (w := wr.drew) hS (h := ?_))
      refine wpP.ev (h := fun Kv hKv => ?_)
      have HD := As.mk ((Ext.rf wr).dr)
      generalize wr.drew = wd at HD ⊢
      go_wp2_with (go_at_call 128; refine (someNode_c _ _ _ (HRD.out.ext HD.out) (by omega)).mono ?_; rintro e w3 ⟨kd, vl, rfl, hsn, ⟨q3, hq3, hrd⟩, hf⟩; have HSN := As.mk hsn; have HRD3 := As.mk hrd; have HF3 := As.mk ((Fr.ofExt HD.out).trans hf); clear hsn hrd hf)
      have hN3 := HN.out.fr HF3.out (fun j hj e => by have h1 : b2 + 2 ≤ j := HN.out.lo j hj; omega)
      have hB3 : GB w3 (b2 + 1) (.slice A l.length c) (.int .i64 0) := HF3.out.blk HB.out (by omega)
      have hA3 : GB w3 b2 (.slice none 0 0) (.int .i64 0) := HF3.out.blk HA.out (by omega)
      have HN3 := As.mk hN3
      have HB3 := As.mk hB3
      have HA3 := As.mk hA3
      refine hKv.out _ _ (gb_c0 hB3) ?_
      clear hKv Kv hS hN3 hB3 hA3 c0
      refine wpP.ev (h := fun Kv hKv => ?_)
      go_wp2_with fail
      refine hKv.out _ _ (gb_c0 (((Ext.rf w3).al _).blk HB3.out)) ?_
      clear hKv Kv
      refine wpP.ev (h := fun Kv hKv => ?_)
      go_wp2_with ((at_builtin; refine app_node rfl _ _ rfl (.slice A l.length c) l ⟨kd, vl, []⟩ none 0 0 rfl rfl HN3.out.nr.1 (by omega) ?_; intro gN cN w4 hap; have HAP := As.mk (HN3.out.addLeaf (Nat.le_trans hsz HF3.out.size) hap); clear hap))
      have hf4 := HAP.out.2.1
      have hB4 : GB w4 (b2 + 1) (.slice A l.length c) (.int .i64 0) := hf4.blk HB3.out (fun e => own_ne_blk HN3.out.nr.1 HB3.out (by decide) e)
      have hA4 : GB w4 b2 (.slice none 0 0) (.int .i64 0) := hf4.blk HA3.out (fun e => own_ne_blk HN3.out.nr.1 HA3.out (by decide) e)
      have HB4 := As.mk hB4
      have HA4 := As.mk hA4
      refine hKv.out _ _ (gb_c0 hB4) ?_
      clear hKv Kv hf4 hB4 hA4
      repeat (first | refine wpP.c0 (h := ?_))
      refine wpP.last (h := fun Kv hKv => ?_)
      have d0 := gb_c0 HB4.out; have e0 := gb_fz HB4.out 0
      go_wp2_with fail
      refine hKv.out _ _ (wpP.done ?_)
      clear hKv Kv d0 e0
      have HNX : As (SgA w g p b2 (b2 + 1) n0 (k - 1) (w4.setCell ⟨b2 + 1, 0, none⟩ (.slice (some ⟨gN, 0, none⟩) (l.length + 1) cN))) := ⟨by
        have hs : Fr (fun j => j = b2 + 1) w4 (w4.setCell ⟨b2 + 1, 0, none⟩ (.slice (some ⟨gN, 0, none⟩) (l.length + 1) cN)) := Fr.set (S := fun j => j = b2 + 1) w4 _ rfl
        have hll : (l ++ [((⟨kd, vl, []⟩ : Nd), (Value.slice none 0 0))]).length = l.length + 1 := by simp
        have hn4 := HAP.out.1
        have hb4 : GB (w4.setCell ⟨b2 + 1, 0, none⟩ (.slice (some ⟨gN, 0, none⟩) (l.length + 1) cN)) (b2 + 1) (.slice (some ⟨gN, 0, none⟩) (l.length + 1) cN) (.int .i64 0) := by
          have h' : w4.heap[b2 + 1]? = _ := HB4.out
          simp [GB, World.setCell, Array.getElem?_modify, h']
        have hfr4 : Fr (fun j => j = g) w w4 := (HFR.out.trans HF3.out).then HAP.out.2.1 (fun j hj => .inr (by have h1 : b2 + 2 ≤ j := HN.out.lo j (.inl hj); omega))
        refine ⟨some ⟨gN, 0, none⟩, cN, l ++ [(⟨kd, vl, []⟩, .slice none 0 0)], q3, hs.blk HA4.out (by omega), by rw [hll]; exact hb4, by rw [hll, List.map_append]; exact hn4.fr hs (fun j hj e => by rw [e] at hj; exact hn4.nb HB4.out hj), fun x hx => ?_, by rw [hll]; omega, by rw [hll]; omega, (HRD3.out.fr HAP.out.2.1 (fun j hj => by have h1 : b2 + 2 ≤ j := HN.out.lo j (.inl hj); omega)).fr hs (fun j hj => by omega), Nat.le_trans (Nat.le_trans hsz HF3.out.size) (Nat.le_trans HAP.out.2.1.size hs.size), hfr4.then hs (fun j hj => .inr (by omega))⟩
        rcases List.mem_append.1 hx with hx | hx
        · exact HL.out x hx
        · rw [List.mem_singleton] at hx; subst hx; exact ⟨⟨HSN.out, rfl⟩, rfl⟩⟩
      clear HAP HB4 HA4 HN3 HB3 HA3 HRD3 HF3 HSN
      go_wp2_with fail
      go_roundw
      case measure => simp only [intOf]; omega
      case rel => exact ⟨k - 1, by omega, by omega, by go_num, HNX⟩
    · have q9 : k ≤ 0 := by omega
      have hl1 : 1 ≤ l.length := by omega
      have hl10 : l.length ≤ 10 := by omega
      have e1 := gb_fz HB.out 1
      have c1 := gb_c1 HB.out
      go_upto_region 8 with fail
      have HNX : As (SgB w g p b2 (b2 + 1) 0 (wr.setCell ⟨b2 + 1, 1, none⟩ (.int .i64 ((l.length : Int) - 1)))) := ⟨by
        have hs : Fr (fun j => j = b2 + 1) wr (wr.setCell ⟨b2 + 1, 1, none⟩ (.int .i64 ((l.length : Int) - 1))) := Fr.set (S := fun j => j = b2 + 1) wr _ rfl
        have hb4 : GB (wr.setCell ⟨b2 + 1, 1, none⟩ (.int .i64 ((l.length : Int) - 1))) (b2 + 1) (.slice A l.length c) (.int .i64 ((l.length : Int) - 1)) := by
          have h' : wr.heap[b2 + 1]? = _ := HB.out
          simp [GB, World.setCell, Array.getElem?_modify, h']
        have hml : (l.map Prod.fst).length = l.length := by simp
        refine ⟨A, c, l, l.map Prod.fst, (l.length : Int) - 1, q, hs.blk HA.out (by omega), by rw [hml]; exact hb4, by rw [hml]; exact HN.out.fr hs (fun j hj e => by rw [e] at hj; exact HN.out.nb HB.out hj), fun j x _ hx => (HL.out x (List.mem_of_getElem? hx)).2, leaf_vg (fun x hx => (HL.out x hx).1) hl1 (by omega), Nat.zero_le _, by omega, HRD.out.fr hs (fun j hj => by omega), Nat.le_trans hsz hs.size, HFR.out.then hs (fun j hj => .inr (by omega))⟩⟩
      generalize wr.setCell ⟨b2 + 1, 1, none⟩ (.int .i64 ((l.length : Int) - 1)) = w5 at HNX ⊢
      clear c0 c1 e1 HA HB HN HL HRD HFR hlk1 hl1 hl10 q9 hk hk0 hk4 hsz hq
      go_loopw [5] (fun i wi => ∃ m : Nat, m ≤ 12 ∧ i = .int .i64 m ∧ As (SgB w g p b2 (b2 + 1) m wi)) (fun i _ => 13 - (intOf i).toNat)
      case atStart => exact ⟨0, by omega, rfl, HNX⟩
      case round =>
        obtain ⟨m, hm, rfl, hst⟩ := hrel
        obtain ⟨A', c', l', ns, r, q', ha, hb, hn, hl, hvg, hmn, hq, hrd, hsz, hfr⟩ := hst.out
        have HA := As.mk ha
        have HB := As.mk hb
        have HN := As.mk hn
        have HL := As.mk hl
        have HVG := As.mk hvg
        have HRD := As.mk hrd
        have HFR := As.mk hfr
        have hn12 := hvg.hi
        have hn1 := hvg.lo
        clear hst ha hb hn hl hvg hrd hfr HNX
        have c0 := gb_c0 HB.out; have c1 := gb_c1 HB.out
        by_cases hlt : m < ns.length
        · have q1 : (m : Int) < ns.length := by omega
          have hnil : ∀ (h : m < l'.length), l'[m].2 = .slice none 0 0 := fun h => HL.out m _ (Nat.le_refl _) (List.getElem?_eq_getElem h)
          have HAK := As.mk (addKids_c HN.out HVG.out HRD.out (by omega) (by omega) hsz m hlt hnil)
          clear hnil
          go_wp2_with (go_at_call 129; refine HAK.out.mono ?_; rintro e w6 ⟨rfl, l6, ns6, hs6, hn6, hl6, hv6, ⟨q6, hq6, hrd6⟩, hfr6⟩; have HN6 := As.mk (And.intro hs6 (And.intro hn6 (And.intro hl6 (And.intro hv6 hrd6)))); have HF6 := As.mk hfr6; have hb6 := hfr6.blk HB.out (by omega); have HB6 : As (GB w6 (b2 + 1) (.slice A' ns.length c') (.int .i64 r)) := ⟨hb6⟩; have d0 := gb_c0 HB6.out; have d1 := gb_c1 HB6.out; have e0 := gb_fz HB6.out 0; have e1 := gb_fz HB6.out 1; clear hs6 hn6 hl6 hv6 hrd6 hfr6 hb6)
          have HNX : As (SgB w g p b2 (b2 + 1) (m + 1) ((w6.setCell ⟨b2 + 1, 0, none⟩ (.slice A' ns.length c')).setCell ⟨b2 + 1, 1, none⟩ (.int .i64 r))) := ⟨by
            obtain ⟨hs6, hn6, hl6, hv6, hrd6⟩ := HN6.out
            have hs : Fr (fun j => j = b2 + 1) w6 ((w6.setCell ⟨b2 + 1, 0, none⟩ (.slice A' ns.length c')).setCell ⟨b2 + 1, 1, none⟩ (.int .i64 r)) := (Fr.set (S := fun j => j = b2 + 1) w6 _ (p := ⟨b2 + 1, 0, none⟩) rfl).trans (Fr.set _ _ (p := ⟨b2 + 1, 1, none⟩) rfl)
            have hz : Fr (fun j => j = g) w w6 := HFR.out.then HF6.out (fun j hj => hj.elim .inl (fun e => .inr (by omega)))
            have hb7 := gb_all (.slice A' ns.length c') (.int .i64 r) HB6.out
            refine ⟨A', c', l6, ns6, r, q6, hs.blk (HF6.out.blk HA.out (by omega)) (by omega), by rw [hl6]; exact hb7, by rw [hl6]; exact hn6.fr hs (fun j hj e => by rw [e] at hj; exact hn6.nb HB6.out hj), fun j x hj hx => HL.out j x (by omega) (by rw [← hs6 j (by omega)]; exact hx), hv6, by omega, by omega, hrd6.fr hs (fun j hj => by omega), Nat.le_trans hsz (Nat.le_trans HF6.out.size hs.size), hz.then hs (fun j hj => .inr (by omega))⟩⟩
          clear HN6 HF6 HB6 HAK
          go_roundw
          case measure => simp only [intOf]; omega
          case rel => exact ⟨m + 1, by omega, by go_num, HNX⟩
        · have q1 : ¬ (m : Int) < ns.length := by omega
          have e1 := gb_fz HB.out 1
          have HR9 : As (∀ w7 q7 r7, Rdr w7 g q7 → q7 ≤ p + 160 → Fr (fun j => j = g ∨ b2 ≤ j) wr w7 → 0 ≤ r7 ∧ r7 < (ns.length : Int) → GB w7 (b2 + 1) (.slice A' ns.length c') (.int .i64 r7) → NW (b2 + 2 ≤ ·) w7 l' (.slice A' ns.length c') ns → GB w7 b2 (.slice none 0 0) (.int .i64 0) → SgV w g p (.returned (.agg #[.slice A' ns.length c', .int .i64 r7])) ((w7.setCell ⟨b2, 0, none⟩ (.slice A' ns.length c')).setCell ⟨b2, 1, none⟩ (.int .i64 r7))) := ⟨fun w7 q7 r7 h1 h2 h3 h4 h5 h6 h7 => by
            have hs : Fr (fun j => j = b2) w7 ((w7.setCell ⟨b2, 0, none⟩ (.slice A' ns.length c')).setCell ⟨b2, 1, none⟩ (.int .i64 r7)) := (Fr.set (S := fun j => j = b2) w7 _ (p := ⟨b2, 0, none⟩) rfl).trans (Fr.set _ _ (p := ⟨b2, 1, none⟩) rfl)
            exact ⟨A', c', l', ns, r7, q7, rfl, (h6.fr hs (fun j hj e => by rw [e] at hj; exact h6.nb h7 hj)).base (fun j _ hj => by have hj : b2 + 2 ≤ j := hj; show w.heap.size ≤ j; omega), HVG.out.reroot h4.1 h4.2, h2, h1.fr hs (fun j hj => by omega), (HFR.out.then h3 (fun j hj => hj.elim .inl (fun e => .inr (by omega)))).then hs (fun j hj => .inr (by omega))⟩⟩
          have hrr := And.intro HVG.out.r0 HVG.out.r1
          have HRR := As.mk hrr
          clear hrr
          go_upto_if 39 with (go_at_call 95; refine (pick_c _ _ _ _ HRD.out (by omega) (by omega)).mono ?_; rintro e w6 ⟨x, rfl, -, -, hrd, hf⟩; have HRD6 := As.mk hrd; have HF6 := As.mk hf; clear hrd hf)
          have hb6 : GB w6 (b2 + 1) (.slice A' ns.length c') (.int .i64 r) := HF6.out.blk HB.out (by omega)
          have ha6 : GB w6 b2 (.slice none 0 0) (.int .i64 0) := HF6.out.blk HA.out (by omega)
          have hn6 : NW (b2 + 2 ≤ ·) w6 l' (.slice A' ns.length c') ns := HN.out.fr HF6.out (fun j hj e => by have h1 : b2 + 2 ≤ j := HN.out.lo j hj; omega)
          have HB6 := As.mk hb6
          have HA6 := As.mk ha6
          have HN6 := As.mk hn6
          have hq6 : q' + 1 ≤ p + 158 := by omega
          clear hb6 ha6 hn6 c0 c1 e1 HB HA HN HRD HFR HL
          have c0 := gb_c0 HB6.out; have c1 := gb_c1 HB6.out
          rcases bceq x 0 with rfl | hx0
          · have e1 := gb_fz HB6.out 1
            go_upto_region 13 with (go_at_call 95; refine (pick_c _ _ _ _ HRD6.out (by omega) (by omega)).mono ?_; rintro e w7 ⟨y, rfl, hy0, hy1, hrd, hf⟩; have HRD7 := As.mk hrd; have HF7 := As.mk hf; have HY := As.mk (show 0 ≤ y ∧ y < (ns.length : Int) by omega); have hb7 : GB w7 (b2 + 1) (.slice A' ns.length c') (.int .i64 r) := hf.blk HB6.out (by omega); have HB7 := As.mk hb7; clear c0 c1 e1; have c0 := gb_c0 HB7.out; have c1 := gb_c1 HB7.out; have e1 := gb_fz HB7.out 1; clear hrd hf hy0 hy1 hb7)
            have hs : Fr (fun j => j = b2 + 1) w7 (w7.setCell ⟨b2 + 1, 1, none⟩ (.int .i64 y)) := Fr.set (S := fun j => j = b2 + 1) w7 _ rfl
            have hb8 : GB (w7.setCell ⟨b2 + 1, 1, none⟩ (.int .i64 y)) (b2 + 1) (.slice A' ns.length c') (.int .i64 y) := by
              have h' : w7.heap[b2 + 1]? = _ := HB7.out
              simp [GB, World.setCell, Array.getElem?_modify, h']
            have hn7 : NW (b2 + 2 ≤ ·) w7 l' (.slice A' ns.length c') ns := HN6.out.fr HF7.out (fun j hj e => by have h1 : b2 + 2 ≤ j := HN6.out.lo j hj; omega)
            have ha7 : GB w7 b2 (.slice none 0 0) (.int .i64 0) := HF7.out.blk HA6.out (by omega)
            have HB8 := As.mk hb8
            have HN8 := As.mk (hn7.fr hs (fun j hj e => by have h1 : b2 + 2 ≤ j := hn7.lo j hj; omega))
            have HA8 : As (GB (w7.setCell ⟨b2 + 1, 1, none⟩ (.int .i64 y)) b2 (.slice none 0 0) (.int .i64 0)) := ⟨hs.blk ha7 (by omega)⟩
            have HRD8 := As.mk (HRD7.out.fr hs (fun j hj => by omega))
            have HF8 : As (Fr (fun j => j = g ∨ b2 ≤ j) wr (w7.setCell ⟨b2 + 1, 1, none⟩ (.int .i64 y))) := ⟨((HF6.out.trans HF7.out).mono (fun j hj => .inl hj)).trans (hs.mono (fun j hj => .inr (by omega)))⟩
            clear c0 c1 e1 hs hb8 hn7 ha7
            generalize w7.setCell ⟨b2 + 1, 1, none⟩ (.int .i64 y) = w8 at HB8 HN8 HA8 HRD8 HF8 ⊢
            have d0 := gb_c0 HB8.out; have d1 := gb_c1 HB8.out
            have s0 := gb_c0 HA8.out; have s1 := gb_c1 HA8.out; have t0 := gb_fz HA8.out 0; have t1 := gb_fz HA8.out 1
            go_wp2_with fail
            refine bodyPost_ret (results_cell rfl _ _ b2 _ rfl (loadG (gb_all _ _ HA8.out))) rfl ?_
            exact HR9.out w8 (q' + 1 + 1) y HRD8.out (by omega) HF8.out HY.out HB8.out HN8.out HA8.out
          · clear c0 c1
            have d0 := gb_c0 HB6.out; have d1 := gb_c1 HB6.out
            have s0 := gb_c0 HA6.out; have s1 := gb_c1 HA6.out; have t0 := gb_fz HA6.out 0; have t1 := gb_fz HA6.out 1
            go_wp2_with fail
            refine bodyPost_ret (results_cell rfl _ _ b2 _ rfl (loadG (gb_all _ _ HA6.out))) rfl ?_
            exact HR9.out w6 (q' + 1) r HRD6.out (by omega) (HF6.out.mono (fun j hj => .inl hj)) HRR.out HB6.out HN6.out HA6.out
end Go.Proofs.Ytgenllcfpjgklaa.C
