/- Rows of nodes that are owned; graphs in memory; the law's own functions on graphs. -/
import Derived.Test.YtcodbpjaamggeaaNc
set_option linter.unusedVariables false
set_option linter.unusedSimpArgs false
namespace Go.Proofs.Ytcodbpjaamggeaa.C
open Go.RowKit Go.Proofs.Ytcodbpjaamggeaa.W Go.Proofs.Ytcodbpjaamggeaa.P

def FG (vN : Value) (l : List (Nd × Value)) (k : Nat) : Prop := vN.ownBlock = some k ∨ ∃ p ∈ l, p.2.ownBlock = some k
/-- Nodes; their rows lie in blocks of B. -/
structure NW (B : Nat → Prop) (w : World) (l : List (Nd × Value)) (vN : Value) (ns : List Nd) : Prop where
  nr : NR w vN l
  ns : l.map Prod.fst = ns
  lo : ∀ k, FG vN l k → B k
  kk : l.Pairwise (fun p q => Apart p.2 q.2)
theorem NW.lt {B w l vN ns} (h : NW B w l vN ns) (k : Nat) (hk : FG vN l k) : k < w.heap.size := by
  rcases hk with hk | ⟨p, hp, hk⟩
  · exact own_lt h.nr.1 hk
  · exact own_lt (h.nr.2 p hp).1 hk
theorem NW.keep {B w w' l vN ns} (h : NW B w l vN ns) (hk : ∀ k, FG vN l k → w'.heap[k]? = w.heap[k]?) : NW B w' l vN ns := ⟨h.nr.keep hk, h.ns, h.lo, h.kk⟩
theorem NW.ext {B w w' l vN ns} (h : NW B w l vN ns) (e : Ext w w') : NW B w' l vN ns := h.keep (fun k hk => e.block k (h.lt k hk))
theorem NW.fr {B S : Nat → Prop} {w w' l vN ns} (h : NW B w l vN ns) (e : Fr S w w') (hn : ∀ k, FG vN l k → ¬ S k) : NW B w' l vN ns := h.keep (fun k hk => e.block k (h.lt k hk) (hn k hk))
theorem NW.base {B B' : Nat → Prop} {w l vN ns} (h : NW B w l vN ns) (h1 : ∀ k, k < w.heap.size → B k → B' k) : NW B' w l vN ns := ⟨h.nr, h.ns, fun k hk => h1 k (h.lt k hk) (h.lo k hk), h.kk⟩
/-- No row of the nodes is a block of graphs. -/
theorem NW.nb {B w l vN ns} (h : NW B w l vN ns) {g : Nat} {a b : Value} (hb : GB w g a b) : ¬ FG vN l g := by
  rintro (e | ⟨p, hp, e⟩)
  · exact own_ne_blk h.nr.1 hb (by decide) e
  · exact own_ne_blk (h.nr.2 p hp).1 hb (by decide) e
theorem NW.nil (B : Nat → Prop) (w : World) : NW B w [] (.slice none 0 0) [] := ⟨NR.nil _, rfl, fun k hk => by
  rcases hk with e | ⟨p, hp, _⟩
  · simp [Value.ownBlock] at e
  · simp at hp, List.Pairwise.nil⟩
theorem NW.al1 {B w l vN ns} (h : NW B w l vN ns) (o : Obj) : NW (fun k => B k ∧ k ≠ w.heap.size) (w.alloc o) l vN ns := by
  have h1 := h.ext ((Ext.rf w).al o)
  exact ⟨h1.nr, h1.ns, fun k hk => ⟨h.lo k hk, by have := h.lt k hk; omega⟩, h1.kk⟩
theorem NW.rd {B w l A n c ns} (h : NW B w l (.slice A n c) ns) (hl : ns.length ≤ 1000000) : RdN w A ns := by
  have hln : l.length = ns.length := by rw [← h.ns, List.length_map]
  obtain ⟨A', c', hv, _, hr⟩ := h.nr.rd (by omega)
  injection hv with hv
  rw [hv, ← h.ns]; exact hr
theorem MW.nw {B w l vN vS vM m} (h : MW B w l vN vS vM m) : NW B w l vN m.nodes := ⟨h.nr, h.ns, fun k hk => h.lo k (hk.elim .inl (fun e => .inr (.inr (.inr e)))), h.kk⟩

set_option maxRecDepth 100000 in
set_option maxHeartbeats 1000000 in
theorem eqGraph_t (A B : Option Addr) (cA cB : Nat) (l : List Nd) (r : Int) (w : World) (hA : RdN w A l) (hB : RdN w B l) :
    Calls Try.prog 55 #[.agg #[.slice A l.length cA, .int .i64 r], .agg #[.slice B l.length cB, .int .i64 r]] w fun e w' => e = .returned (.bool true) ∧ Ext w w' := by
  have HA := As.mk hA
  have HB := As.mk hB
  clear hA hB
  go_enter Try.func55, Try.ntmps55
  go_upto_region 1 with fail
  have hx : Ext w ((w.alloc (.cells #[.slice A l.length cA, .int .i64 r] 58)).alloc (.cells #[.slice B l.length cB, .int .i64 r] 58)) := ((Ext.rf w).al _).al _
  have ha : GB ((w.alloc (.cells #[.slice A l.length cA, .int .i64 r] 58)).alloc (.cells #[.slice B l.length cB, .int .i64 r] 58)) w.heap.size (.slice A l.length cA) (.int .i64 r) := ((Ext.rf (w.alloc (.cells #[.slice A l.length cA, .int .i64 r] 58))).al (.cells #[.slice B l.length cB, .int .i64 r] 58)).blk (al_new w (.cells #[.slice A l.length cA, .int .i64 r] 58))
  have hb : GB ((w.alloc (.cells #[.slice A l.length cA, .int .i64 r] 58)).alloc (.cells #[.slice B l.length cB, .int .i64 r] 58)) (w.heap.size + 1) (.slice B l.length cB) (.int .i64 r) := by have := al_new (w.alloc (.cells #[.slice A l.length cA, .int .i64 r] 58)) (.cells #[.slice B l.length cB, .int .i64 r] 58); rw [al_size] at this; exact this
  have HX := As.mk hx
  have HMA := As.mk ha
  have HMB := As.mk hb
  clear ha hb hx
  generalize (w.alloc (.cells #[.slice A l.length cA, .int .i64 r] 58)).alloc (.cells #[.slice B l.length cB, .int .i64 r] 58) = w0 at HX HMA HMB ⊢
  generalize w.heap.size = g at HMA HMB ⊢
  have a0 := gb_c0 HMA.out; have b0 := gb_c0 HMB.out
  go_upto_region 3 with (go_at_call 110; refine (eqNodeS_t _ _ _ _ _ _ (HA.out.ext HX.out) (HB.out.ext HX.out)).mono ?_; rintro e w1 ⟨rfl, he⟩; have HX' := As.mk (HX.out.trans he); have HMA' := As.mk (he.blk HMA.out); have HMB' := As.mk (he.blk HMB.out); clear he)
  clear HX HMA HMB a0 b0
  have a1 := gb_c1 HMA'.out; have b1 := gb_c1 HMB'.out
  go_wp2_with fail
  go_ret
  exact ⟨rfl, HX'.out⟩
set_option maxRecDepth 100000 in
set_option maxHeartbeats 4000000 in
theorem markGraph_m {B l A c ns} (r q : Int) (w : World) (h : NW B w l (.slice A ns.length c) ns) (h1 : ns.length ≤ 300) (hkl : ∀ p ∈ ns, p.kids.length ≤ 100000) (h0 : 0 ≤ q) (hq : q ≤ 1000000) :
    Calls Try.prog 56 #[.agg #[.slice A ns.length c, .int .i64 r], .int .i64 q] w fun e w' => e = .returned (.int .i64 (endNd q ns)) ∧ RdN w' A (marksNd q ns) ∧ Fr B w w' := by
  have hln : ns.length = l.length := by rw [← h.ns, List.length_map]
  have hx : Ext w (w.alloc (.cells #[.slice A ns.length c, .int .i64 r] 58)) := (Ext.rf w).al _
  have hb : GB (w.alloc (.cells #[.slice A ns.length c, .int .i64 r] 58)) w.heap.size (.slice A ns.length c) (.int .i64 r) := al_new _ _
  have HV := As.mk (h.ext hx)
  have HX := As.mk hx
  have HB := As.mk hb
  have HLN := As.mk hln
  have hk2 : ∀ p ∈ l, p.1.kids.length ≤ 100000 := fun p hp => hkl p.1 (by rw [← h.ns]; exact List.mem_map.2 ⟨p, hp, rfl⟩)
  have HK2 := As.mk hk2
  have HNS := As.mk h.ns
  clear h hx hb hln hkl hk2
  go_enter Try.func56, Try.ntmps56
  go_upto_region 1 with fail
  generalize w.alloc (.cells #[.slice A ns.length c, .int .i64 r] 58) = w0 at HX HV HB ⊢
  generalize w.heap.size = g at HB ⊢
  have c0 := gb_c0 HB.out
  go_wp2_with (go_at_call 111; refine (markNodeS_m A ns.length c l q _ HV.out.nr HV.out.kk HLN.out h1 HK2.out h0 hq).mono ?_; rw [HNS.out]; rintro e w1 ⟨rfl, hmq⟩; have HMQ := As.mk hmq; clear hmq)
  go_ret
  obtain ⟨l', n1, s1, t1, fr1⟩ := HMQ.out
  have hl' : l'.length = l.length := by have := congrArg List.length s1; simpa using this
  have ht : l'.map Prod.fst = marksNd q ns := by
    rw [t1, HNS.out, List.take_length, List.drop_length, List.append_nil]
  refine ⟨rfl, ?_, (Fr.ofExt HX.out).trans (fr1.mono (fun k hk => HV.out.lo k hk))⟩
  obtain ⟨A', c', hv, _, hr⟩ := n1.rd (by have := HLN.out; omega)
  injection hv with hv
  rw [hv, ← ht]; exact hr
set_option maxRecDepth 100000 in
set_option maxHeartbeats 1000000 in
theorem heldGraph_c {A c} {ns : List Nd} (r q : Int) (w : World) (h : RdN w A (marksNd q ns)) (h1 : ns.length ≤ 300) (hkl : ∀ p ∈ ns, p.kids.length ≤ 100000) (h0 : 0 ≤ q) (hq : q ≤ 1000000) :
    Calls Try.prog 57 #[.agg #[.slice A ns.length c, .int .i64 r], .int .i64 q] w fun e w' => e = .returned (.int .i64 (endNd q ns)) ∧ Ext w w' := by
  have hx : Ext w (w.alloc (.cells #[.slice A ns.length c, .int .i64 r] 58)) := (Ext.rf w).al _
  have hb : GB (w.alloc (.cells #[.slice A ns.length c, .int .i64 r] 58)) w.heap.size (.slice A ns.length c) (.int .i64 r) := al_new _ _
  have HK := As.mk (h.ext hx)
  have HX := As.mk hx
  have HB := As.mk hb
  have HKL := As.mk hkl
  have he1 := endNd_ge ns q
  clear h hx hb hkl
  go_enter Try.func57, Try.ntmps57
  go_upto_region 1 with fail
  generalize w.alloc (.cells #[.slice A ns.length c, .int .i64 r] 58) = w0 at HX HK HB ⊢
  generalize w.heap.size = g at HB ⊢
  obtain ⟨q1, hq1⟩ : ∃ q1, q1 = endNd q ns := ⟨_, rfl⟩
  rw [← hq1] at he1
  have HQ1 := As.mk hq1
  have z0 : 0 ≤ q1 := by omega
  clear hq1 he1
  have c0 := gb_c0 HB.out
  go_wp2_with (go_at_call 112; refine (heldNodeS_c A ns.length c ns q _ HK.out rfl h1 HKL.out h0 hq).mono ?_; rw [← HQ1.out]; rintro e w1 ⟨rfl, rfl⟩)
  go_ret
  exact ⟨ret_int HQ1.out, HX.out⟩
end Go.Proofs.Ytcodbpjaamggeaa.C
