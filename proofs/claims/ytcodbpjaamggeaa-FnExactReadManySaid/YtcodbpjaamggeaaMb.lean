/- The reference's machine: what changes the machine. -/
import Derived.Test.YtcodbpjaamggeaaMa
import Derived.Test.YtcodbpjaamggeaaCv
set_option linter.unusedVariables false
set_option linter.unusedSimpArgs false
namespace Go.Proofs.Ytcodbpjaamggeaa.C
open Go.RowKit Go.Proofs.Ytcodbpjaamggeaa.W Go.Proofs.Ytcodbpjaamggeaa.P

def addN (m : Mc) (n : Nd) : Mc := { m with nodes := m.nodes ++ [n] }
def addS (m : Mc) (i : Int) : Mc := { m with stack := m.stack ++ [i] }
def pushN (m : Mc) (kind val : Int) (kids : List Int) : Mc := addS (addN m ⟨kind, val, kids⟩) (m.nodes.length : Int)
/-- Things for the walk out of a machine's block. -/
theorem MB.fr {S : Nat → Prop} {w w' : World} {g : Nat} {vN vS vM : Value} {d : Bool} (h : MB w g vN vS vM d) (hf : Fr S w w') (hn : ¬ S g) : MB w' g vN vS vM d := hf.blk h hn
/-- A node was put at the end. -/
theorem MR.addN {B w w2 g l vN vS vM m} (h : MR B w g l vN vS vM m) (n : Nd) (A2 : Option Addr) (n2 c2 gN cN : Nat) (hap : AppN vN l (l ++ [(n, .slice A2 n2 c2)]) w gN cN w2) (hK : IR w (.slice A2 n2 c2) n.kids) (hkl : n.kids.length ≤ 1000000000000)
    (hlo : ∀ k, (Value.slice A2 n2 c2).ownBlock = some k → B k) (hk : ∀ p ∈ l, Apart p.2 (.slice A2 n2 c2)) (hS : Apart (.slice A2 n2 c2) vS) (hM : Apart (.slice A2 n2 c2) vM) :
    MR B (w2.setCell ⟨g, 0, none⟩ (.slice (some ⟨gN, 0, none⟩) (l.length + 1) cN)) g (l ++ [(n, .slice A2 n2 c2)]) (.slice (some ⟨gN, 0, none⟩) (l.length + 1) cN) vS vM (addN m n) ∧ Fr (Foot g l vN vS vM) w (w2.setCell ⟨g, 0, none⟩ (.slice (some ⟨gN, 0, none⟩) (l.length + 1) cN)) := by
  obtain ⟨a1, a2, a3, a4, _⟩ := hap
  have hs : (l ++ [(n, Value.slice A2 n2 c2)]).length = l.length + 1 := by simp
  rw [hs] at a1
  have hmb : MB w2 g vN vS vM m.done := a2.blk h.mb (fun e => own_ne_blk h.nr.1 h.mb (by decide) e)
  have hf := Fr.set (S := fun k => k = g) w2 (.slice (some ⟨gN, 0, none⟩) (l.length + 1) cN) (p := ⟨g, 0, none⟩) rfl
  have hI : ∀ (v : Value) (x : List Int), IR w v x → IR (w2.setCell ⟨g, 0, none⟩ (.slice (some ⟨gN, 0, none⟩) (l.length + 1) cN)) v x := fun v x hv =>
    have hv2 : IR w2 v x := hv.fr a2 (fun k hk e => own_ne_type hv h.nr.1 (by decide) hk e)
    hv2.fr hf (fun k hk e => own_ne_blk hv2 hmb (by decide) (by rw [hk, e]))
  refine ⟨⟨?_, ⟨?_, fun p hp => ?_⟩, ?_, hI _ _ h.sr, hI _ _ h.me, fun k hk => ?_, ?_, fun p hp => ?_, fun p hp => ?_, h.sm, fun k hk => h.up k (Nat.le_trans a2.size (by simpa [World.setCell] using hk))⟩, (a2.mono (fun k hk => .inr (.inl hk))).trans (hf.mono (fun k hk => .inl hk))⟩
  · have h' : w2.heap[g]? = _ := hmb
    have hlt := (Array.getElem?_eq_some_iff.1 h').1
    simp [MB, World.setCell, Array.getElem?_modify, h', C.addN]
  · rw [hs]
    exact own_keep a1 (fun k hk => hf.block k (own_lt a1 hk) (fun e => own_ne_blk a1 hmb (by decide) (by rw [hk, e])))
  · rcases List.mem_append.1 hp with hp | hp
    · exact ⟨hI _ _ (h.nr.2 p hp).1, (h.nr.2 p hp).2⟩
    · rw [List.mem_singleton] at hp; subst hp; exact ⟨hI _ _ hK, hkl⟩
  · simp [C.addN, h.ns]
  · rcases hk with e | e | e | e | ⟨p, hp, e⟩
    · exact h.lo k (.inl e)
    · have e : gN = k := by simpa [Value.ownBlock] using e
      subst e
      rcases a3 with e | e
      · exact h.lo _ (.inr (.inl e))
      · exact h.up _ e
    · exact h.lo k (.inr (.inr (.inl e)))
    · exact h.lo k (.inr (.inr (.inr (.inl e))))
    · rcases List.mem_append.1 hp with hp | hp
      · exact h.lo k (.inr (.inr (.inr (.inr ⟨p, hp, e⟩))))
      · rw [List.mem_singleton] at hp; subst hp; exact hlo k e
  · rw [List.pairwise_append]
    refine ⟨h.kk, List.pairwise_singleton _ _, fun p hp q hq => ?_⟩
    rw [List.mem_singleton] at hq; subst hq
    exact hk p hp
  · rcases List.mem_append.1 hp with hp | hp
    · exact h.ks p hp
    · rw [List.mem_singleton] at hp; subst hp; exact hS
  · rcases List.mem_append.1 hp with hp | hp
    · exact h.km p hp
    · rw [List.mem_singleton] at hp; subst hp; exact hM
/-- A thing was put on the stack. -/
theorem MR.addS {B w w2 g l vN vS vM m} (h : MR B w g l vN vS vM m) (i : Int) (gS cS : Nat) (hap : AppI vS m.stack (m.stack ++ [i]) w gS cS w2) (n : Nat) (hn : m.stack.length = n) :
    MR B (w2.setCell ⟨g, 1, none⟩ (.slice (some ⟨gS, 0, none⟩) (n + 1) cS)) g l vN (.slice (some ⟨gS, 0, none⟩) (n + 1) cS) vM (addS m i) ∧ Fr (Foot g l vN vS vM) w (w2.setCell ⟨g, 1, none⟩ (.slice (some ⟨gS, 0, none⟩) (n + 1) cS)) := by
  subst hn
  obtain ⟨a1, a2, a3, a4, _⟩ := hap
  have hs : (m.stack ++ [i]).length = m.stack.length + 1 := by simp
  rw [hs] at a1
  have hmb : MB w2 g vN vS vM m.done := a2.blk h.mb (fun e => own_ne_blk h.sr h.mb (by decide) e)
  have hf := Fr.set (S := fun k => k = g) w2 (.slice (some ⟨gS, 0, none⟩) (m.stack.length + 1) cS) (p := ⟨g, 1, none⟩) rfl
  have hI : ∀ (v : Value) (x : List Int), IR w v x → Apart v vS → IR (w2.setCell ⟨g, 1, none⟩ (.slice (some ⟨gS, 0, none⟩) (m.stack.length + 1) cS)) v x := fun v x hv ha =>
    have hv2 : IR w2 v x := hv.fr a2 (fun k hk e => ha k hk e)
    hv2.fr hf (fun k hk e => own_ne_blk hv2 hmb (by decide) (by rw [hk, e]))
  have hfo : FreshOr vS (.slice (some ⟨gS, 0, none⟩) (m.stack.length + 1) cS) w := fresh_of a3
  refine ⟨⟨?_, ⟨?_, fun p hp => ⟨hI _ _ (h.nr.2 p hp).1 (h.ks p hp), (h.nr.2 p hp).2⟩⟩, h.ns, ?_, hI _ _ h.me h.sm.symm, fun k hk => ?_, h.kk, fun p hp => (h.ks p hp).of hfo (fun k hk => own_lt (h.nr.2 p hp).1 hk), h.km, (h.sm.symm.of hfo (fun k hk => own_lt h.me hk)).symm, fun k hk => h.up k (Nat.le_trans a2.size (by simpa [World.setCell] using hk))⟩, (a2.mono (fun k hk => .inr (.inr (.inl hk)))).trans (hf.mono (fun k hk => .inl hk))⟩
  · have h' : w2.heap[g]? = _ := hmb
    have hlt := (Array.getElem?_eq_some_iff.1 h').1
    simp [MB, World.setCell, Array.getElem?_modify, h', C.addS]
  · have hn2 : w2.ownsRow 0 96 3 vN l.length (ncs l) := own_keep h.nr.1 (fun k hk => a2.block k (own_lt h.nr.1 hk) (fun e => own_ne_type h.nr.1 h.sr (by decide) hk e))
    exact own_keep hn2 (fun k hk => hf.block k (own_lt hn2 hk) (fun e => own_ne_blk hn2 hmb (by decide) (by rw [hk, e])))
  · have h2 : IR (w2.setCell ⟨g, 1, none⟩ (.slice (some ⟨gS, 0, none⟩) (m.stack.length + 1) cS)) (.slice (some ⟨gS, 0, none⟩) (m.stack.length + 1) cS) (m.stack ++ [i]) := a1.keep (fun k hk => hf.block k (own_lt a1 hk) (fun e => own_ne_blk a1 hmb (by decide) (by rw [hk, e])))
    exact h2
  · rcases hk with e | e | e | e | ⟨p, hp, e⟩
    · exact h.lo k (.inl e)
    · exact h.lo k (.inr (.inl e))
    · have e : gS = k := by simpa [Value.ownBlock] using e
      subst e
      rcases a3 with e | e
      · exact h.lo _ (.inr (.inr (.inl e)))
      · exact h.up _ e
    · exact h.lo k (.inr (.inr (.inr (.inl e))))
    · exact h.lo k (.inr (.inr (.inr (.inr ⟨p, hp, e⟩))))
theorem MX.foot {B X w0 w g g2 l vN vS vM m} (h : MX B X w0 w g g2 l vN vS vM m) {w'} (hf : Fr (Foot g l vN vS vM) w w') : Fr (fun k => k = g ∨ (B k ∧ ¬ X k)) w w' := hf.mono (fun k hk => h.a.lo k hk)
set_option maxRecDepth 100000 in
set_option maxHeartbeats 1000000 in
theorem spush_c {B w l vN vS vM m} (h : MW B w l vN vS vM m) (kind val : Int) (vK : Value) (kids : List Int) (hK : IR w vK kids) (hkl : kids.length ≤ 1000000) (hlo : ∀ k, vK.ownBlock = some k → B k) (hka : ∀ p ∈ l, Apart p.2 vK) (hS : Apart vK vS) (hM : Apart vK vM) (hnl : m.nodes.length ≤ 1000000) (hsl : m.stack.length ≤ 1000000) (hml : m.memo.length ≤ 1000000) :
    Calls Try.prog 147 #[.agg #[vN, vS, vM, .bool m.done], .agg #[.int .i64 kind, .int .i64 val, vK]] w (MachR B (pushN m kind val kids) w) := by
  obtain ⟨AN, cN, AS, cS, AM, cM, rfl, rfl, rfl, _, _⟩ := h.rm hnl hsl hml
  obtain ⟨AK, cK, rfl, _, _⟩ := own_form hK
  have hll : m.nodes.length = l.length := by rw [← h.ns, List.length_map]
  have HX := As.mk (h.box (W := ((w.alloc (.cells #[.slice AN m.nodes.length cN, .slice AS m.stack.length cS, .slice AM m.memo.length cM, .bool m.done] 64)).alloc (.cells #[.int .i64 kind, .int .i64 val, .slice AK kids.length cK] 96)).alloc (.cells #[.slice none 0 0, .slice none 0 0, .slice none 0 0, .bool false] 64)) (fun k => k = w.heap.size ∨ k = w.heap.size + 1 ∨ k = w.heap.size + 1 + 1) (g := w.heap.size) (g2 := w.heap.size + 1 + 1) ((((Ext.rf w).al _).al _).al _) (((((Ext.rf _).al _).al _)).blk (al_new _ _)) (by have := al_new ((w.alloc (.cells #[.slice AN m.nodes.length cN, .slice AS m.stack.length cS, .slice AM m.memo.length cM, .bool m.done] 64)).alloc (.cells #[.int .i64 kind, .int .i64 val, .slice AK kids.length cK] 96)) (.cells #[.slice none 0 0, .slice none 0 0, .slice none 0 0, .bool false] 64); rw [al_size, al_size] at this; exact this) (.inl rfl) (.inr (.inr rfl)) (by omega) (fun k hk => by rw [al_size, al_size, al_size]; omega))
  have HN := As.mk (show (((w.alloc (.cells #[.slice AN m.nodes.length cN, .slice AS m.stack.length cS, .slice AM m.memo.length cM, .bool m.done] 64)).alloc (.cells #[.int .i64 kind, .int .i64 val, .slice AK kids.length cK] 96)).alloc (.cells #[.slice none 0 0, .slice none 0 0, .slice none 0 0, .bool false] 64)).heap[w.heap.size + 1]? = some (.cells #[.int .i64 kind, .int .i64 val, .slice AK kids.length cK] 96 (0, 0)) from by have := ((Ext.rf _).al (.cells #[.slice none 0 0, .slice none 0 0, .slice none 0 0, .bool false] 64)).blk (al_new (w.alloc (.cells #[.slice AN m.nodes.length cN, .slice AS m.stack.length cS, .slice AM m.memo.length cM, .bool m.done] 64)) (.cells #[.int .i64 kind, .int .i64 val, .slice AK kids.length cK] 96)); rw [al_size] at this; exact this)
  have HE := As.mk ((((Ext.rf w).al (.cells #[.slice AN m.nodes.length cN, .slice AS m.stack.length cS, .slice AM m.memo.length cM, .bool m.done] 64)).al (.cells #[.int .i64 kind, .int .i64 val, .slice AK kids.length cK] 96)).al (.cells #[.slice none 0 0, .slice none 0 0, .slice none 0 0, .bool false] 64))
  have HK := As.mk (And.intro hK (And.intro hlo (And.intro hka (And.intro hS hM))))
  have HLL := As.mk hll
  clear h hK hlo hka hS hM hll
  go_enter Try.func147, Try.ntmps147
  go_upto_region 1 with fail
  obtain ⟨w1, hw1⟩ : ∃ w1, w1 = ((w.alloc (.cells #[.slice AN m.nodes.length cN, .slice AS m.stack.length cS, .slice AM m.memo.length cM, .bool m.done] 64)).alloc (.cells #[.int .i64 kind, .int .i64 val, .slice AK kids.length cK] 96)).alloc (.cells #[.slice none 0 0, .slice none 0 0, .slice none 0 0, .bool false] 64) := ⟨_, rfl⟩
  rw [← hw1] at HX HN HE ⊢
  clear hw1
  obtain ⟨g, hg⟩ : ∃ g, g = w.heap.size := ⟨_, rfl⟩
  rw [← hg] at HX HN ⊢
  clear hg
  have c0 := MB.c0 HX.out.a.mb; have b0 := MB.fz HX.out.a.mb 0
  have n0 : w1.cell? ⟨g + 1, 0, none⟩ = some (.int .i64 kind) := by simp [World.cell?, HN.out]
  have n1 : w1.cell? ⟨g + 1, 1, none⟩ = some (.int .i64 val) := by simp [World.cell?, HN.out]
  have n2 : w1.cell? ⟨g + 1, 2, none⟩ = some (.slice AK kids.length cK) := by simp [World.cell?, HN.out]
  go_upto_region 2 with ((at_builtin; refine app_node rfl _ _ rfl (.slice AN m.nodes.length cN) l ⟨kind, val, kids⟩ AK kids.length cK rfl rfl HX.out.a.nr.1 (by rw [← HLL.out]; omega) ?_; intro gN cN' w2 hap; have hb : MB w2 g _ _ _ m.done := hap.2.1.blk HX.out.a.mb (fun e => own_ne_blk HX.out.a.nr.1 HX.out.a.mb (by decide) e); have HP := As.mk hap; clear hap; have e0 := hb.c0; have f0 := hb.fz 0; clear hb))
  have had := MR.addN HX.out.a ⟨kind, val, kids⟩ AK kids.length cK gN cN' HP.out (HK.out.1.ext HE.out) (by show kids.length ≤ _; omega) (fun k hk => .inr ⟨HK.out.2.1 k hk, fun hx => by have h1 := own_lt HK.out.1 hk; have h2 := (HX.out.hx k hx).1; omega⟩) HK.out.2.2.1 HK.out.2.2.2.1 HK.out.2.2.2.2
  have HX2 := As.mk (HX.out.to had.1 (HX.out.foot had.2))
  clear had HP c0 b0 e0 f0 n0 n1 n2 HN
  generalize (w2.setCell ⟨g, 0, none⟩ (.slice (some ⟨gN, 0, none⟩) (l.length + 1) cN')) = w3 at HX2 ⊢
  clear HX w2
  have c0 := MB.c0 HX2.out.a.mb; have c1 := MB.c1 HX2.out.a.mb; have b1 := MB.fz HX2.out.a.mb 1
  have q1 : l.length ≤ 1000000 := by have := HLL.out; omega
  go_upto_region 3 with ((at_builtin; refine app_int rfl _ _ rfl (.slice AS m.stack.length cS) m.stack l.length rfl rfl HX2.out.a.sr (by omega) ?_; intro gS cS' w2 hap; have hb : MB w2 g _ _ _ m.done := hap.2.1.blk HX2.out.a.mb (fun e => own_ne_blk HX2.out.a.sr HX2.out.a.mb (by decide) e); have HP := As.mk hap; clear hap; have e0 := hb.c1; have f0 := hb.fz 1; clear hb))
  have had := MR.addS HX2.out.a l.length gS cS' HP.out m.stack.length rfl
  have HX3 := As.mk (HX2.out.to had.1 (HX2.out.foot had.2))
  clear had HP c0 c1 b1 e0 f0
  generalize (w2.setCell ⟨g, 1, none⟩ (.slice (some ⟨gS, 0, none⟩) (m.stack.length + 1) cS')) = w4 at HX3 ⊢
  clear HX2 w2
  have c0 := MB.c0 HX3.out.a.mb; have c1 := MB.c1 HX3.out.a.mb; have c2 := MB.c2 HX3.out.a.mb; have c3 := MB.c3 HX3.out.a.mb
  have d0 := MB.c0 HX3.out.r; have d1 := MB.c1 HX3.out.r; have d2 := MB.c2 HX3.out.r; have d3 := MB.c3 HX3.out.r
  have f0 := MB.fz HX3.out.r 0; have f1 := MB.fz HX3.out.r 1; have f2 := MB.fz HX3.out.r 2; have f3 := MB.fz HX3.out.r 3
  go_wp2_with fail
  have ho := HX3.out.out
  refine bodyPost_ret (results_cell rfl _ _ (g + 1 + 1) _ rfl (loadM ho.2.2)) rfl ?_
  have e : addS (addN m ⟨kind, val, kids⟩) (l.length : Int) = pushN m kind val kids := by unfold pushN; rw [HLL.out]
  rw [← e]
  exact ⟨_, _, _, _, rfl, ho.1, ho.2.1⟩
set_option maxRecDepth 100000 in
set_option maxHeartbeats 1000000 in
theorem sdrop_c {B w l vN vS vM m} (h : MW B w l vN vS vM m) (n : Nat) (hn : n ≤ m.stack.length) (hnl : m.nodes.length ≤ 1000000) (hsl : m.stack.length ≤ 1000000) (hml : m.memo.length ≤ 1000000) :
    Calls Try.prog 172 #[.agg #[vN, vS, vM, .bool m.done], .int .i64 n] w (MachR B (drop m n) w) := by
  obtain ⟨AN, cN, AS, cS, AM, cM, rfl, rfl, rfl, _, hcS⟩ := h.rm hnl hsl hml
  have HX := As.mk (h.box (W := (w.alloc (.cells #[.slice AN m.nodes.length cN, .slice AS m.stack.length cS, .slice AM m.memo.length cM, .bool m.done] 64)).alloc (.cells #[.slice none 0 0, .slice none 0 0, .slice none 0 0, .bool false] 64)) (fun k => k = w.heap.size ∨ k = w.heap.size + 1) (g := w.heap.size) (g2 := w.heap.size + 1) (((Ext.rf w).al _).al _) ((((Ext.rf _).al _)).blk (al_new _ _)) (by have := al_new (w.alloc (.cells #[.slice AN m.nodes.length cN, .slice AS m.stack.length cS, .slice AM m.memo.length cM, .bool m.done] 64)) (.cells #[.slice none 0 0, .slice none 0 0, .slice none 0 0, .bool false] 64); rw [al_size] at this; exact this) (.inl rfl) (.inr rfl) (by omega) (fun k hk => by rw [al_size, al_size]; omega))
  have hs := slice_toI AS m.stack.length cS n hn hcS
  clear h
  go_enter Try.func172, Try.ntmps172
  go_upto_region 1 with fail
  obtain ⟨w1, hw1⟩ : ∃ w1, w1 = (w.alloc (.cells #[.slice AN m.nodes.length cN, .slice AS m.stack.length cS, .slice AM m.memo.length cM, .bool m.done] 64)).alloc (.cells #[.slice none 0 0, .slice none 0 0, .slice none 0 0, .bool false] 64) := ⟨_, rfl⟩
  rw [← hw1] at HX ⊢
  clear hw1
  obtain ⟨g, hg⟩ : ∃ g, g = w.heap.size := ⟨_, rfl⟩
  rw [← hg] at HX ⊢
  clear hg
  have c1 := MB.c1 HX.out.a.mb; have b1 := MB.fz HX.out.a.mb 1
  go_upto_region 2 with fail
  have hcut := HX.out.a.cut (w' := w1.setCell ⟨g, 1, none⟩ (.slice AS (m.stack.length - n) cS)) (m.stack.length - n) (by omega) hcS (by
    have h' : w1.heap[g]? = _ := HX.out.a.mb
    have hlt := (Array.getElem?_eq_some_iff.1 h').1
    simp [MB, World.setCell, Array.getElem?_modify, h']) (Fr.set _ _ rfl)
  have HX2 : As (MX B _ w _ g (g + 1) l (.slice AN m.nodes.length cN) (.slice AS (m.stack.length - n) cS) (.slice AM m.memo.length cM) (drop m n)) := ⟨HX.out.to hcut ((Fr.set (S := fun k => k = g) w1 _ (p := ⟨g, 1, none⟩) rfl).mono (fun k hk => .inl hk))⟩
  clear hcut c1 b1 hs HX
  generalize (w1.setCell ⟨g, 1, none⟩ (.slice AS (m.stack.length - n) cS)) = w4 at HX2 ⊢
  have c0 := MB.c0 HX2.out.a.mb; have c1 := MB.c1 HX2.out.a.mb; have c2 := MB.c2 HX2.out.a.mb; have c3 := MB.c3 HX2.out.a.mb
  have d0 := MB.c0 HX2.out.r; have d1 := MB.c1 HX2.out.r; have d2 := MB.c2 HX2.out.r; have d3 := MB.c3 HX2.out.r
  have f0 := MB.fz HX2.out.r 0; have f1 := MB.fz HX2.out.r 1; have f2 := MB.fz HX2.out.r 2; have f3 := MB.fz HX2.out.r 3
  go_wp2_with fail
  have ho := HX2.out.out
  refine bodyPost_ret (results_cell rfl _ _ (g + 1) _ rfl (loadM ho.2.2)) rfl ?_
  exact ⟨_, _, _, _, rfl, ho.1, ho.2.1⟩
/-- The memo of a new machine while it is filled. -/
def MNewAt (w : World) (g k : Nat) (wr : World) : Prop := ∃ A c, MB wr (g + 1) (.slice none 0 0) (.slice none 0 0) (.slice A k c) false ∧ MB wr g (.slice none 0 0) (.slice none 0 0) (.slice none 0 0) false ∧ IR wr (.slice A k c) (List.replicate k (-1)) ∧ Ext w wr ∧ Fresh (.slice A k c) w ∧ w.heap.size ≤ g
theorem mnewAt_next {w wr w2 : World} {g k : Nat} {A : Option Addr} {c gP cP : Nat} (h1 : MB wr (g + 1) (.slice none 0 0) (.slice none 0 0) (.slice A k c) false) (h2 : MB wr g (.slice none 0 0) (.slice none 0 0) (.slice none 0 0) false) (h3 : IR wr (.slice A k c) (List.replicate k (-1))) (h4 : Ext w wr) (h5 : Fresh (.slice A k c) w) (h6 : w.heap.size ≤ g)
    (hap : AppI (.slice A k c) (List.replicate k (-1)) (List.replicate k (-1) ++ [-1]) wr gP cP w2) : MNewAt w g (k + 1) (w2.setCell ⟨g + 1, 2, none⟩ (.slice (some ⟨gP, 0, none⟩) (k + 1) cP)) := by
  obtain ⟨a1, a2, a3, a4, _⟩ := hap
  have hs : (List.replicate k (-1 : Int) ++ [-1]).length = k + 1 := by simp
  rw [hs] at a1
  have hb1 : MB w2 (g + 1) _ _ _ false := a2.blk h1 (fun e => own_ne_blk h3 h1 (by decide) e)
  have hb2 : MB w2 g _ _ _ false := a2.blk h2 (fun e => own_ne_blk h3 h2 (by decide) e)
  have hf := Fr.set (S := fun k => k = g + 1) w2 (.slice (some ⟨gP, 0, none⟩) (k + 1) cP) (p := ⟨g + 1, 2, none⟩) rfl
  refine ⟨some ⟨gP, 0, none⟩, cP, ?_, hf.blk hb2 (by omega), ?_, ?_, fun j hj => ?_, h6⟩
  · have h' : w2.heap[g + 1]? = _ := hb1
    have hlt := (Array.getElem?_eq_some_iff.1 h').1
    simp [MB, World.setCell, Array.getElem?_modify, h']
  · rw [← List.replicate_succ'] at a1
    exact a1.keep (fun j hj => hf.block j (own_lt a1 hj) (fun e => own_ne_blk a1 hb1 (by decide) (by rw [hj, e])))
  · have e1 : Ext w w2 := (Fr.then (S := fun _ => False) (Fr.ofExt h4) a2 (fun k hk => .inr (h5 k hk))).ext (fun _ h => h.elim)
    exact e1.st (by show w.heap.size ≤ g + 1; omega) _
  · have hj2 : gP = j := by simpa [Value.ownBlock] using hj
    subst hj2
    rcases a3 with e | e
    · exact h5 _ e
    · exact Nat.le_trans h4.size e
set_option maxRecDepth 100000 in
set_option maxHeartbeats 1000000 in
theorem newMachine_c (w : World) : Calls Try.prog 107 #[] w fun e w' => ∃ l vN vS vM, e = .returned (.agg #[vN, vS, vM, .bool false]) ∧ MW (w.heap.size ≤ ·) w' l vN vS vM newM ∧ Ext w w' := by
  go_enter Try.func107, Try.ntmps107
  go_upto_region 2 with fail
  have h0 : MNewAt w w.heap.size 0 ((w.alloc (.cells #[.slice none 0 0, .slice none 0 0, .slice none 0 0, .bool false] 64)).alloc (.cells #[.slice none 0 0, .slice none 0 0, .slice none 0 0, .bool false] 64)) := by
    have h1 := al_new (w.alloc (.cells #[.slice none 0 0, .slice none 0 0, .slice none 0 0, .bool false] 64)) (.cells #[.slice none 0 0, .slice none 0 0, .slice none 0 0, .bool false] 64)
    rw [al_size] at h1
    exact ⟨none, 0, h1, ((Ext.rf _).al _).blk (al_new _ _), IR.nil _, ((Ext.rf _).al _).al _, fun k hk => by simp [Value.ownBlock] at hk, Nat.le_refl _⟩
  have H0 := As.mk h0
  generalize (w.alloc (.cells #[.slice none 0 0, .slice none 0 0, .slice none 0 0, .bool false] 64)).alloc (.cells #[.slice none 0 0, .slice none 0 0, .slice none 0 0, .bool false] 64) = w1 at H0 ⊢
  obtain ⟨g, hg⟩ : ∃ g, g = w.heap.size := ⟨_, rfl⟩
  rw [← hg] at H0 ⊢
  clear h0 hg
  go_upto_region 3 with fail
  go_loopw [2] (fun i wr => ∃ k : Nat, k ≤ 20 ∧ i = .int .i64 k ∧ As (MNewAt w g k wr)) (fun i _ => 20 - (intOf i).toNat)
  case atStart => exact ⟨0, Nat.zero_le _, rfl, H0⟩
  case round =>
    obtain ⟨k, hk, rfl, hst⟩ := hrel
    obtain ⟨A, c, h1, h2, h3, h4, h5, h6⟩ := hst.out
    have HB1 := As.mk h1
    have HH := As.mk (And.intro h2 (And.intro h3 (And.intro h4 (And.intro h5 h6))))
    clear hst h1 h2 h3 h4 h5 h6 H0
    by_cases hlt : k < 20
    · have q1 : (k : Int) < 20 := by omega
      have c2 := MB.c2 HB1.out
      go_wp2_with ((at_builtin; refine app_int rfl _ _ rfl (.slice A k c) (List.replicate k (-1)) (-1) rfl rfl HH.out.2.1 (by simp; omega) ?_; intro gP cP w2 hap; have hb : MB w2 (g + 1) _ _ _ false := hap.2.1.blk HB1.out (fun e => own_ne_blk HH.out.2.1 HB1.out (by decide) e); have HO := As.mk (mnewAt_next HB1.out HH.out.1 HH.out.2.1 HH.out.2.2.1 HH.out.2.2.2.1 HH.out.2.2.2.2 hap); clear hap; have e2 := hb.c2; have f2 := hb.fz 2; clear hb))
      go_roundw
      case measure => simp only [intOf]; omega
      case rel => exact ⟨k + 1, by omega, by go_num, HO⟩
    · have hk20 : k = 20 := by omega
      subst hk20
      have c0 := MB.c0 HB1.out; have c1 := MB.c1 HB1.out; have c2 := MB.c2 HB1.out; have c3 := MB.c3 HB1.out
      have d0 := MB.c0 HH.out.1; have d1 := MB.c1 HH.out.1; have d2 := MB.c2 HH.out.1; have d3 := MB.c3 HH.out.1
      have f0 := MB.fz HH.out.1 0; have f1 := MB.fz HH.out.1 1; have f2 := MB.fz HH.out.1 2; have f3 := MB.fz HH.out.1 3
      go_wp2_with fail
      have hb := MB.all (.slice none 0 0) (.slice none 0 0) (.slice A 20 c) false HH.out.1
      have hf := Fr.set4 (S := fun k => k = g) (w := wr) (g := g) rfl (.slice none 0 0) (.slice none 0 0) (.slice A 20 c) (.bool false)
      obtain ⟨h2, h3, h4, h5, h6⟩ := HH.out
      have hx : Ext w _ := (Fr.then (S := fun _ => False) (Fr.ofExt h4) hf (fun k hk => .inr (by omega))).ext (fun _ h => h.elim)
      refine bodyPost_ret (results_cell rfl _ _ g _ rfl (loadM hb)) rfl ?_
      refine ⟨[], _, _, _, rfl, ⟨NR.nil _, rfl, IR.nil _, h3.keep (fun k hk => hf.block k (own_lt h3 hk) (fun e => own_ne_blk h3 h2 (by decide) (by rw [hk, e]))), fun k hk => ?_, List.Pairwise.nil, by simp, by simp, fun k hk => by simp [Value.ownBlock] at hk, fun k hk => Nat.le_trans hx.size hk⟩, hx⟩
      rcases hk with e | e | e | ⟨p, hp, _⟩
      · simp [Value.ownBlock] at e
      · simp [Value.ownBlock] at e
      · exact h5 k e
      · simp at hp
def markP (m : Mc) : Int := if topN m.stack = m.stack.length then -1 else (m.stack.length : Int) - 1 - topN m.stack
set_option maxRecDepth 100000 in
set_option maxHeartbeats 1000000 in
theorem markAt_c (AN AS AM : Option Addr) (nN cN cS nM cM : Nat) (m : Mc) (w : World) (hS : RdI w AS m.stack) (hsl : m.stack.length ≤ 1000) :
    Calls Try.prog 171 #[.agg #[.slice AN nN cN, .slice AS m.stack.length cS, .slice AM nM cM, .bool m.done]] w fun e w' => e = .returned (.int .i64 (markP m)) ∧ Ext w w' := by
  obtain ⟨s, hs⟩ : ∃ s, s = m.stack := ⟨_, rfl⟩
  have HMP : As (markP m = if topN s = s.length then -1 else (s.length : Int) - 1 - topN s) := ⟨by rw [hs]; rfl⟩
  rw [← hs] at hS hsl ⊢
  have HS := As.mk hS
  clear hS hs
  go_enter Try.func171, Try.ntmps171
  go_upto_region 1 with fail
  have hb := al_new w (.cells #[.slice AN nN cN, .slice AS s.length cS, .slice AM nM cM, .bool m.done] 64)
  have HE := As.mk ((Ext.rf w).al (.cells #[.slice AN nN cN, .slice AS s.length cS, .slice AM nM cM, .bool m.done] 64))
  generalize w.alloc (.cells #[.slice AN nN cN, .slice AS s.length cS, .slice AM nM cM, .bool m.done] 64) = w1 at hb HE ⊢
  generalize w.heap.size = g at hb ⊢
  have c1 := MB.c1 hb
  clear hb
  go_upto_region 2 with fail
  go_loop [3] (fun a => ∃ j : Int, -1 ≤ j ∧ j < s.length ∧ a = .int .i64 j ∧ As (((s.length : Int) - 1 - j).toNat ≤ topN s)) (fun a => (intOf a + 1).toNat)
  case atStart => exact ⟨(s.length : Int) - 1, by omega, by omega, rfl, ⟨by simp⟩⟩
  case round =>
    obtain ⟨j, hj1, hj2, rfl, hn⟩ := hrel
    rcases (show 0 ≤ j ∨ j = -1 by omega) with h0 | h0
    · obtain ⟨k, rfl⟩ := Int.eq_ofNat_of_zero_le h0
      have hkl : k < s.length := by omega
      obtain ⟨ad, rfl, h1⟩ := (HS.out.ext HE.out).2 k hkl
      obtain ⟨z, hz⟩ : ∃ z, z = s[k] := ⟨_, rfl⟩
      rw [← hz] at h1
      have hd : ((s.length : Int) - 1 - k).toNat = s.length - 1 - k := by omega
      have hn2 := hn.out
      rw [hd] at hn2
      have HN2 := As.mk hn2
      have HZ := As.mk hz
      have hz2 : s[s.length - 1 - (s.length - 1 - k)]'(by omega) = z := by rw [hz]; congr 1; omega
      have HZ2 := As.mk hz2
      clear hd hn2 hz hz2 hn
      rcases (show z < 0 ∨ 0 ≤ z by omega) with z0 | z0
      · have he := topN_end s (s.length - 1 - k) HN2.out (by omega) (by rw [HZ2.out]; exact z0)
        have hm : markP m = k := by rw [HMP.out, he, if_neg (by omega)]; omega
        have HM := As.mk hm
        clear he hm
        go_wp2_with fail
        go_ret
        exact ⟨ret_int HM.out.symm, HE.out⟩
      · have he := topN_step s (s.length - 1 - k) HN2.out (by omega) (by rw [HZ2.out]; exact z0)
        have HE2 := As.mk he
        clear he
        go_wp2_with fail
        go_round
        case measure => simp only [intOf]; omega
        case rel => exact ⟨(k : Int) - 1, by omega, by omega, rfl, ⟨by have := HE2.out; omega⟩⟩
    · subst h0
      have hm : markP m = -1 := by
        have h1 := hn.out
        have h2 := topN_le s
        rw [HMP.out, if_pos (by omega)]
      have HM := As.mk hm
      clear hm hn
      go_wp2_with fail
      go_ret
      exact ⟨ret_int HM.out.symm, HE.out⟩
end Go.Proofs.Ytcodbpjaamggeaa.C
