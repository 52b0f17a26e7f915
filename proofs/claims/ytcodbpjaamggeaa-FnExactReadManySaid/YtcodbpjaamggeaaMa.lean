/- The reference's machine as a value: words; the functions that only look. -/
import Derived.Test.YtcodbpjaamggeaaCo
import Derived.Test.YtcodbpjaamggeaaCv
import Derived.Test.YtcodbpjaamggeaaCq
set_option linter.unusedVariables false
set_option linter.unusedSimpArgs false
namespace Go.Proofs.Ytcodbpjaamggeaa.C
open Go.RowKit Go.Proofs.Ytcodbpjaamggeaa.W Go.Proofs.Ytcodbpjaamggeaa.P

/-- A machine as a value; its rows lie in blocks of B. -/
structure MW (B : Nat → Prop) (w : World) (l : List (Nd × Value)) (vN vS vM : Value) (m : Mc) : Prop where
  nr : NR w vN l
  ns : l.map Prod.fst = m.nodes
  sr : IR w vS m.stack
  me : IR w vM m.memo
  lo : ∀ k, (vN.ownBlock = some k ∨ vS.ownBlock = some k ∨ vM.ownBlock = some k ∨ ∃ p ∈ l, p.2.ownBlock = some k) → B k
  kk : l.Pairwise (fun p q => Apart p.2 q.2)
  ks : ∀ p ∈ l, Apart p.2 vS
  km : ∀ p ∈ l, Apart p.2 vM
  sm : Apart vS vM
  up : ∀ k, w.heap.size ≤ k → B k
theorem MW.lt {B w l vN vS vM m} (h : MW B w l vN vS vM m) (k : Nat) (hk : vN.ownBlock = some k ∨ vS.ownBlock = some k ∨ vM.ownBlock = some k ∨ ∃ p ∈ l, p.2.ownBlock = some k) : k < w.heap.size := by
  rcases hk with hk | hk | hk | ⟨p, hp, hk⟩
  · exact own_lt h.nr.1 hk
  · exact own_lt h.sr hk
  · exact own_lt h.me hk
  · exact own_lt (h.nr.2 p hp).1 hk
theorem MW.keep {B w w' l vN vS vM m} (h : MW B w l vN vS vM m) (hs : w.heap.size ≤ w'.heap.size) (hk : ∀ k, (vN.ownBlock = some k ∨ vS.ownBlock = some k ∨ vM.ownBlock = some k ∨ ∃ p ∈ l, p.2.ownBlock = some k) → w'.heap[k]? = w.heap[k]?) : MW B w' l vN vS vM m :=
  ⟨h.nr.keep (fun k hh => hk k (hh.elim .inl (fun e => .inr (.inr (.inr e))))), h.ns, h.sr.keep (fun k e => hk k (.inr (.inl e))), h.me.keep (fun k e => hk k (.inr (.inr (.inl e)))), h.lo, h.kk, h.ks, h.km, h.sm, fun k hk => h.up k (Nat.le_trans hs hk)⟩
theorem MW.ext {B w w' l vN vS vM m} (h : MW B w l vN vS vM m) (e : Ext w w') : MW B w' l vN vS vM m := h.keep e.size (fun k hk => e.block k (h.lt k hk))
theorem MW.base {B B' : Nat → Prop} {w l vN vS vM m} (h : MW B w l vN vS vM m) (h1 : ∀ k, k < w.heap.size → B k → B' k) (h2 : ∀ k, w.heap.size ≤ k → B' k) : MW B' w l vN vS vM m :=
  ⟨h.nr, h.ns, h.sr, h.me, fun k hk => h1 k (h.lt k hk) (h.lo k hk), h.kk, h.ks, h.km, h.sm, h2⟩
/-- No row of the machine is a block of machines. -/
theorem MW.nb {B w l vN vS vM m} (h : MW B w l vN vS vM m) {g : Nat} {cs : Array Value} {fr : Nat × Nat} (hb : w.heap[g]? = some (.cells cs 64 fr)) : ¬ (vN.ownBlock = some g ∨ vS.ownBlock = some g ∨ vM.ownBlock = some g ∨ ∃ p ∈ l, p.2.ownBlock = some g) := by
  rintro (e | e | e | ⟨p, hp, e⟩)
  · exact own_ne_blk h.nr.1 hb (by decide) e
  · exact own_ne_blk h.sr hb (by decide) e
  · exact own_ne_blk h.me hb (by decide) e
  · exact own_ne_blk (h.nr.2 p hp).1 hb (by decide) e
theorem MW.mr {B w g l vN vS vM m} (h : MW B w l vN vS vM m) (hb : MB w g vN vS vM m.done) (hg : B g) : MR B w g l vN vS vM m :=
  ⟨hb, h.nr, h.ns, h.sr, h.me, fun k hk => hk.elim (fun e => by rw [e]; exact hg) (fun hk => h.lo k hk), h.kk, h.ks, h.km, h.sm, h.up⟩
theorem MR.mw {B B' : Nat → Prop} {w g l vN vS vM m} (h : MR B w g l vN vS vM m) (h1 : ∀ k, k ≠ g → B k → B' k) (h2 : ∀ k, w.heap.size ≤ k → B' k) : MW B' w l vN vS vM m := by
  have hv : MW B w l vN vS vM m := ⟨h.nr, h.ns, h.sr, h.me, fun k hk => h.lo k (.inr hk), h.kk, h.ks, h.km, h.sm, h.up⟩
  exact ⟨h.nr, h.ns, h.sr, h.me, fun k hk => h1 k (fun e => hv.nb h.mb (by rw [← e]; exact hk)) (h.lo k (.inr hk)), h.kk, h.ks, h.km, h.sm, h2⟩
theorem MW.rm {B w l vN vS vM m} (h : MW B w l vN vS vM m) (h1 : m.nodes.length ≤ 1000000) (h2 : m.stack.length ≤ 1000000) (h3 : m.memo.length ≤ 1000000) : ∃ AN cN AS cS AM cM, vN = .slice AN m.nodes.length cN ∧ vS = .slice AS m.stack.length cS ∧ vM = .slice AM m.memo.length cM ∧ RM w AN AS AM m ∧ m.stack.length ≤ cS := by
  have hnl : m.nodes.length = l.length := by rw [← h.ns, List.length_map]
  have hn := h.nr.rd (by rw [← hnl]; omega)
  rw [h.ns, ← hnl] at hn
  obtain ⟨AN, cN, rfl, _, r1⟩ := hn
  obtain ⟨AS, cS, rfl, hc, r2⟩ := IR.rd h.sr (by omega)
  obtain ⟨AM, cM, rfl, _, r3⟩ := IR.rd h.me (by omega)
  exact ⟨AN, cN, AS, cS, AM, cM, rfl, rfl, rfl, ⟨r1, r2, r3⟩, hc⟩
/-- A machine comes back. -/
def MachR (B : Nat → Prop) (m' : Mc) (w : World) (e : Ending) (w' : World) : Prop := ∃ l vN vS vM, e = .returned (.agg #[vN, vS, vM, .bool m'.done]) ∧ MW B w' l vN vS vM m' ∧ Fr B w w'
/-- A machine's variable at g and the result's at g2, of a call that began in w0. -/
structure MX (B X : Nat → Prop) (w0 w : World) (g g2 : Nat) (l : List (Nd × Value)) (vN vS vM : Value) (m : Mc) : Prop where
  a : MR (fun k => k = g ∨ (B k ∧ ¬ X k)) w g l vN vS vM m
  r : MB w g2 (.slice none 0 0) (.slice none 0 0) (.slice none 0 0) false
  f : Fr B w0 w
  xg : X g
  x2 : X g2
  ne : g2 ≠ g
  hx : ∀ k, X k → w0.heap.size ≤ k ∧ k < w.heap.size
  up : ∀ k, w0.heap.size ≤ k → B k
section
variable {B X : Nat → Prop} {w0 w : World} {g g2 : Nat} {l : List (Nd × Value)} {vN vS vM : Value} {m : Mc}
/-- The machine is handed to another function. -/
theorem MX.mw (h : MX B X w0 w g g2 l vN vS vM m) : MW (fun k => B k ∧ ¬ X k) w l vN vS vM m :=
  h.a.mw (fun k hk hb => hb.elim (fun e => absurd e hk) id) (fun k hk => ⟨h.up k (Nat.le_trans h.f.size hk), fun hx => by have := (h.hx k hx).2; omega⟩)
theorem MX.ext {w'} (h : MX B X w0 w g g2 l vN vS vM m) (e : Ext w w') : MX B X w0 w' g g2 l vN vS vM m :=
  ⟨h.a.ext e, e.blk h.r, h.f.then (Fr.ofExt (S := fun _ => False) e) (fun _ h => h.elim), h.xg, h.x2, h.ne, fun k hk => ⟨(h.hx k hk).1, Nat.lt_of_lt_of_le (h.hx k hk).2 e.size⟩, h.up⟩
/-- The machine was changed where it lies. -/
theorem MX.to {w' l' vN' vS' vM' m'} (h : MX B X w0 w g g2 l vN vS vM m) (ha : MR (fun k => k = g ∨ (B k ∧ ¬ X k)) w' g l' vN' vS' vM' m') (hf : Fr (fun k => k = g ∨ (B k ∧ ¬ X k)) w w') : MX B X w0 w' g g2 l' vN' vS' vM' m' :=
  ⟨ha, hf.blk h.r (fun e => e.elim h.ne (fun e => e.2 h.x2)), h.f.trans (hf.mono (fun k hk => hk.elim (fun e => h.up k (by rw [e]; exact (h.hx g h.xg).1)) (·.1))), h.xg, h.x2, h.ne, fun k hk => ⟨(h.hx k hk).1, Nat.lt_of_lt_of_le (h.hx k hk).2 hf.size⟩, h.up⟩
/-- A block of our own that isn't the machine's stays. -/
theorem MX.other {w'} (h : MX B X w0 w g g2 l vN vS vM m) (hf : Fr (fun k => k = g ∨ (B k ∧ ¬ X k)) w w') {b : Nat} {o : Obj} (hb : w.heap[b]? = some o) (hx : X b) (hn : b ≠ g) : w'.heap[b]? = some o :=
  hf.blk hb (fun e => e.elim hn (fun e => e.2 hx))
theorem MX.sub (h : MX B X w0 w g g2 l vN vS vM m) {w'} (hf : Fr (fun k => B k ∧ ¬ X k) w w') : Fr (fun k => k = g ∨ (B k ∧ ¬ X k)) w w' := hf.mono (fun _ hk => .inr hk)
/-- The machine of a box is the result. -/
theorem MX.out (h : MX B X w0 w g g2 l vN vS vM m) : MW B ((((w.setCell ⟨g2, 0, none⟩ vN).setCell ⟨g2, 1, none⟩ vS).setCell ⟨g2, 2, none⟩ vM).setCell ⟨g2, 3, none⟩ (.bool m.done)) l vN vS vM m ∧
    Fr B w0 ((((w.setCell ⟨g2, 0, none⟩ vN).setCell ⟨g2, 1, none⟩ vS).setCell ⟨g2, 2, none⟩ vM).setCell ⟨g2, 3, none⟩ (.bool m.done)) ∧
    MB ((((w.setCell ⟨g2, 0, none⟩ vN).setCell ⟨g2, 1, none⟩ vS).setCell ⟨g2, 2, none⟩ vM).setCell ⟨g2, 3, none⟩ (.bool m.done)) g2 vN vS vM m.done := by
  have hf := Fr.set4 (S := fun k => k = g2) (w := w) (g := g2) rfl vN vS vM (.bool m.done)
  have hw := h.mw
  refine ⟨?_, h.f.trans (hf.mono (fun k hk => by rw [hk]; exact h.up _ (h.hx g2 h.x2).1)), MB.all _ _ _ _ h.r⟩
  have h1 : MW B w l vN vS vM m := hw.base (fun k _ hk => hk.1) (fun k hk => h.up k (Nat.le_trans h.f.size hk))
  exact h1.keep hf.size (fun k hk => hf.block k (h1.lt k hk) (fun e => h1.nb h.r (by rw [← e]; exact hk)))
/-- What another function handed back is put into the box. -/
theorem MX.put {w' l' vN' vS' vM' m'} (h : MX B X w0 w g g2 l vN vS vM m) (hv : MW (fun k => B k ∧ ¬ X k) w' l' vN' vS' vM' m') (hf : Fr (fun k => B k ∧ ¬ X k) w w') :
    MX B X w0 ((((w'.setCell ⟨g, 0, none⟩ vN').setCell ⟨g, 1, none⟩ vS').setCell ⟨g, 2, none⟩ vM').setCell ⟨g, 3, none⟩ (.bool m'.done)) g g2 l' vN' vS' vM' m' := by
  have hb : MB w' g vN vS vM m.done := hf.blk h.a.mb (fun e => e.2 h.xg)
  have hf4 := Fr.set4 (S := fun k => k = g) (w := w') (g := g) rfl vN' vS' vM' (.bool m'.done)
  have hv4 : MW (fun k => B k ∧ ¬ X k) ((((w'.setCell ⟨g, 0, none⟩ vN').setCell ⟨g, 1, none⟩ vS').setCell ⟨g, 2, none⟩ vM').setCell ⟨g, 3, none⟩ (.bool m'.done)) l' vN' vS' vM' m' := hv.keep hf4.size (fun k hk => hf4.block k (hv.lt k hk) (fun e => hv.nb hb (by rw [← e]; exact hk)))
  refine h.to ⟨MB.all _ _ _ _ hb, hv4.nr, hv4.ns, hv4.sr, hv4.me, fun k hk => hk.elim .inl (fun hk => .inr (hv4.lo k hk)), hv4.kk, hv4.ks, hv4.km, hv4.sm, fun k hk => .inr (hv4.up k hk)⟩ ((hf.mono (fun _ hk => .inr hk)).trans (hf4.mono (fun _ hk => .inl hk)))
/-- What another function handed back is the result. -/
theorem MX.res {w' l' vN' vS' vM' m'} (h : MX B X w0 w g g2 l vN vS vM m) (hv : MW (fun k => B k ∧ ¬ X k) w' l' vN' vS' vM' m') (hf : Fr (fun k => B k ∧ ¬ X k) w w') :
    MW B ((((w'.setCell ⟨g2, 0, none⟩ vN').setCell ⟨g2, 1, none⟩ vS').setCell ⟨g2, 2, none⟩ vM').setCell ⟨g2, 3, none⟩ (.bool m'.done)) l' vN' vS' vM' m' ∧
    Fr B w0 ((((w'.setCell ⟨g2, 0, none⟩ vN').setCell ⟨g2, 1, none⟩ vS').setCell ⟨g2, 2, none⟩ vM').setCell ⟨g2, 3, none⟩ (.bool m'.done)) ∧
    MB ((((w'.setCell ⟨g2, 0, none⟩ vN').setCell ⟨g2, 1, none⟩ vS').setCell ⟨g2, 2, none⟩ vM').setCell ⟨g2, 3, none⟩ (.bool m'.done)) g2 vN' vS' vM' m'.done := by
  have hb : MB w' g2 (.slice none 0 0) (.slice none 0 0) (.slice none 0 0) false := hf.blk h.r (fun e => e.2 h.x2)
  have hf4 := Fr.set4 (S := fun k => k = g2) (w := w') (g := g2) rfl vN' vS' vM' (.bool m'.done)
  have h1 : MW B w' l' vN' vS' vM' m' := hv.base (fun k _ hk => hk.1) (fun k hk => h.up k (Nat.le_trans h.f.size (Nat.le_trans hf.size hk)))
  exact ⟨h1.keep hf4.size (fun k hk => hf4.block k (h1.lt k hk) (fun e => h1.nb hb (by rw [← e]; exact hk))), (h.f.trans (hf.mono (fun _ hk => hk.1))).trans (hf4.mono (fun k hk => by rw [hk]; exact h.up _ (h.hx g2 h.x2).1)), MB.all _ _ _ _ hb⟩
end
/-- A function's machine, boxed; W holds the boxes. -/
theorem MW.box {B : Nat → Prop} {w W l vN vS vM m} (h : MW B w l vN vS vM m) (X : Nat → Prop) {g g2 : Nat} (e : Ext w W) (hb : MB W g vN vS vM m.done) (hr : MB W g2 (.slice none 0 0) (.slice none 0 0) (.slice none 0 0) false) (xg : X g) (x2 : X g2) (ne : g2 ≠ g) (hx : ∀ k, X k → w.heap.size ≤ k ∧ k < W.heap.size) :
    MX B X w W g g2 l vN vS vM m := by
  have h1 := h.ext e
  refine ⟨⟨hb, h1.nr, h1.ns, h1.sr, h1.me, fun k hk => hk.elim .inl (fun hk => .inr ⟨h1.lo k hk, fun hxk => ?_⟩), h1.kk, h1.ks, h1.km, h1.sm, fun k hk => .inr ⟨h1.up k hk, fun hxk => by have := (hx k hxk).2; omega⟩⟩, hr, Fr.ofExt e, xg, x2, ne, hx, h.up⟩
  have h2 := h.lt k hk
  have := (hx k hxk).1
  omega
/-! ### the functions that only look -/
def topP (m : Mc) (d : Nat) : Int := if d < m.stack.length then st m.stack d else -1
set_option maxRecDepth 100000 in
theorem stop_c (AN AS AM : Option Addr) (nN cN cS nM cM : Nat) (m : Mc) (d : Nat) (w : World) (hS : RdI w AS m.stack) (hd : d ≤ 1000) :
    Calls Try.prog 173 #[.agg #[.slice AN nN cN, .slice AS m.stack.length cS, .slice AM nM cM, .bool m.done], .int .i64 d] w fun e w' => e = .returned (.int .i64 (topP m d)) ∧ Ext w w' := by
  have hlen := hS.1
  by_cases h : d < m.stack.length
  · obtain ⟨ad, rfl, h1⟩ := hS.2 (m.stack.length - 1 - d) (by omega)
    have he : m.stack[m.stack.length - 1 - d]'(by omega) = topP m d := by unfold topP; rw [if_pos h, st_at _ _ h]
    rw [he] at h1
    obtain ⟨n, hn⟩ : ∃ n, n = m.stack.length := ⟨_, rfl⟩
    obtain ⟨k, hk⟩ : ∃ k, k = n - 1 - d := ⟨_, rfl⟩
    rw [← hn, ← hk] at h1
    rw [← hn] at hlen ⊢
    have e1 : (n : Int) - 1 - d = k := by omega
    have q1 : (0 : Int) ≤ (n : Int) - 1 - d := by omega
    have q2 : (k : Int) < n := by omega
    have h2 := ((Ext.rf w).al (.cells #[.slice AN nN cN, .slice (some ad) n cS, .slice AM nM cM, .bool m.done] 64)).cellOf h1
    have HX := As.mk (And.intro hk hn)
    clear h1 hS he hk hn h
    go_enter Try.func173, Try.ntmps173
    go_wp2_with fail
    go_ret
    exact ⟨rfl, (Ext.rf _).al _⟩
  · have he : topP m d = -1 := by unfold topP; rw [if_neg h]
    rw [he]
    obtain ⟨n, hn⟩ : ∃ n, n = m.stack.length := ⟨_, rfl⟩
    rw [← hn]
    have q1 : (n : Int) - 1 - d < 0 := by omega
    have q2 : -2000 ≤ (n : Int) - 1 - d := by omega
    have q3 : (n : Int) ≤ 1000 := by omega
    clear hS he h hn
    go_enter Try.func173, Try.ntmps173
    go_wp2_with fail
    go_ret
    exact ⟨rfl, (Ext.rf _).al _⟩
def kindP (m : Mc) (at_ : Int) : Int := if at_ < 0 then -1 else (nd m at_).kind
set_option maxRecDepth 100000 in
theorem skindOf_c (AN AS AM : Option Addr) (cN nS cS nM cM : Nat) (m : Mc) (i : Int) (w : World) (hN : RdN w AN m.nodes) (hi : i < m.nodes.length) :
    Calls Try.prog 174 #[.agg #[.slice AN m.nodes.length cN, .slice AS nS cS, .slice AM nM cM, .bool m.done], .int .i64 i] w fun e w' => e = .returned (.int .i64 (kindP m i)) ∧ Ext w w' := by
  have hlen := hN.1
  rcases (show i < 0 ∨ 0 ≤ i by omega) with h | h
  · have he : kindP m i = -1 := by unfold kindP; rw [if_pos h]
    rw [he]
    clear hN he
    go_enter Try.func174, Try.ntmps174
    go_wp2_with fail
    go_ret
    exact ⟨rfl, (Ext.rf _).al _⟩
  · obtain ⟨x, rfl⟩ := Int.eq_ofNat_of_zero_le h
    have hx : x < m.nodes.length := by omega
    obtain ⟨ad, K, c, rfl, h1, _, _, _, _⟩ := hN.2 x hx
    have he : kindP m x = m.nodes[x].kind := by
      unfold kindP nd
      rw [if_neg (by omega), Int.toNat_natCast, List.getD_eq_getElem?_getD, List.getElem?_eq_getElem hx]; rfl
    rw [← he] at h1
    have q1 : (x : Int) < m.nodes.length := hi
    have h2 := ((Ext.rf w).al (.cells #[.slice (some ad) m.nodes.length cN, .slice AS nS cS, .slice AM nM cM, .bool m.done] 64)).cellOf h1
    clear h1 hN he hi
    go_enter Try.func174, Try.ntmps174
    go_wp2_with fail
    go_ret
    exact ⟨rfl, (Ext.rf _).al _⟩
theorem sisKey_c (k v : Int) (vK : Value) (w : World) : Calls Try.prog 145 #[.agg #[.int .i64 k, .int .i64 v, vK]] w fun e w' => e = .returned (.bool (decide (k = 0 ∨ k = 1))) ∧ Ext w w' := by
  rcases bceq k 0 with h | h
  · subst h
    go_enter Try.func145, Try.ntmps145
    go_wp2_with fail
    go_ret
    exact ⟨ret_bool (by simp), (Ext.rf _).al _⟩
  · rcases bceq k 1 with h1 | h1
    · subst h1
      go_enter Try.func145, Try.ntmps145
      go_wp2_with fail
      go_ret
      exact ⟨ret_bool (by simp), (Ext.rf _).al _⟩
    · have HH := As.mk (And.intro h h1)
      go_enter Try.func145, Try.ntmps145
      go_wp2_with fail
      go_ret
      have := HH.out
      exact ⟨ret_bool (by simp at this; simp [this]), (Ext.rf _).al _⟩
theorem ssameKey_c (k v : Int) (vK : Value) (k' v' : Int) (vK' : Value) (w : World) : Calls Try.prog 184 #[.agg #[.int .i64 k, .int .i64 v, vK], .agg #[.int .i64 k', .int .i64 v', vK']] w fun e w' => e = .returned (.bool (decide (k = k' ∧ v = v'))) ∧ Ext w w' := by
  rcases bceq k k' with h | h
  · subst h
    rcases bceq v v' with h1 | h1
    · subst h1
      go_enter Try.func184, Try.ntmps184
      go_wp2_with fail
      go_ret
      exact ⟨ret_bool (by simp), ((Ext.rf _).al _).al _⟩
    · have HH := As.mk h1
      go_enter Try.func184, Try.ntmps184
      go_wp2_with fail
      go_ret
      have := HH.out
      exact ⟨ret_bool (by simp at this; simp [this]), ((Ext.rf _).al _).al _⟩
  · have HH := As.mk h
    go_enter Try.func184, Try.ntmps184
    go_wp2_with fail
    go_ret
    have := HH.out
    exact ⟨ret_bool (by simp at this; simp [this]), ((Ext.rf _).al _).al _⟩
end Go.Proofs.Ytcodbpjaamggeaa.C
