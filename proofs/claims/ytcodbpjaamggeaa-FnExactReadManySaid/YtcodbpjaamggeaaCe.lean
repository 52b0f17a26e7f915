/- The whole machine: its rows are its own and apart. -/
import Derived.Test.YtcodbpjaamggeaaCb
import Derived.Test.YtcodbpjaamggeaaBa
set_option linter.unusedVariables false
set_option linter.unusedSimpArgs false
namespace Go.Proofs.Ytcodbpjaamggeaa.C
open Go.RowKit Go.Proofs.Ytcodbpjaamggeaa.W Go.Proofs.Ytcodbpjaamggeaa.P

/-- The machine's blocks. -/
def Foot (g : Nat) (l : List (Nd × Value)) (vN vS vM : Value) (k : Nat) : Prop := k = g ∨ vN.ownBlock = some k ∨ vS.ownBlock = some k ∨ vM.ownBlock = some k ∨ ∃ p ∈ l, p.2.ownBlock = some k
structure MR (base : Nat → Prop) (w : World) (g : Nat) (l : List (Nd × Value)) (vN vS vM : Value) (m : Mc) : Prop where
  mb : MB w g vN vS vM m.done
  nr : NR w vN l
  ns : l.map Prod.fst = m.nodes
  sr : IR w vS m.stack
  me : IR w vM m.memo
  lo : ∀ k, Foot g l vN vS vM k → base k
  kk : l.Pairwise (fun p q => Apart p.2 q.2)
  ks : ∀ p ∈ l, Apart p.2 vS
  km : ∀ p ∈ l, Apart p.2 vM
  sm : Apart vS vM
  up : ∀ k, w.heap.size ≤ k → base k
theorem MR.nl {base w g l vN vS vM m} (h : MR base w g l vN vS vM m) : m.nodes.length = l.length := by rw [← h.ns, List.length_map]
theorem MR.foot_lt {base w g l vN vS vM m} (h : MR base w g l vN vS vM m) (k : Nat) (hk : Foot g l vN vS vM k) : k < w.heap.size := by
  rcases hk with rfl | hk | hk | hk | ⟨p, hp, hk⟩
  · exact World.block_lt_of_cell? w _ h.mb.c0
  · exact own_lt h.nr.1 hk
  · exact own_lt h.sr hk
  · exact own_lt h.me hk
  · exact own_lt (h.nr.2 p hp).1 hk
/-- What leaves the machine's blocks alone leaves the machine. -/
theorem MR.keep {base w w' g l vN vS vM m} (h : MR base w g l vN vS vM m) (hs : w.heap.size ≤ w'.heap.size) (hk : ∀ k, Foot g l vN vS vM k → w'.heap[k]? = w.heap[k]?) : MR base w' g l vN vS vM m :=
  ⟨(hk g (.inl rfl)).trans h.mb, h.nr.keep (fun k hh => hk k (hh.elim (fun e => .inr (.inl e)) (fun e => .inr (.inr (.inr (.inr e)))))), h.ns, h.sr.keep (fun k hh => hk k (.inr (.inr (.inl hh)))), h.me.keep (fun k hh => hk k (.inr (.inr (.inr (.inl hh))))), h.lo, h.kk, h.ks, h.km, h.sm, fun k hk => h.up k (Nat.le_trans hs hk)⟩
theorem MR.ext {base w w' g l vN vS vM m} (h : MR base w g l vN vS vM m) (e : Ext w w') : MR base w' g l vN vS vM m := h.keep e.size (fun k hk => e.block k (h.foot_lt k hk))
theorem MR.rdN {base w g l vN vS vM m} (h : MR base w g l vN vS vM m) (hl : m.nodes.length ≤ 1000000000000) : ∃ A c, vN = .slice A m.nodes.length c ∧ m.nodes.length ≤ c ∧ RdN w A m.nodes := by
  have := h.nr.rd (by rw [← h.nl]; exact hl)
  rwa [h.ns, ← h.nl] at this
theorem MR.rdS {base w g l vN vS vM m} (h : MR base w g l vN vS vM m) (hl : m.stack.length ≤ 1000000000000) : ∃ A c, vS = .slice A m.stack.length c ∧ m.stack.length ≤ c ∧ RdI w A m.stack := h.sr.rd hl

/-- What a try leaves, whatever its end: the nodes of before can be brought back. -/
def Left (g : Nat) (l : List (Nd × Value)) (vN vM : Value) (m : Mc) (w' : World) : Prop := (∃ vN' vS', MB w' g vN' vS' vM m.done) ∧ NR w' vN l ∧ IR w' vM m.memo
/-- What an order does. -/
def Does (base : Nat → Prop) (g : Nat) (l : List (Nd × Value)) (vN vS vM : Value) (m : Mc) (r : Option Mc) (w : World) (e : Ending) (w' : World) : Prop :=
  e = .returned (.bool r.isSome) ∧ Fr (Foot g l vN vS vM) w w' ∧ (∀ m', r = some m' → ∃ l' vN' vS', MR base w' g l' vN' vS' vM m') ∧ (r = none → Left g l vN vM m w')

theorem MR.left {base w g l vN vS vM m} (h : MR base w g l vN vS vM m) : Left g l vN vM m w := ⟨⟨vN, vS, h.mb⟩, h.nr, h.me⟩

theorem push_m {base w g l vN vS vM m} (h : MR base w g l vN vS vM m) (i : Int) (hl : m.stack.length ≤ 1000000) :
    Calls Try.prog 155 #[.pointer (some ⟨g, 0, none⟩), .int .i64 i] w (Does base g l vN vS vM m (push m i) w) := by
  refine (push_c g vN vS vM m.done m.stack i w h.mb h.sr hl).mono ?_
  rintro e w' ⟨rfl, vS', hb, hs, hf, ho⟩
  have hnk : ∀ v k, Apart v vS → v.ownBlock = some k → (∀ k, v.ownBlock = some k → k ≠ g) → ¬ (k = g ∨ vS.ownBlock = some k) := fun v k ha hk hg hs => hs.elim (hg k hk) (ha k hk)
  have hng : ∀ (v : Value) (l : List Int), IR w v l → ∀ k, v.ownBlock = some k → k ≠ g := fun v l hv k hk e => own_ne_blk hv h.mb (by decide) (by rw [hk, e])
  have hN : NR w' vN l := h.nr.fr hf (fun k hk hs => hs.elim (fun e => own_ne_blk h.nr.1 h.mb (by decide) (by rw [hk, e])) (fun e => own_ne_type h.nr.1 h.sr (by decide) hk e)) (fun p hp k hk => hnk _ k (h.ks p hp) hk (hng _ _ (h.nr.2 p hp).1))
  have hM : IR w' vM m.memo := h.me.fr hf (fun k hk => hnk _ k h.sm.symm hk (hng _ _ h.me))
  refine ⟨ret_bool (by unfold push; by_cases hc : m.stack.length + 1 ≤ 300 <;> simp [hc]), hf.mono (fun k hk => hk.elim .inl (fun e => .inr (.inr (.inl e)))), fun m' hm' => ?_, fun _ => ⟨⟨_, _, hb⟩, hN, hM⟩⟩
  unfold push at hm'
  split at hm'
  · injection hm' with hm'
    subst hm'
    refine ⟨l, vN, vS', hb, hN, h.ns, hs, hM, fun k hk => ?_, h.kk, fun p hp => (h.ks p hp).of ho (fun k hk => own_lt (h.nr.2 p hp).1 hk), h.km, (h.sm.symm.of ho (fun k hk => own_lt h.me hk)).symm, fun k hk => h.up k (Nat.le_trans hf.size hk)⟩
    rcases hk with e | e | e | e | e
    · exact h.lo k (.inl e)
    · exact h.lo k (.inr (.inl e))
    · rcases ho with ho | ⟨b, ho, hb'⟩
      · exact h.lo k (.inr (.inr (.inl (by rw [← ho]; exact e))))
      · rw [ho] at e; injection e with e; exact h.up k (by omega)
    · exact h.lo k (.inr (.inr (.inr (.inl e))))
    · exact h.lo k (.inr (.inr (.inr (.inr e))))
  · exact nomatch hm'

theorem make_m {base w g l vN vS vM m} (h : MR base w g l vN vS vM m) (kind val : Int) (K : Option Addr) (cK : Nat) (kids : List Int) (hK : RdI w K kids) (hln : m.nodes.length ≤ 1000000) (hls : m.stack.length ≤ 1000000) (hkl : kids.length ≤ 1000000) :
    Calls Try.prog 154 #[.pointer (some ⟨g, 0, none⟩), .int .i64 kind, .int .i64 val, .slice K kids.length cK] w (Does base g l vN vS vM m (mk m kind val kids) w) := by
  have hnl := h.nl
  refine (make_c g vN vS vM m.done l m.stack kind val K cK kids w h.mb h.nr h.sr hK (by omega) hls hkl h.ks).mono ?_
  rintro e w' ⟨rfl, vN', vS', vK, hb, hn, hs, hf, hoN, hoS, hfK, haK, hN⟩
  have hM : IR w' vM m.memo := h.me.fr hf (fun k hk hs => hs.elim (fun e => own_ne_blk h.me h.mb (by decide) (by rw [hk, e])) (fun hs => hs.elim (fun e => own_ne_type h.me h.nr.1 (by decide) hk e) (h.sm.symm k hk)))
  refine ⟨ret_bool (by unfold mk push; rw [hnl]; by_cases hc : l.length + 1 ≤ 300 <;> by_cases hd : m.stack.length + 1 ≤ 300 <;> simp [hc, hd]), hf.mono (fun k hk => hk.elim .inl (fun hk => hk.elim (fun e => .inr (.inl e)) (fun e => .inr (.inr (.inl e))))), fun m' hm' => ?_, fun _ => ⟨⟨_, _, hb⟩, hN, hM⟩⟩
  unfold mk at hm'
  split at hm'
  · rename_i hc
    unfold push at hm'
    split at hm'
    · injection hm' with hm'
      subst hm'
      have hlo : ∀ k, w.heap.size ≤ k → base k := h.up
      have hlo2 : ∀ {a b : Value}, FreshOr a b w → (∀ k, a.ownBlock = some k → base k) → ∀ k, b.ownBlock = some k → base k := fun ho ha k hk => by
        rcases ho with ho | ⟨b, ho, hb'⟩
        · exact ha k (by rw [← ho]; exact hk)
        · rw [ho] at hk; injection hk with hk; subst hk; exact hlo _ hb'
      refine ⟨l ++ [(⟨kind, val, kids⟩, vK)], vN', vS', hb, hn, by simp [h.ns], by rw [hnl]; exact hs (by omega), hM, fun k hk => ?_, ?_, fun p hp => ?_, fun p hp => ?_, (h.sm.symm.of hoS (fun k hk => own_lt h.me hk)).symm, fun k hk => h.up k (Nat.le_trans hf.size hk)⟩
      · rcases hk with e | e | e | e | ⟨p, hp, e⟩
        · exact h.lo k (.inl e)
        · exact hlo2 hoN (fun k hk => h.lo k (.inr (.inl hk))) k e
        · exact hlo2 hoS (fun k hk => h.lo k (.inr (.inr (.inl hk)))) k e
        · exact h.lo k (.inr (.inr (.inr (.inl e))))
        · rcases List.mem_append.1 hp with hp | hp
          · exact h.lo k (.inr (.inr (.inr (.inr ⟨p, hp, e⟩))))
          · rw [List.mem_singleton] at hp; subst hp; exact hlo k (hfK k e)
      · rw [List.pairwise_append]
        refine ⟨h.kk, List.pairwise_singleton _ _, fun p hp q hq => ?_⟩
        rw [List.mem_singleton] at hq; subst hq
        exact Apart.fresh (fun k hk => own_lt (h.nr.2 p hp).1 hk) hfK
      · rcases List.mem_append.1 hp with hp | hp
        · exact (h.ks p hp).of hoS (fun k hk => own_lt (h.nr.2 p hp).1 hk)
        · rw [List.mem_singleton] at hp; subst hp; exact haK
      · rcases List.mem_append.1 hp with hp | hp
        · exact h.km p hp
        · rw [List.mem_singleton] at hp; subst hp; exact (Apart.fresh (fun k hk => own_lt h.me hk) hfK).symm
    · exact nomatch hm'
  · exact nomatch hm'

theorem MR.hdr {base w g l A n c vN vM m} (h : MR base w g l vN (.slice A n c) vM m) : n = m.stack.length ∧ (A = none → c = 0) := by
  rcases h.sr.2 with ⟨hv, h0⟩ | ⟨g', cap, cur, hv, _⟩
  · injection hv with h1 h2 h3
    exact ⟨by omega, fun _ => h3⟩
  · injection hv with h1 h2 h3
    exact ⟨h2, fun e => by rw [e] at h1; exact nomatch h1⟩
/-- The machine with fewer things on its stack. -/
theorem MR.cut {base w w' g l A c vN vM m} (h : MR base w g l vN (.slice A m.stack.length c) vM m) (n : Nat) (hn : n ≤ m.stack.length) (hc : m.stack.length ≤ c) (hb : MB w' g vN (.slice A n c) vM m.done) (hf : Fr (fun k => k = g) w w') :
    MR base w' g l vN (.slice A n c) vM { m with stack := m.stack.take n } := by
  have ho : (Value.slice A n c).ownBlock = (Value.slice A m.stack.length c).ownBlock := by cases A <;> rfl
  have hng : ∀ (v : Value) (l : List Int), IR w v l → ∀ k, v.ownBlock = .some k → k ≠ g := fun v l hv k hk e => own_ne_blk hv h.mb (by decide) (by rw [hk, e])
  refine ⟨hb, h.nr.fr hf (fun k hk e => own_ne_blk h.nr.1 h.mb (by decide) (by rw [hk, e])) (fun p hp => hng _ _ (h.nr.2 p hp).1), h.ns, ?_, h.me.fr hf (hng _ _ h.me), fun k hk => h.lo k ?_, h.kk, fun p hp k hk => by rw [ho]; exact h.ks p hp k hk, h.km, fun k hk => h.sm k (by rw [← ho]; exact hk), fun k hk => h.up k (Nat.le_trans hf.size hk)⟩
  · have := (IR.take h.sr n hn hc h.hdr.2)
    have h2 : IR w' (.slice A n c) (m.stack.take n) := this.fr hf (fun k hk => hng _ _ h.sr k (by rw [← ho]; exact hk))
    exact h2
  · unfold Foot at hk ⊢; rw [ho] at hk; exact hk
theorem foot_cut (g : Nat) (l : List (Nd × Value)) (vN vM : Value) (A : Option Addr) (n n' c : Nat) : Foot g l vN (.slice A n c) vM = Foot g l vN (.slice A n' c) vM := by
  funext k; cases A <;> rfl

/-- What 'take' and 'above' leave: the cut machine, and a list that is read. -/
def Cut (base : Nat → Prop) (g : Nat) (l : List (Nd × Value)) (vN vM : Value) (A : Option Addr) (c : Nat) (m : Mc) (n : Nat) (kids : List Int) (A' : Option Addr) (w w' : World) : Prop :=
  MR base w' g l vN (.slice A (m.stack.length - n) c) vM (drop m n) ∧ RdI w' A' kids ∧ Fr (fun k => k = g) w w' ∧ (∀ ad, A' = some ad → w.heap.size ≤ ad.block)
theorem take_m {base w g l A c vN vM m} (h : MR base w g l vN (.slice A m.stack.length c) vM m) (n : Nat) (hn : n ≤ m.stack.length) (hls : m.stack.length ≤ 1000000) :
    Calls Try.prog 157 #[.pointer (some ⟨g, 0, none⟩), .int .i64 n] w fun e w' => ∃ A' c', e = .returned (.slice A' n c') ∧ n ≤ c' ∧ IR w' (.slice A' n c') (m.stack.drop (m.stack.length - n)) ∧ Fresh (.slice A' n c') w ∧ Cut base g l vN vM A c m n (m.stack.drop (m.stack.length - n)) A' w w' := by
  obtain ⟨A0, c0, h1, h2, h3⟩ := h.rdS (by omega)
  injection h1 with h1 _ h4
  subst h1 h4
  refine (take_c g vN vM m.done A c m.stack n w h.mb h3 (by omega) (by omega) h2).mono ?_
  rintro e w' ⟨A', c', rfl, hle, hb, hI, hf, hfr⟩
  simp only [Int.toNat_natCast] at hle hb hI hfr ⊢
  have hll : (m.stack.drop (m.stack.length - n)).length = n := by rw [List.length_drop]; omega
  obtain ⟨A3, c3, h5, _, h6⟩ := IR.rd (l := m.stack.drop (m.stack.length - n)) (v := .slice A' n c') (w := w') hI (by omega)
  injection h5 with h5
  subst h5
  refine ⟨A', c', rfl, hle, hI, hfr, h.cut _ (by omega) h2 hb hf, h6, hf, fun ad ha => ?_⟩
  exact hfr _ (by rw [ha]; rfl)
theorem above_m1 {base w g l A c vN vM m} (h : MR base w g l vN (.slice A m.stack.length c) vM m) (hls : m.stack.length ≤ 1000000) (ht : topN m.stack ≠ m.stack.length) :
    Calls Try.prog 156 #[.pointer (some ⟨g, 0, none⟩)] w fun e w' => ∃ A' c', e = .returned (.tuple #[.slice A' (m.stack.drop (m.stack.length - topN m.stack)).length c', .bool true]) ∧ (m.stack.drop (m.stack.length - topN m.stack)).length ≤ c' ∧ (∃ ad, A' = some ad) ∧ Cut base g l vN vM A c m (topN m.stack + 1) (m.stack.drop (m.stack.length - topN m.stack)) A' w w' := by
  obtain ⟨A0, c0, h1, h2, h3⟩ := h.rdS (by omega)
  injection h1 with h1 _ h4
  subst h1 h4
  refine (above_c1 g vN vM m.done A c m.stack w h.mb h3 h2 ht).mono ?_
  rintro e w' ⟨A', c', rfl, hle, hb, hI, hf, ad, had, hfr⟩
  have := topN_le m.stack
  exact ⟨A', c', rfl, hle, ⟨ad, had⟩, h.cut _ (by omega) h2 hb hf, hI, hf, fun ad' had' => by rw [had] at had'; injection had' with had'; rw [← had']; exact hfr⟩
theorem above_m0 {base w g l A c vN vM m} (h : MR base w g l vN (.slice A m.stack.length c) vM m) (hls : m.stack.length ≤ 1000000) (ht : topN m.stack = m.stack.length) :
    Calls Try.prog 156 #[.pointer (some ⟨g, 0, none⟩)] w fun e w' => e = .returned (.tuple #[.slice none 0 0, .bool false]) ∧ ∃ n, w' = w.drewN n := by
  obtain ⟨A0, c0, h1, h2, h3⟩ := h.rdS (by omega)
  injection h1 with h1 _ h4
  subst h1 h4
  exact above_c0 g vN vM m.done A c m.stack w h.mb h3 ht
end Go.Proofs.Ytcodbpjaamggeaa.C
