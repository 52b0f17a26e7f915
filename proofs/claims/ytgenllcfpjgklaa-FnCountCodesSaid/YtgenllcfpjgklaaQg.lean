/- A node gets kids. -/
import Derived.Test.YtgenllcfpjgklaaQf
import Derived.Test.YtgenllcfpjgklaaOn
set_option linter.unusedVariables false
set_option linter.unusedSimpArgs false
namespace Go.Proofs.Ytgenllcfpjgklaa.C
open Go.RowKit Go.Proofs.Ytgenllcfpjgklaa.W Go.Proofs.Ytgenllcfpjgklaa.P

theorem ncs_set3 (l : List (Nd × Value)) : ∀ (k : Nat) (h : k < l.length) (a b : Int) (ks : List Int) (v : Value), ncs (l.set k (⟨a, b, ks⟩, v)) = (((ncs l).set (k * 3) (.int .i64 a)).set (k * 3 + 1) (.int .i64 b)).set (k * 3 + 2) v := by
  induction l with
  | nil => intro k h; simp at h
  | cons p l ih =>
    intro k h a b ks v
    cases k with
    | zero => simp [ncs_cons]
    | succ k =>
      have hh := ih k (by simpa using h) a b ks v
      rw [List.set_cons_succ, ncs_cons, ncs_cons, hh]
      have e0 : (k + 1) * 3 = k * 3 + 1 + 1 + 1 := by omega
      have e1 : (k + 1) * 3 + 1 = k * 3 + 1 + 1 + 1 + 1 := by omega
      have e2 : (k + 1) * 3 + 2 = k * 3 + 2 + 1 + 1 + 1 := by omega
      rw [e2, e1, e0]
      rfl
/-- A node of the row is another one. -/
theorem NW.setAt {B : Nat → Prop} {w l gN n c ns} (h : NW B w l (.slice (some ⟨gN, 0, none⟩) n c) ns) (k : Nat) (hk : k < l.length) (a b : Int) (ks : List Int) (vK : Value) (hI : IR w vK ks) (hl : ks.length ≤ 1000000000000) (hap : ∀ j (hj : j < l.length), j ≠ k → Apart l[j].2 vK) (hB : ∀ j, vK.ownBlock = some j → B j) :
    NW B (((w.setCell ⟨gN, k * 3, none⟩ (.int .i64 a)).setCell ⟨gN, k * 3 + 1, none⟩ (.int .i64 b)).setCell ⟨gN, k * 3 + 2, none⟩ vK) (l.set k (⟨a, b, ks⟩, vK)) (.slice (some ⟨gN, 0, none⟩) n c) (ns.set k ⟨a, b, ks⟩) ∧ Fr (fun j => j = gN) w (((w.setCell ⟨gN, k * 3, none⟩ (.int .i64 a)).setCell ⟨gN, k * 3 + 1, none⟩ (.int .i64 b)).setCell ⟨gN, k * 3 + 2, none⟩ vK) := by
  have hf : Fr (fun j => j = gN) w (((w.setCell ⟨gN, k * 3, none⟩ (.int .i64 a)).setCell ⟨gN, k * 3 + 1, none⟩ (.int .i64 b)).setCell ⟨gN, k * 3 + 2, none⟩ vK) := ((Fr.set (S := fun j => j = gN) w _ (p := ⟨gN, k * 3, none⟩) rfl).trans (Fr.set _ _ (p := ⟨gN, k * 3 + 1, none⟩) rfl)).trans (Fr.set _ _ (p := ⟨gN, k * 3 + 2, none⟩) rfl)
  have hob : (Value.slice (some ⟨gN, 0, none⟩) n c).ownBlock = some gN := rfl
  refine ⟨⟨⟨?_, fun p hp => ?_⟩, by rw [List.map_set, h.ns], fun j hj => ?_, ?_⟩, hf⟩
  · rw [List.length_set, ncs_set3 l k hk]
    have hnl : n = l.length := by
      rcases h.nr.1.2 with ⟨hv, _⟩ | ⟨g', cap, cur, hv, _⟩
      · exact nomatch hv
      · injection hv
    have h1 := h.nr.1
    subst hnl
    exact own_set (own_set (own_set h1 _ _) _ _) _ _
  · obtain ⟨j, hj, rfl⟩ := List.mem_iff_getElem.1 hp
    rw [List.length_set] at hj
    rw [List.getElem_set]
    by_cases hjk : k = j
    · rw [if_pos hjk]
      exact ⟨hI.fr hf (fun i hi e => own_ne_type hI h.nr.1 (by decide) hi (by rw [hob, e])), hl⟩
    · rw [if_neg hjk]
      have h2 := h.nr.2 _ (List.getElem_mem hj)
      exact ⟨h2.1.fr hf (fun i hi e => own_ne_type h2.1 h.nr.1 (by decide) hi (by rw [hob, e])), h2.2⟩
  · rcases hj with e | ⟨p, hp, e⟩
    · exact h.lo j (.inl e)
    · obtain ⟨i, hi, rfl⟩ := List.mem_iff_getElem.1 hp
      rw [List.length_set] at hi
      rw [List.getElem_set] at e
      by_cases hik : k = i
      · rw [if_pos hik] at e; exact hB j e
      · rw [if_neg hik] at e; exact h.lo j (.inr ⟨_, List.getElem_mem hi, e⟩)
  · rw [List.pairwise_iff_getElem]
    intro i j hi hj hij
    rw [List.length_set] at hi hj
    rw [List.getElem_set, List.getElem_set]
    have hkk := List.pairwise_iff_getElem.1 h.kk i j hi hj hij
    by_cases h1 : k = i
    · rw [if_pos h1, if_neg (by omega)]
      exact (hap j hj (by omega)).symm
    · rw [if_neg h1]
      by_cases h2 : k = j
      · rw [if_pos h2]; exact hap i hi (by omega)
      · rw [if_neg h2]; exact hkk
theorem NW.hd {B : Nat → Prop} {w l A n c ns} (h : NW B w l (.slice A n c) ns) (hl : 0 < ns.length) : ∃ gN, A = some ⟨gN, 0, none⟩ ∧ n = ns.length := by
  have hln : l.length = ns.length := by rw [← h.ns, List.length_map]
  rcases h.nr.1.2 with ⟨hv, h0⟩ | ⟨g', cap, cur, hv, _⟩
  · omega
  · injection hv with h1 h2
    exact ⟨g', h1, by rw [h2, hln]⟩
/-- What addKids keeps while it draws. -/
def AkQ (w : World) (g p : Nat) (b7 : Nat) (kd vl : Int) (k : Int) (wr : World) : Prop :=
  ∃ A n c ks q, NB wr b7 (.int .i64 kd) (.int .i64 vl) (.slice A n c) ∧ IR wr (.slice A n c) ks ∧ n = ks.length ∧ (n : Int) ≤ 2 * (4 - k) ∧ Fresh (.slice A n c) w ∧ q ≤ p + 1 + (2 * (4 - k)).toNat ∧ Rdr wr g q ∧ Fr (fun j => j = g ∨ j = b7) w wr
theorem akQ_put {w : World} {g p b7 : Nat} {kd vl k : Int} {w2 : World} {A : Option Addr} {n c q : Nat} {ks : List Int} {vO : Value} (h1 : NB w2 b7 (.int .i64 kd) (.int .i64 vl) vO) (h2 : IR w2 (.slice A n c) ks) (h3 : n = ks.length) (h4 : (n : Int) ≤ 2 * (4 - k) + 2) (h5 : Fresh (.slice A n c) w) (hk : k ≤ 4) (h6 : q ≤ p + 1 + (2 * (4 - k)).toNat + 2) (h7 : Rdr w2 g q) (h8 : Fr (fun j => j = g ∨ j = b7) w w2) (hg : g < b7) :
    AkQ w g p b7 kd vl (k - 1) (w2.setCell ⟨b7, 2, none⟩ (.slice A n c)) := by
  have hset : Fr (fun j => j = b7) w2 (w2.setCell ⟨b7, 2, none⟩ (.slice A n c)) := Fr.set (S := fun j => j = b7) w2 _ rfl
  exact ⟨A, n, c, ks, q, h1.set2 _, h2.fr hset (fun j hj e => own_ne_blk h2 h1 (by decide) (by rw [← e]; exact hj)), h3, by omega, h5, by omega, h7.fr hset (fun j hj => by omega), h8.trans (hset.mono (fun _ e => .inr e))⟩
/-- Nothing was written. -/
theorem akQ_skip {w : World} {g p b7 : Nat} {kd vl k : Int} {w2 : World} {A : Option Addr} {n c q : Nat} {ks : List Int} (h1 : NB w2 b7 (.int .i64 kd) (.int .i64 vl) (.slice A n c)) (h2 : IR w2 (.slice A n c) ks) (h3 : n = ks.length) (h4 : (n : Int) ≤ 2 * (4 - k)) (h5 : Fresh (.slice A n c) w) (hk : k ≤ 4) (h6 : q ≤ p + 1 + (2 * (4 - k)).toNat + 2) (h7 : Rdr w2 g q) (h8 : Fr (fun j => j = g ∨ j = b7) w w2) : AkQ w g p b7 kd vl (k - 1) w2 :=
  ⟨A, n, c, ks, q, h1, h2, h3, by omega, h5, by omega, h7, h8⟩
/-- An append to the kids. -/
theorem ak_app {w w3 w4 : World} {g b7 q : Nat} {kd vl : Int} {K : Option Addr} {n ck n' c' : Nat} {A' : Option Addr} (hnb : NB w3 b7 (.int .i64 kd) (.int .i64 vl) (.slice K n ck)) {ks : List Int} (hir : IR w3 (.slice K n ck) ks) (hfk : Fresh (.slice K n ck) w) (hrd : Rdr w3 g q) (hf : Fr (fun j => j = g ∨ j = b7) w w3) (hg : g < b7) (hb : b7 < w.heap.size) (a2 : Fr (fun j => (Value.slice K n ck).ownBlock = some j) w3 w4) (a3 : FreshOr (.slice K n ck) (.slice A' n' c') w3) :
    NB w4 b7 (.int .i64 kd) (.int .i64 vl) (.slice K n ck) ∧ Fresh (.slice A' n' c') w ∧ Rdr w4 g q ∧ Fr (fun j => j = g ∨ j = b7) w w4 := by
  refine ⟨a2.blk hnb (fun e => own_ne_blk hir hnb (by decide) e), fun j hj => ?_, hrd.fr a2 (fun j hj => by have := hfk j hj; omega), hf.then a2 (fun j hj => .inr (hfk j hj))⟩
  rcases a3 with e | ⟨b, e1, e2⟩
  · exact hfk j (by rw [← e]; exact hj)
  · rw [e1] at hj; injection hj with hj; have := hf.size; omega
/-- The graph comes back with another node. -/
def AkV (lo : Nat) (A : Option Addr) (c : Nat) (l : List (Nd × Value)) (at_ : Nat) (ns : List Nd) (r : Int) (g p : Nat) (w : World) (e : Ending) (w' : World) : Prop := e = .returned (.agg #[.slice A ns.length c, .int .i64 r]) ∧ ∃ l' ns', (∀ j, j ≠ at_ → l'[j]? = l[j]?) ∧ NW (lo ≤ ·) w' l' (.slice A ns.length c) ns' ∧ ns'.length = ns.length ∧ VG ns' r ∧ (∃ q, q ≤ p + 9 ∧ Rdr w' g q) ∧ Fr (fun k => k = g ∨ lo ≤ k) w w'
set_option maxRecDepth 100000 in
set_option maxHeartbeats 8000000 in
theorem addKids_c {lo : Nat} {w : World} {l : List (Nd × Value)} {A : Option Addr} {c : Nat} {ns : List Nd} {r : Int} {g p : Nat} (hn : NW (lo ≤ ·) w l (.slice A ns.length c) ns) (hv : VG ns r) (hr : Rdr w g p) (hp : p + 9 ≤ 1000000) (hg : g < lo) (hlo : lo ≤ w.heap.size) (at_ : Nat) (hat : at_ < ns.length) (hnil : ∀ (h : at_ < l.length), l[at_].2 = .slice none 0 0) :
    Calls Try.prog 129 #[.pointer (some ⟨g, 0, none⟩), .agg #[.slice A ns.length c, .int .i64 r], .int .i64 at_] w (AkV lo A c l at_ ns r g p w) := by
  obtain ⟨gN, rfl, -⟩ := hn.hd (by omega)
  have hln : l.length = ns.length := by rw [← hn.ns, List.length_map]
  have hl2 := hv.hi
  have hx : Ext w ((w.alloc (.cells #[.slice (some ⟨gN, 0, none⟩) ns.length c, .int .i64 r] 105)).alloc (.cells #[.slice none 0 0, .int .i64 0] 105)) := ((Ext.rf w).al _).al _
  have ha : GB ((w.alloc (.cells #[.slice (some ⟨gN, 0, none⟩) ns.length c, .int .i64 r] 105)).alloc (.cells #[.slice none 0 0, .int .i64 0] 105)) w.heap.size (.slice (some ⟨gN, 0, none⟩) ns.length c) (.int .i64 r) := ((Ext.rf _).al _).blk (al_new w _)
  have hb : GB ((w.alloc (.cells #[.slice (some ⟨gN, 0, none⟩) ns.length c, .int .i64 r] 105)).alloc (.cells #[.slice none 0 0, .int .i64 0] 105)) (w.heap.size + 1) (.slice none 0 0) (.int .i64 0) := by have := al_new (w.alloc (.cells #[.slice (some ⟨gN, 0, none⟩) ns.length c, .int .i64 r] 105)) (.cells #[.slice none 0 0, .int .i64 0] 105); rw [al_size] at this; exact this
  have hsz : ((w.alloc (.cells #[.slice (some ⟨gN, 0, none⟩) ns.length c, .int .i64 r] 105)).alloc (.cells #[.slice none 0 0, .int .i64 0] 105)).heap.size = w.heap.size + 2 := by rw [al_size, al_size]
  have HX := As.mk hx
  have HA := As.mk ha
  have HB := As.mk hb
  have HSZ := As.mk hsz
  have HNW := As.mk (hn.ext hx)
  have HFG0 : As (∀ j, FG (.slice (some ⟨gN, 0, none⟩) ns.length c) l j → j < w.heap.size) := ⟨hn.lt⟩
  have HR := As.mk (hr.ext hx)
  have HVG := As.mk hv
  have HNIL := As.mk hnil
  clear hn hv hr hnil hx ha hb hsz
  go_enter Try.func129, Try.ntmps129
  go_upto_region 1 with fail
  generalize (w.alloc (.cells #[.slice (some ⟨gN, 0, none⟩) ns.length c, .int .i64 r] 105)).alloc (.cells #[.slice none 0 0, .int .i64 0] 105) = w0 at HX HA HB HSZ HNW HR ⊢
  obtain ⟨gb, hgb⟩ : ∃ gb, gb = w.heap.size := ⟨_, rfl⟩
  rw [← hgb] at HA HB HSZ hlo ⊢
  have HGB := As.mk hgb
  clear hgb
  have c0 := gb_c0 HA.out
  have hatl : at_ < l.length := by omega
  obtain ⟨aN, K1, ck, hAN, y0, y1, y2, -, -⟩ := (HNW.out.rd (by omega)).2 at_ hat
  cases hAN
  obtain ⟨kd, hkd⟩ : ∃ kd, kd = ns[at_].kind := ⟨_, rfl⟩
  obtain ⟨vl, hvl⟩ : ∃ vl, vl = ns[at_].val := ⟨_, rfl⟩
  have x2 : w0.cell? ⟨gN, at_ * 3 + 2, none⟩ = some (.slice none 0 0) := by
    have h1 := World.ownsRow.cells HNW.out.nr.1 (g := gN) rfl _ _ (ncs_at l at_ hatl).2.2
    rw [(add_at gN (at_ * 3 + 2) 0).1, HNIL.out hatl] at h1
    exact h1
  rw [← hkd, (add_at gN (at_ * 3) 0).1] at y0
  rw [← hvl, (add_at gN (at_ * 3) 1).2] at y1
  clear y2
  have HKD := As.mk (And.intro hkd hvl)
  have q1 : (at_ : Int) < ns.length := by omega
  clear hkd hvl
  go_upto_region 2 with fail
  have hb7 : w0.heap.size = gb + 2 := HSZ.out
  have hxB : Ext w0 (w0.alloc (.cells #[.int .i64 kd, .int .i64 vl, .slice none 0 0] 73)) := (Ext.rf _).al _
  have hnB : NB (w0.alloc (.cells #[.int .i64 kd, .int .i64 vl, .slice none 0 0] 73)) w0.heap.size (.int .i64 kd) (.int .i64 vl) (.slice none 0 0) := al_new _ _
  have hsB : (w0.alloc (.cells #[.int .i64 kd, .int .i64 vl, .slice none 0 0] 73)).heap.size = gb + 3 := by rw [al_size, hb7]
  have HNWB := As.mk (HNW.out.ext hxB)
  have HFGL : As (∀ j, FG (.slice (some ⟨gN, 0, none⟩) ns.length c) l j → j < gb) := ⟨fun j hj => by have := HFG0.out j hj; have := HGB.out; omega⟩
  have HRB := As.mk (HR.out.ext hxB)
  have HAB := As.mk (hxB.blk HA.out)
  have HBB := As.mk (hxB.blk HB.out)
  have HXB := As.mk (HX.out.trans hxB)
  have HNB := As.mk hnB
  have HSB := As.mk hsB
  clear hxB hnB hsB HNW HR HA HB HSZ c0 y0 y1 x2 HX
  generalize (w0.alloc (.cells #[.int .i64 kd, .int .i64 vl, .slice none 0 0] 73)) = wB at HNWB HRB HAB HBB HXB HNB HSB ⊢
  obtain ⟨b7, hb7'⟩ : ∃ b7, b7 = w0.heap.size := ⟨_, rfl⟩
  rw [← hb7'] at HNB hb7 ⊢
  have HB7 := As.mk hb7
  clear hb7 hb7'
  go_upto_region 3 with (go_at_call 87; refine (one_c _ _ _ (some ⟨wB.heap.size, 0, none⟩) 5 [2, 1, 3, 0, 4] (HRB.out.ext ((Ext.rf _).al _)) (by omega) (rdA_J5 (n := 5) (c := 5) (l := [2, 1, 3, 0, 4]) (World.ownsRow_lit (base := 0) (e := 3) (size := 1) wB #[.int .i64 2, .int .i64 1, .int .i64 3, .int .i64 0, .int .i64 4] 5 (Nat.zero_le _) (by decide) rfl) (by simp)) (fun ad e => by have h1 := HRB.out.lt; injection e with e; subst e; show wB.heap.size ≠ g; omega) (by simp) (by simp)).mono ?_; rintro e w2 ⟨x, rfl, hz, hrd, hf⟩; have HRD := As.mk hrd; have HF := As.mk ((Fr.ofExt ((Ext.rf wB).al (.cells #[.int .i64 2, .int .i64 1, .int .i64 3, .int .i64 0, .int .i64 4] 3))).trans hf); have HZ := As.mk (show 0 ≤ x ∧ x ≤ 4 by simp only [List.mem_cons, List.mem_nil_iff, or_false] at hz; omega); clear hz hrd hf)
  have HQ0 : As (AkQ wB g p b7 kd vl x w2) := ⟨by
    have h1 := HZ.out
    have h2 := HB7.out
    have h3 := HGB.out
    exact ⟨none, 0, 0, [], p + 1, HF.out.blk HNB.out (by omega), IR.nil _, rfl, by omega, fun k hk => by simp [Value.ownBlock] at hk, by omega, HRD.out, HF.out.mono (fun _ e => .inl e)⟩⟩
  have hz0 := HZ.out.1
  have hz4 := HZ.out.2
  clear HRD HF HZ HRB HNB
  go_loopw [8] (fun i wr => ∃ k : Int, 0 ≤ k ∧ k ≤ 4 ∧ i = .int .i64 k ∧ As (AkQ wB g p b7 kd vl k wr)) (fun i _ => (intOf i).toNat)
  case atStart => exact ⟨x, hz0, hz4, rfl, HQ0⟩
  case round =>
    obtain ⟨k, hk0, hk4, rfl, hst⟩ := hrel
    obtain ⟨K, n, ck', ks, q, hnb, hir, hnk, hn8, hfk, hq, hrd, hfr⟩ := hst.out
    subst hnk
    have HNB := As.mk hnb
    have HIR := As.mk hir
    have HFK := As.mk hfk
    have HRD := As.mk hrd
    have HFR := As.mk hfr
    have hgb : w.heap.size ≤ gb ∧ gb ≤ w.heap.size := by have := HGB.out; omega
    have hb7 : gb + 2 ≤ b7 ∧ b7 ≤ gb + 2 := by have := HB7.out; omega
    have HSUB : As (∀ w', Fr (fun j => j = g ∨ j = b7) wB w' → GB w' gb (.slice (some ⟨gN, 0, none⟩) ns.length c) (.int .i64 r) ∧ GB w' (gb + 1) (.slice none 0 0) (.int .i64 0) ∧ NW (lo ≤ ·) w' l (.slice (some ⟨gN, 0, none⟩) ns.length c) ns) := ⟨fun w' hf => ⟨hf.blk HAB.out (by omega), hf.blk HBB.out (by omega), HNWB.out.fr hf (fun j hj e => by have h1 : lo ≤ j := HNWB.out.lo j hj; have h2 := HFGL.out j hj; omega)⟩⟩
    clear hst hnb hir hfk hrd hfr HQ0
    have c0 := gb_c0 (HSUB.out _ HFR.out).1; have c1 := gb_c1 (HSUB.out _ HFR.out).1
    by_cases hk : 0 < k
    · go_upto_region 6 with (go_at_call 95; refine (pick_c _ _ _ _ HRD.out (by omega) (by omega)).mono ?_; rintro e w3 ⟨y, rfl, hy0, hy1, hrd, hf⟩; have HRD3 := As.mk hrd; have HF3 := As.mk (HFR.out.trans (hf.mono (fun _ e => .inl e))); have HX3 := As.mk hf; have HY := As.mk (show 0 ≤ y ∧ y < ns.length by omega); clear hy0 hy1 hrd hf)
      have hnb3 : NB w3 b7 (.int .i64 kd) (.int .i64 vl) (.slice K ks.length ck') := HX3.out.blk HNB.out (by omega)
      have HNB3 := As.mk hnb3
      have HIR3 := As.mk (HIR.out.fr HX3.out (fun j hj e => by have h1 := HFK.out j hj; have h2 := HSB.out; omega))
      have n0 := NB.c0 hnb3; have n2 := NB.c2 hnb3; have f2 := NB.fz hnb3 2
      clear hnb3 c0 c1 HNB HIR HX3
      have hkk : k ≤ 4 := hk4
      have hgb7 : g < b7 := by omega
      have hb7B : b7 < wB.heap.size := by have := HSB.out; omega
      have hnb1 : ks.length ≤ 8 := by omega
      have HGO := As.mk (And.intro hgb7 hb7B)
      have HKB := As.mk hnb1
      clear hgb7 hb7B
      by_cases hc : kd = 2 ∨ kd = 3
      · have hp1 : (ks ++ [y]).length = ks.length + 1 := by simp
        have HP1 := As.mk hp1
        clear hp1
        rcases hc with rfl | rfl
        all_goals
          go_wp2_with ((at_builtin; refine app_int rfl _ _ rfl (.slice K ks.length ck') ks y rfl rfl HIR3.out (by omega) ?_; intro gP cP w4 hap; rw [AppI, HP1.out] at hap; obtain ⟨a1, a2, a3, -, -⟩ := hap; have HA1 := As.mk a1; have HAK := As.mk (ak_app (n' := ks.length + 1) (c' := cP) (A' := some ⟨gP, 0, none⟩) HNB3.out HIR3.out HFK.out HRD3.out HF3.out HGO.out.1 HGO.out.2 a2 (a3.elim (fun e => .inl (by rw [e]; rfl)) (fun e => .inr ⟨_, rfl, e⟩))); clear a1 a2 a3 n2 f2; have n2 := NB.c2 HAK.out.1; have f2 := NB.fz HAK.out.1 2))
          have HN := As.mk (akQ_put (q := q + 1) (k := k) (ks := ks ++ [y]) (p := p) HAK.out.1 HA1.out HP1.out.symm (by omega) HAK.out.2.1 hk4 (by omega) HAK.out.2.2.1 HAK.out.2.2.2 HGO.out.1)
          clear HAK HA1
          go_roundw
          case measure => simp only [intOf]; omega
          case rel => exact ⟨k - 1, by omega, by omega, by go_num, HN⟩
      have hc2 : kd ≠ 2 ∧ kd ≠ 3 := ⟨fun e => hc (.inl e), fun e => hc (.inr e)⟩
      have k2 : (kd == 2) = false := by simpa using hc2.1
      have k3 : (kd == 3) = false := by simpa using hc2.2
      clear hc hc2
      rcases bceq kd 5 with rfl | k5
      · have hx4 : Ext w3 (w3.alloc (.cells #[.int .i64 y] 3)) := (Ext.rf _).al _
        have hi4 : IR (w3.alloc (.cells #[.int .i64 y] 3)) (.slice (some ⟨w3.heap.size, 0, none⟩) 1 1) [y] := World.ownsRow_lit (base := 0) (size := 1) w3 #[.int .i64 y] 1 (Nat.zero_le _) (by decide) rfl
        have hf4 : Fresh (.slice (some ⟨w3.heap.size, 0, none⟩) 1 1) wB := by
          intro j hj
          have h9 : w3.heap.size = j := by injection hj
          have := HF3.out.size
          omega
        have HN := As.mk (akQ_put (q := q + 1) (k := k) (ks := [y]) (p := p) (hx4.blk HNB3.out) hi4 rfl (by omega) hf4 hk4 (by omega) (HRD3.out.ext hx4) (HF3.out.trans (Fr.ofExt hx4)) HGO.out.1)
        have m2 := NB.c2 (hx4.blk HNB3.out); have mf := NB.fz (hx4.blk HNB3.out) 2
        clear hx4 hi4 n2 f2
        go_wp2_with fail
        go_roundw
        case measure => simp only [intOf]; omega
        case rel => exact ⟨k - 1, by omega, by omega, by go_num, HN⟩
      rcases bceq kd 4 with rfl | k4
      · by_cases hl6 : (ks.length : Int) < 6
        · obtain ⟨j, rfl⟩ := Int.eq_ofNat_of_zero_le HY.out.1
          have hj : j < ns.length := by have := HY.out.2; omega
          obtain ⟨aN, K2, c2, hAN, z0, z1, z2, -, -⟩ := ((HSUB.out _ HF3.out).2.2.rd (by omega)).2 j hj
          cases hAN
          obtain ⟨kj, hkj⟩ : ∃ kj, kj = ns[j].kind := ⟨_, rfl⟩
          obtain ⟨vj, hvj⟩ : ∃ vj, vj = ns[j].val := ⟨_, rfl⟩
          obtain ⟨lj, hlj⟩ : ∃ lj, lj = ns[j].kids.length := ⟨_, rfl⟩
          rw [← hkj, (add_at gN (j * 3) 0).1] at z0
          rw [← hvj, (add_at gN (j * 3) 1).2] at z1
          rw [← hlj, (add_at gN (j * 3) 2).2] at z2
          have q2 : (j : Int) < ns.length := by omega
          have c0 := gb_c0 (HSUB.out _ HF3.out).1
          obtain ⟨b, hbb⟩ : ∃ b, b = decide (kj = 0 ∨ kj = 1) := ⟨_, rfl⟩
          have HBB2 := As.mk hbb
          clear hkj hvj hlj hbb
          cases b with
          | false =>
            go_wp2_with (go_at_call 110; refine (sisKey_c _ _ _ _).mono ?_; rw [← HBB2.out]; rintro e w4 ⟨rfl, hx⟩; have HX4 := As.mk hx; clear hx)
            go_roundw
            case measure => simp only [intOf]; omega
            case rel => exact ⟨k - 1, by omega, by omega, by go_num, ⟨akQ_skip (q := q + 1) (HX4.out.blk HNB3.out) (HIR3.out.ext HX4.out) rfl hn8 HFK.out hk4 (by omega) (HRD3.out.ext HX4.out) (HF3.out.trans (Fr.ofExt HX4.out))⟩⟩
          | true =>
            go_upto_region 14 with (go_at_call 110; refine (sisKey_c _ _ _ _).mono ?_; rw [← HBB2.out]; rintro e w4 ⟨rfl, hx⟩; have HX4 := As.mk hx; clear hx)
            have HNB4 := As.mk (HX4.out.blk HNB3.out)
            have HIR4 := As.mk (HIR3.out.ext HX4.out)
            have HRD4 := As.mk (HRD3.out.ext HX4.out)
            have HF4 : As (Fr (fun j => j = g ∨ j = b7) wB w4) := ⟨HF3.out.trans (Fr.ofExt HX4.out)⟩
            replace c0 := HX4.out.cellOf c0; replace n2 := HX4.out.cellOf n2
            clear z0 z1 z2 f2 HX4 HNB3 HIR3 HRD3 HF3
            refine region_perm (fun w' => w'.cell? ⟨gb, 0, none⟩ = some (.slice (some ⟨gN, 0, none⟩) ns.length c) ∧ w'.cell? ⟨b7, 2, none⟩ = some (.slice K ks.length ck')) [11] [(0, 0), (1, 1), (2, 0), (3, 0), (4, 0), (5, 1), (6, 0), (7, 2), (8, 2), (9, 2), (10, 0), (11, 3)] (by kernel_rfl) (by kernel_rfl) rfl (by kernel_rfl) (fun _ _ _ _ h => h) ?_
            have hS := And.intro c0 n2
            repeat (first | refine wpP.c0 (h := ?_) | refine wpP.c1 (w := w4.drew) hS (h := ?_))
            refine wpP.ev (h := fun Kv hKv => ?_)
            have HD := As.mk ((Ext.rf w4).dr)
            generalize w4.drew = wd at HD ⊢
            go_wp2_with (go_at_call 95; refine (pick_c _ _ _ _ (HRD4.out.ext HD.out) (by omega) (by omega)).mono ?_; rintro e w5 ⟨z, rfl, -, -, hrd, hf⟩; have HRD5 := As.mk hrd; have HX5 := As.mk hf; clear hrd hf)
            have hF5 : Fr (fun j => j = g ∨ j = b7) wB w5 := (HF4.out.trans (Fr.ofExt HD.out)).trans (HX5.out.mono (fun _ e => .inl e))
            have hNB5 : NB w5 b7 (.int .i64 4) (.int .i64 vl) (.slice K ks.length ck') := HX5.out.blk (HD.out.blk HNB4.out) (by have := HGO.out.1; omega)
            have HF5 := As.mk hF5
            have HNB5 := As.mk hNB5
            have HIR5 := As.mk ((HIR4.out.ext HD.out).fr HX5.out (fun j hj e => by have h1 := HFK.out j hj; have h2 := HGO.out; omega))
            have c5 := gb_c0 (HSUB.out _ hF5).1; have n5 := NB.c2 hNB5
            refine hKv.out _ _ ⟨c5, n5⟩ ?_
            clear hKv Kv hS hF5 hNB5 c0 n2
            refine wpP.ev (h := fun Kv hKv => ?_)
            go_wp2_with fail
            have hx6 : Ext w5 (w5.alloc (.cells #[.int .i64 j, .int .i64 z] 3)) := (Ext.rf _).al _
            have hi6 : IR (w5.alloc (.cells #[.int .i64 j, .int .i64 z] 3)) (.slice (some ⟨w5.heap.size, 0, none⟩) 2 2) [(j : Int), z] := World.ownsRow_lit (base := 0) (size := 1) w5 #[.int .i64 j, .int .i64 z] 2 (Nat.zero_le _) (by decide) rfl
            have HX6 := As.mk hx6
            have HI6 := As.mk hi6
            clear hx6 hi6
            generalize w5.alloc (.cells #[.int .i64 j, .int .i64 z] 3) = w6 at HX6 HI6 ⊢
            refine hKv.out _ _ ⟨HX6.out.cellOf c5, HX6.out.cellOf n5⟩ ?_
            clear hKv Kv
            refine wpP.ev (h := fun Kv hKv => ?_)
            have hp2 : (ks ++ [(j : Int), z]).length = ks.length + 2 := by simp
            have HP2 := As.mk hp2
            clear hp2
            go_wp2_with ((at_builtin; refine app_ints rfl _ _ rfl (.slice K ks.length ck') ks ⟨w5.heap.size, 0, none⟩ 2 2 [(j : Int), z] rfl rfl rfl (rdA_J5 HI6.out (by simp)) (HIR5.out.ext HX6.out) (by omega) ?_; intro A' c' w7 hap; rw [AppS, HP2.out] at hap; obtain ⟨a1, a2, a3, -⟩ := hap; have HA1 := As.mk a1; have HAK := As.mk (ak_app (n' := ks.length + 2) (c' := c') (A' := A') (HX6.out.blk HNB5.out) (HIR5.out.ext HX6.out) HFK.out (HRD5.out.ext HX6.out) (HF5.out.trans (Fr.ofExt HX6.out)) HGO.out.1 HGO.out.2 a2 a3); clear a1 a2 a3))
            have n7 := NB.c2 HAK.out.1
            refine hKv.out _ _ ⟨gb_c0 (HSUB.out _ HAK.out.2.2.2).1, n7⟩ ?_
            clear hKv Kv c5 n5
            repeat (first | refine wpP.c0 (h := ?_))
            refine wpP.last (h := fun Kv hKv => ?_)
            have f7 := NB.fz HAK.out.1 2
            go_wp2_with fail
            refine hKv.out _ _ (wpP.done ?_)
            clear hKv Kv n7 f7
            have HN := As.mk (akQ_put (q := q + 1 + 1) (k := k) (ks := ks ++ [(j : Int), z]) (p := p) HAK.out.1 HA1.out HP2.out.symm (by omega) HAK.out.2.1 hk4 (by omega) HAK.out.2.2.1 HAK.out.2.2.2 HGO.out.1)
            clear HAK HA1
            go_wp2_with fail
            go_roundw
            case measure => simp only [intOf]; omega
            case rel => exact ⟨k - 1, by omega, by omega, by go_num, HN⟩
        · go_wp2_with fail
          go_roundw
          case measure => simp only [intOf]; omega
          case rel => exact ⟨k - 1, by omega, by omega, by go_num, ⟨akQ_skip (q := q + 1) HNB3.out HIR3.out rfl hn8 HFK.out hk4 (by omega) HRD3.out HF3.out⟩⟩
      go_wp2_with fail
      go_roundw
      case measure => simp only [intOf]; omega
      case rel => exact ⟨k - 1, by omega, by omega, by go_num, ⟨akQ_skip (q := q + 1) HNB3.out HIR3.out rfl hn8 HFK.out hk4 (by omega) HRD3.out HF3.out⟩⟩
    · have hnw := (HSUB.out _ HFR.out).2.2
      have HNW1 := As.mk hnw
      obtain ⟨z0, z1, z2⟩ := ncs_at l at_ hatl
      have hla : l[at_].1 = ns[at_] := by
        have h1 := hnw.ns
        have h2 : (l.map Prod.fst)[at_]'(by simpa using hatl) = ns[at_] := by simp only [h1]
        simpa using h2
      have HLA := As.mk hla
      have y0 := World.ownsRow.cells hnw.nr.1 (g := gN) rfl _ _ z0
      have y1 := World.ownsRow.cells hnw.nr.1 (g := gN) rfl _ _ z1
      have y2 := World.ownsRow.cells hnw.nr.1 (g := gN) rfl _ _ z2
      rw [(add_at gN (at_ * 3) 0).1, hla, ← HKD.out.1] at y0
      rw [(add_at gN (at_ * 3 + 1) 0).1, hla, ← HKD.out.2] at y1
      rw [(add_at gN (at_ * 3 + 2) 0).1, HNIL.out hatl] at y2
      clear z0 z1 z2 hla hnw
      have q9 : k ≤ 0 := by omega
      go_upto_region 16 with fail
      have hx5 : Ext wr (wr.alloc (.cells #[.int .i64 kd, .int .i64 vl, .slice none 0 0] 73)) := (Ext.rf _).al _
      have hn5 : NB (wr.alloc (.cells #[.int .i64 kd, .int .i64 vl, .slice none 0 0] 73)) wr.heap.size (.int .i64 kd) (.int .i64 vl) (.slice none 0 0) := al_new _ _
      have HX5 := As.mk hx5
      have HN5 := As.mk hn5
      have hs5 : wB.heap.size ≤ wr.heap.size := HFR.out.size
      clear hx5 hn5
      generalize wr.alloc (.cells #[.int .i64 kd, .int .i64 vl, .slice none 0 0] 73) = w5 at HX5 HN5 ⊢
      obtain ⟨b10, hb10⟩ : ∃ b10, b10 = wr.heap.size := ⟨_, rfl⟩
      have hb10' : gb + 3 ≤ b10 := by have := HSB.out; omega
      rw [← hb10] at HN5 ⊢
      clear hb10 hs5
      have HNW5 := As.mk (HNW1.out.ext HX5.out)
      have hnb5 := HX5.out.blk HNB.out
      replace c0 := HX5.out.cellOf c0; replace c1 := HX5.out.cellOf c1; replace y0 := HX5.out.cellOf y0; replace y1 := HX5.out.cellOf y1; replace y2 := HX5.out.cellOf y2
      have n0 := NB.c0 hnb5; have n1 := NB.c1 hnb5; have n2 := NB.c2 hnb5
      have f0 := own_fz HNW5.out.nr.1 (at_ * 3); have f1 := own_fz HNW5.out.nr.1 (at_ * 3 + 1); have f2 := own_fz HNW5.out.nr.1 (at_ * 3 + 2)
      have hset := HNW5.out.setAt at_ hatl kd vl ks (.slice K ks.length ck') (HIR.out.ext HX5.out) (by omega) (fun j hj hne => Apart.fresh (w := wB) (fun i hi => by have h1 := HFGL.out i (.inr ⟨_, List.getElem_mem hj, hi⟩); have h2 := HSB.out; omega) HFK.out) (fun j hj => by have h1 := HFK.out j hj; have h2 := HSB.out; show lo ≤ j; omega)
      have HSET := As.mk hset
      clear hset hnb5
      go_upto_region 17 with fail
      clear n0 n1 n2 f0 f1 f2 y0 y1 y2 c0 c1
      generalize (((w5.setCell ⟨gN, at_ * 3, none⟩ (.int .i64 kd)).setCell ⟨gN, at_ * 3 + 1, none⟩ (.int .i64 vl)).setCell ⟨gN, at_ * 3 + 2, none⟩ (.slice K ks.length ck')) = w6 at HSET ⊢
      have HGN : As (lo ≤ gN ∧ gN < gb) := ⟨⟨HNW5.out.lo gN (.inl rfl), HFGL.out gN (.inl rfl)⟩⟩
      have hF6 : Fr (fun j => j = g ∨ lo ≤ j) w w6 := (((Fr.ofExt HXB.out).trans (HFR.out.mono (fun j hj => hj.elim .inl (fun e => .inr (by omega))))).trans (Fr.ofExt HX5.out)).trans (HSET.out.2.mono (fun j hj => .inr (by rw [hj]; exact HGN.out.1)))
      have hRD6 : Rdr w6 g q := (HRD.out.ext HX5.out).fr HSET.out.2 (fun j hj => by have := HGN.out.1; omega)
      have hG6 : GB w6 gb (.slice (some ⟨gN, 0, none⟩) ns.length c) (.int .i64 r) := HSET.out.2.blk (HX5.out.blk (HSUB.out _ HFR.out).1) (by have := HGN.out.2; omega)
      have hG7 : GB w6 (gb + 1) (.slice none 0 0) (.int .i64 0) := HSET.out.2.blk (HX5.out.blk (HSUB.out _ HFR.out).2.1) (by have := HGN.out.2; omega)
      have hN6 : NB w6 b10 (.int .i64 kd) (.int .i64 vl) (.slice none 0 0) := HSET.out.2.blk HN5.out (by have := HGN.out.2; omega)
      have HF6 := As.mk hF6
      have HRD6 := As.mk hRD6
      have HG6 := As.mk hG6
      have HG7 := As.mk hG7
      have HN6 := As.mk hN6
      have HVC := As.mk (show Calls Try.prog 133 #[.agg #[.slice (some ⟨gN, 0, none⟩) ns.length c, .int .i64 r]] w6 (VgV (ns.set at_ ⟨kd, vl, ks⟩) r w6) from by
        have h1 : (ns.set at_ ⟨kd, vl, ks⟩).length = ns.length := List.length_set
        have h2 := validGraph_c (some ⟨gN, 0, none⟩) c (ns.set at_ ⟨kd, vl, ks⟩) r w6 (HSET.out.1.rd (by rw [h1]; omega))
        rwa [h1] at h2)
      clear hF6 hRD6 hG7 hN6 HFR HRD HSUB HNB HIR HFK HN5 HX5 HNW1 HNWB HXB HBB HAB HFGL
      have c0 := gb_c0 hG6; have c1 := gb_c1 hG6
      clear hG6
      have hq9 : q ≤ p + 9 := by omega
      by_cases hvg : VG (ns.set at_ ⟨kd, vl, ks⟩) r
      · have HV2 := As.mk hvg
        clear hvg
        go_upto_region 19 with (go_at_call 133; refine HVC.out.mono ?_; rintro e w7 ⟨b, rfl, hif, hx⟩; have hb : b = true := hif.2 HV2.out; subst hb; have HX7 := As.mk hx; clear hx hif)
        replace c0 := HX7.out.cellOf c0; replace c1 := HX7.out.cellOf c1
        have HG8 : As (GB w7 (gb + 1) (.slice none 0 0) (.int .i64 0)) := ⟨HX7.out.blk HG7.out⟩
        have d0 := gb_c0 HG8.out; have d1 := gb_c1 HG8.out; have e0 := gb_fz HG8.out 0; have e1 := gb_fz HG8.out 1
        go_wp2_with fail
        refine bodyPost_ret (results_cell rfl _ _ (gb + 1) _ rfl (loadG (gb_all _ _ HG8.out))) rfl ?_
        have hs8 : Fr (fun j => j = gb + 1) w7 ((w7.setCell ⟨gb + 1, 0, none⟩ (.slice (some ⟨gN, 0, none⟩) ns.length c)).setCell ⟨gb + 1, 1, none⟩ (.int .i64 r)) := (Fr.set (S := fun j => j = gb + 1) w7 _ (p := ⟨gb + 1, 0, none⟩) rfl).trans (Fr.set _ _ (p := ⟨gb + 1, 1, none⟩) rfl)
        have hn8 := HSET.out.1.ext HX7.out
        exact ⟨rfl, _, _, fun j hj => List.getElem?_set_ne (fun e => hj e.symm), hn8.fr hs8 (fun j hj e => by rw [e] at hj; exact hn8.nb HG8.out hj), List.length_set, HV2.out, ⟨q, hq9, (HRD6.out.ext HX7.out).fr hs8 (fun j hj => by omega)⟩, (HF6.out.trans (Fr.ofExt HX7.out)).trans (hs8.mono (fun j hj => .inr (by omega)))⟩
      · have HV2 := As.mk hvg
        clear hvg
        go_upto_region 18 with (go_at_call 133; refine HVC.out.mono ?_; rintro e w7 ⟨b, rfl, hif, hx⟩; have hb : b = false := (by cases b with | false => rfl | true => exact absurd (hif.1 rfl) HV2.out); subst hb; have HX7 := As.mk hx; clear hx hif)
        have hln2 : (l.set at_ (⟨kd, vl, ks⟩, .slice K ks.length ck')).length = l.length := List.length_set
        have hn7 := HSET.out.1.ext HX7.out
        have hset2 := hn7.setAt at_ (by rw [hln2]; exact hatl) kd vl [] (.slice none 0 0) (IR.nil _) (by simp) (fun j hj hne i hi e => by simp [Value.ownBlock] at e) (fun j hj => by simp [Value.ownBlock] at hj)
        rw [List.set_set, List.set_set] at hset2
        have hback : ns.set at_ ⟨kd, vl, []⟩ = ns := by
          have h1 : (⟨kd, vl, []⟩ : Nd) = ns[at_] := by
            have h2 := HLA.out
            have h3 := (HNW5.out.nr.2 _ (List.getElem_mem hatl)).1
            rw [HNIL.out hatl] at h3
            have h4 : ns[at_].kids = [] := by
              rw [h2] at h3
              rcases h3.2 with ⟨_, h0⟩ | ⟨_, _, _, hv, _⟩
              · exact List.length_eq_zero_iff.1 h0
              · exact nomatch hv
            rw [HKD.out.1, HKD.out.2, ← h4]
          rw [h1, List.set_getElem_self]
        rw [hback] at hset2
        obtain ⟨x0, x1, x2⟩ := ncs_at (l.set at_ (⟨kd, vl, ks⟩, .slice K ks.length ck')) at_ (by rw [hln2]; exact hatl)
        have y0 := World.ownsRow.cells hn7.nr.1 (g := gN) rfl _ _ x0
        have y1 := World.ownsRow.cells hn7.nr.1 (g := gN) rfl _ _ x1
        have y2 := World.ownsRow.cells hn7.nr.1 (g := gN) rfl _ _ x2
        rw [(add_at gN (at_ * 3) 0).1] at y0
        rw [(add_at gN (at_ * 3 + 1) 0).1] at y1
        rw [(add_at gN (at_ * 3 + 2) 0).1] at y2
        simp only [List.getElem_set_self] at y0 y1 y2
        have f0 := own_fz hn7.nr.1 (at_ * 3); have f1 := own_fz hn7.nr.1 (at_ * 3 + 1); have f2 := own_fz hn7.nr.1 (at_ * 3 + 2)
        have n7 := HX7.out.blk HN6.out
        have n0 := NB.c0 n7; have n1 := NB.c1 n7; have n2 := NB.c2 n7
        replace c0 := HX7.out.cellOf c0; replace c1 := HX7.out.cellOf c1
        have HS2 := As.mk hset2
        clear hset2 hback x0 x1 x2 hn7 n7 hln2
        go_upto_region 19 with fail
        clear y0 y1 y2 f0 f1 f2 n0 n1 n2 c0 c1
        generalize (((w7.setCell ⟨gN, at_ * 3, none⟩ (.int .i64 kd)).setCell ⟨gN, at_ * 3 + 1, none⟩ (.int .i64 vl)).setCell ⟨gN, at_ * 3 + 2, none⟩ (.slice none 0 0)) = w8 at HS2 ⊢
        have HG9 : As (GB w8 gb (.slice (some ⟨gN, 0, none⟩) ns.length c) (.int .i64 r)) := ⟨HS2.out.2.blk (HX7.out.blk HG6.out) (by have := HGN.out.2; omega)⟩
        have HG8 : As (GB w8 (gb + 1) (.slice none 0 0) (.int .i64 0)) := ⟨HS2.out.2.blk (HX7.out.blk HG7.out) (by have := HGN.out.2; omega)⟩
        have c0 := gb_c0 HG9.out; have c1 := gb_c1 HG9.out
        have d0 := gb_c0 HG8.out; have d1 := gb_c1 HG8.out; have e0 := gb_fz HG8.out 0; have e1 := gb_fz HG8.out 1
        go_wp2_with fail
        refine bodyPost_ret (results_cell rfl _ _ (gb + 1) _ rfl (loadG (gb_all _ _ HG8.out))) rfl ?_
        have hs8 : Fr (fun j => j = gb + 1) w8 ((w8.setCell ⟨gb + 1, 0, none⟩ (.slice (some ⟨gN, 0, none⟩) ns.length c)).setCell ⟨gb + 1, 1, none⟩ (.int .i64 r)) := (Fr.set (S := fun j => j = gb + 1) w8 _ (p := ⟨gb + 1, 0, none⟩) rfl).trans (Fr.set _ _ (p := ⟨gb + 1, 1, none⟩) rfl)
        have hn8 := HS2.out.1
        have hf8 : Fr (fun j => j = g ∨ lo ≤ j) w w8 := (HF6.out.trans (Fr.ofExt HX7.out)).trans (HS2.out.2.mono (fun j hj => .inr (by rw [hj]; exact HGN.out.1)))
        exact ⟨rfl, _, _, fun j hj => List.getElem?_set_ne (fun e => hj e.symm), hn8.fr hs8 (fun j hj e => by rw [e] at hj; exact hn8.nb HG8.out hj), rfl, HVG.out, ⟨q, hq9, ((HRD6.out.ext HX7.out).fr HS2.out.2 (fun j hj => by have := HGN.out.1; omega)).fr hs8 (fun j hj => by omega)⟩, hf8.trans (hs8.mono (fun j hj => .inr (by omega)))⟩
end Go.Proofs.Ytgenllcfpjgklaa.C
