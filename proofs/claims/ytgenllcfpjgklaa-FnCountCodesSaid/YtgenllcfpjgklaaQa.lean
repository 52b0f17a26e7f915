/- The reader that draws: what it picks. -/
import Derived.Test.YtgenllcfpjgklaaCv
import Derived.Laws.Bits64
set_option linter.unusedVariables false
set_option linter.unusedSimpArgs false
namespace Go.Proofs.Ytgenllcfpjgklaa.C
open Go.RowKit Go.Proofs.Ytgenllcfpjgklaa.W Go.Proofs.Ytgenllcfpjgklaa.P

theorem wrapQ (x : Int) (h1 : -9223372036854775808 ≤ x) (h2 : x ≤ 9223372036854775807) : IntKind.i64.wrap x = x := by rw [IntKind.wrap_i64]; omega
/-- The bytes that are read; they lie below the reader. -/
def RdBy (w : World) (A : Option Addr) (bs : List Int) (g : Nat) : Prop := bs.length ≤ 2000 ∧ ∀ k (h : k < bs.length), ∃ ad, A = some ad ∧ ad.block < g ∧ w.cell? (ad.add k) = some (.int .u8 bs[k]) ∧ 0 ≤ bs[k] ∧ bs[k] ≤ 255
abbrev RdrB (w : World) (g : Nat) (A : Option Addr) (n c : Nat) (p : Int) : Prop := w.heap[g]? = some (.cells #[.slice A n c, .int .i64 p] 88 (0, 0))
/-- A reader at g that has picked p times. -/
def Rdr (w : World) (g p : Nat) : Prop := p ≤ 1000000 ∧ ∃ A c bs, RdrB w g A bs.length c p ∧ RdBy w A bs g
theorem RdrB.c0 {w g A n c p} (h : RdrB w g A n c p) : w.cell? ⟨g, 0, none⟩ = some (.slice A n c) := by simp [World.cell?, h]
theorem RdrB.c1 {w g A n c p} (h : RdrB w g A n c p) : w.cell? ⟨g, 1, none⟩ = some (.int .i64 p) := by simp [World.cell?, h]
theorem RdrB.fz {w g A n c p} (h : RdrB w g A n c p) (j : Nat) : w.frozen? ⟨g, j, none⟩ = false := by simp [World.frozen?, h]
theorem RdrB.set {w g A n c p} (h : RdrB w g A n c p) (q : Int) : RdrB (w.setCell ⟨g, 1, none⟩ (.int .i64 q)) g A n c q := by
  have h' : w.heap[g]? = _ := h
  simp [RdrB, World.setCell, Array.getElem?_modify, h']
theorem Rdr.lt {w g p} (h : Rdr w g p) : g < w.heap.size := by
  obtain ⟨_, A, c, bs, h1, _⟩ := h
  exact (Array.getElem?_eq_some_iff.1 h1).1
/-- What is written lies above the reader. -/
theorem Rdr.fr {S : Nat → Prop} {w w' g p} (h : Rdr w g p) (hf : Fr S w w') (hs : ∀ k, S k → g < k) : Rdr w' g p := by
  obtain ⟨h0, A, c, bs, h1, h2, h3⟩ := h
  refine ⟨h0, A, c, bs, hf.blk h1 (fun e => by have := hs _ e; omega), h2, fun k hk => ?_⟩
  obtain ⟨ad, e1, e2, e3, e4⟩ := h3 k hk
  exact ⟨ad, e1, e2, hf.cell e3 (fun e => by rw [add_block] at e; have := hs _ e; omega), e4⟩
theorem Rdr.ext {w w' g p} (h : Rdr w g p) (e : Ext w w') : Rdr w' g p := h.fr (Fr.ofExt (S := fun _ => False) e) (fun _ h => h.elim)
theorem xor_i64 (a b : Nat) (ha : a < 4611686018427387904) (hb : b < 4611686018427387904) : bits .xor .i64 (a : Int) (b : Int) = ((a ^^^ b : Nat) : Int) ∧ a ^^^ b < 4611686018427387904 := by
  have hx : a ^^^ b < 2 ^ 62 := Nat.xor_lt_two_pow (by omega) (by omega)
  have h1 : (BitVec.ofInt 64 (a : Int)).toNat = a := by
    rw [BitVec.ofInt_natCast, BitVec.toNat_ofNat]; exact Nat.mod_eq_of_lt (by omega)
  have h2 : (BitVec.ofInt 64 (b : Int)).toNat = b := by
    rw [BitVec.ofInt_natCast, BitVec.toNat_ofNat]; exact Nat.mod_eq_of_lt (by omega)
  refine ⟨?_, by omega⟩
  show IntKind.i64.wrap ((BitVec.ofInt 64 (a : Int) ^^^ BitVec.ofInt 64 (b : Int)).toNat : Int) = _
  rw [BitVec.toNat_xor, h1, h2]
  exact wrapQ _ (by omega) (by omega)
theorem xor_nn (x : Int) (h0 : 0 ≤ x) (h1 : x ≤ 100000000) : 0 ≤ bits .xor .i64 x (x / 64) := by
  obtain ⟨n, rfl⟩ := Int.eq_ofNat_of_zero_le h0
  have e : (n : Int) / 64 = ((n / 64 : Nat) : Int) := rfl
  rw [e, (xor_i64 n (n / 64) (by omega) (by omega)).1]
  omega
/-- A number was picked. -/
def PickV (w : World) (g p : Nat) (n : Int) (e : Ending) (w' : World) : Prop := ∃ x : Int, e = .returned (.int .i64 x) ∧ 0 ≤ x ∧ (x < n ∨ x = 0) ∧ Rdr w' g (p + 1) ∧ Fr (fun k => k = g) w w'
theorem rdr_set {w g A c p bs} (h1 : RdrB w g A bs.length c p) (h2 : RdBy w A bs g) (q : Nat) (hq : q ≤ 1000000) : Rdr (w.setCell ⟨g, 1, none⟩ (.int .i64 q)) g q ∧ Fr (fun k => k = g) w (w.setCell ⟨g, 1, none⟩ (.int .i64 q)) := by
  have hf : Fr (fun k => k = g) w (w.setCell ⟨g, 1, none⟩ (.int .i64 q)) := Fr.set (S := fun k => k = g) w _ rfl
  refine ⟨⟨hq, A, c, bs, h1.set q, h2.1, fun k hk => ?_⟩, hf⟩
  obtain ⟨ad, e1, e2, e3, e4⟩ := h2.2 k hk
  exact ⟨ad, e1, e2, hf.cell e3 (fun e => by rw [add_block] at e; omega), e4⟩
set_option maxRecDepth 100000 in
set_option maxHeartbeats 4000000 in
theorem pick_c (w : World) (g p : Nat) (n : Int) (h : Rdr w g p) (hp : p + 1 ≤ 1000000) (hn : n ≤ 1000000) :
    Calls Try.prog 95 #[.pointer (some ⟨g, 0, none⟩), .int .i64 n] w (PickV w g p n) := by
  obtain ⟨h0, A, c, bs, hb, hr⟩ := h
  have hbl := hr.1
  have HB := As.mk hb
  have HR := As.mk hr
  have hS := rdr_set hb hr (p + 1) hp
  have HS := As.mk hS
  have c0 := RdrB.c0 hb; have c1 := RdrB.c1 hb; have f1 := RdrB.fz hb 1
  clear hb hr hS
  go_enter Try.func95, Try.ntmps95
  go_upto_region 2 with fail
  have hb2 := RdrB.set HB.out ((p : Int) + 1)
  have HF2 := As.mk HS.out
  have HR2 : As (RdBy (w.setCell ⟨g, 1, none⟩ (.int .i64 ((p : Int) + 1))) A bs g) := ⟨HR.out.1, fun k hk => by
    obtain ⟨ad, e1, e2, e3, e4⟩ := HR.out.2 k hk
    exact ⟨ad, e1, e2, (Fr.set (S := fun k => k = g) w (.int .i64 ((p : Int) + 1)) (p := ⟨g, 1, none⟩) rfl).cell e3 (fun e => by rw [add_block] at e; omega), e4⟩⟩
  have HW : As (Rdr (w.setCell ⟨g, 1, none⟩ (.int .i64 ((p : Int) + 1))) g (p + 1) ∧ Fr (fun k => k = g) w (w.setCell ⟨g, 1, none⟩ (.int .i64 ((p : Int) + 1)))) := ⟨HF2.out⟩
  clear c0 c1 f1 HS HF2 HB
  generalize w.setCell ⟨g, 1, none⟩ (.int .i64 ((p : Int) + 1)) = w1 at hb2 HR2 HW ⊢
  have c0 := RdrB.c0 hb2; have c1 := RdrB.c1 hb2
  clear hb2 HR
  by_cases h1 : n < 1
  · have HW0 : As (PickV w g p n (.returned (.int .i64 0)) w1) := ⟨0, rfl, Int.le_refl _, .inr rfl, HW.out.1, HW.out.2⟩
    clear HR2
    go_wp2_with fail
    go_ret
    exact HW0.out
  · have h1' : 1 ≤ n := by omega
    obtain ⟨m, hm⟩ : ∃ m, m = bs.length := ⟨_, rfl⟩
    have HM := As.mk hm
    rw [← hm] at c0 hbl
    rcases Nat.eq_zero_or_pos m with hz | hz
    · subst hz
      clear hm
      go_wp2_with fail
      go_ret
      exact ⟨0, rfl, Int.le_refl _, .inr rfl, HW.out.1, HW.out.2⟩
    · have hmz : (m : Int) ≠ 0 := by omega
      by_cases hk : p < m
      · obtain ⟨ad, rfl, -, e3, e4, e5⟩ := HR2.out.2 p (by rw [← hm]; exact hk)
        obtain ⟨b, hb⟩ : ∃ b, b = bs[p]'(by rw [← hm]; exact hk) := ⟨_, rfl⟩
        rw [← hb] at e3 e4 e5
        have q1 : (p : Int) < m := by omega
        have q2 := Int.emod_nonneg b (show n ≠ 0 by omega)
        have q3 := Int.emod_lt_of_pos b (show 0 < n by omega)
        have HQ := As.mk (And.intro q2 q3)
        clear hb hm q2 q3
        go_wp2_with fail
        go_ret
        exact ⟨_, rfl, HQ.out.1, .inl HQ.out.2, HW.out.1, HW.out.2⟩
      · have q0 : ¬ (p : Int) < m := by omega
        have hp0 : (0 : Int) ≤ (p : Int) := by omega
        have hmp : (0 : Int) < (m : Int) := by omega
        obtain ⟨q7, hq7⟩ : ∃ q7, q7 = p * 7 + 3 := ⟨_, rfl⟩
        have hl1 : p % m < m := Nat.mod_lt _ hz
        have hl2 : q7 % m < m := Nat.mod_lt _ hz
        have i1 : (0 : Int) ≤ (p : Int) % (m : Int) := Int.emod_nonneg _ hmz
        have i2 : (p : Int) % (m : Int) < (m : Int) := Int.emod_lt_of_pos _ hmp
        have i3 : (0 : Int) ≤ (q7 : Int) % (m : Int) := Int.emod_nonneg _ hmz
        have i4 : (q7 : Int) % (m : Int) < (m : Int) := Int.emod_lt_of_pos _ hmp
        obtain ⟨d, hd⟩ : ∃ d, d = p / m := ⟨_, rfl⟩
        have hd1 : d ≤ p := by rw [hd]; exact Nat.div_le_self _ _
        have hm0 : ¬ m = 0 := by omega
        obtain ⟨ad, rfl, -, x3, x4, x5⟩ := HR2.out.2 (p % m) (by omega)
        obtain ⟨ad', hA, -, y3, y4, y5⟩ := HR2.out.2 (q7 % m) (by omega)
        cases hA
        obtain ⟨b, hb⟩ : ∃ b, b = bs[p % m]'(by omega) := ⟨_, rfl⟩
        obtain ⟨b', hb'⟩ : ∃ b', b' = bs[q7 % m]'(by omega) := ⟨_, rfl⟩
        rw [← hb] at x3 x4 x5
        rw [← hb'] at y3 y4 y5
        clear hb hb' hm hk
        have w2e : IntKind.i64.wrap (b * 131) = b * 131 := wrapQ _ (by omega) (by omega)
        have w3e : IntKind.i64.wrap ((p : Int) * 7) = (p : Int) * 7 := wrapQ _ (by omega) (by omega)
        have w4e : IntKind.i64.wrap ((p : Int) * 7 + 3) = (q7 : Int) := by rw [hq7]; exact wrapQ _ (by omega) (by omega)
        have w6e : IntKind.i64.wrap (b' * 1117) = b' * 1117 := wrapQ _ (by omega) (by omega)
        have w7e : IntKind.i64.wrap (b * 131 + b' * 1117) = b * 131 + b' * 1117 := wrapQ _ (by omega) (by omega)
        have w8e : IntKind.i64.wrap ((p : Int) * 29) = (p : Int) * 29 := wrapQ _ (by omega) (by omega)
        have w9e : IntKind.i64.wrap (b * 131 + b' * 1117 + (p : Int) * 29) = b * 131 + b' * 1117 + (p : Int) * 29 := wrapQ _ (by omega) (by omega)
        clear hl1 hl2 hq7
        go_upto_region 7 with fail
        go_quiet (fail)
        go_wp2_with fail
        go_ret
        have hd2 : 0 ≤ (p : Int) / (m : Int) := Int.ediv_nonneg hp0 (by omega)
        have hd3 : (p : Int) / (m : Int) ≤ p := Int.ediv_le_self _ hp0
        exact ⟨_, rfl, Int.tmod_nonneg _ (xor_nn _ (by omega) (by omega)), .inl (Int.tmod_lt_of_pos _ (by omega)), HW.out.1.ext ((Ext.rf _).dN _), HW.out.2.trans (Fr.ofExt ((Ext.rf _).dN _))⟩
/-- One of some numbers. -/
def OneV (w : World) (g p : Nat) (l : List Int) (e : Ending) (w' : World) : Prop := ∃ x : Int, e = .returned (.int .i64 x) ∧ x ∈ l ∧ Rdr w' g (p + 1) ∧ Fr (fun k => k = g) w w'
set_option maxRecDepth 100000 in
theorem one_c (w : World) (g p : Nat) (A : Option Addr) (c : Nat) (l : List Int) (h : Rdr w g p) (hp : p + 1 ≤ 1000000) (hr : RdI w A l) (hg : ∀ ad, A = some ad → ad.block ≠ g) (hl : 0 < l.length) (hl2 : l.length ≤ 100) :
    Calls Try.prog 87 #[.pointer (some ⟨g, 0, none⟩), .slice A l.length c] w (OneV w g p l) := by
  have H := As.mk h
  have HR := As.mk hr
  have HG := As.mk hg
  obtain ⟨n, hn⟩ : ∃ n, n = l.length := ⟨_, rfl⟩
  have HN := As.mk hn
  rw [← hn] at hl hl2 ⊢
  clear h hr hg hn
  go_enter Try.func87, Try.ntmps87
  go_wp2_with (go_at_call 95; refine (pick_c _ _ _ _ H.out hp (by omega)).mono ?_; rintro e w1 ⟨x, rfl, hx0, hx1, hrd, hf⟩; obtain ⟨j, rfl⟩ := Int.eq_ofNat_of_zero_le hx0; have HRD := As.mk hrd; have HF := As.mk hf; have hj : j < n := (by omega); obtain ⟨ad, hA, hc⟩ := (HR.out.fr HF.out (fun ad e => HG.out ad e)).2 j (by have := HN.out; omega); subst hA; have HJ := As.mk (show l[j]'(by have := HN.out; omega) ∈ l from List.getElem_mem _); obtain ⟨z, hz⟩ : ∃ z, z = l[j]'(by have := HN.out; omega) := ⟨_, rfl⟩; rw [← hz] at hc HJ; clear hz hrd hf hx1)
  go_ret
  exact ⟨_, rfl, HJ.out, HRD.out, HF.out⟩
end Go.Proofs.Ytgenllcfpjgklaa.C
