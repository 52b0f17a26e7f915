/- The writer: some nodes, one after the other. -/
import Derived.Test.YtgenllcfpjgklaaQi
import Derived.Deep.DeepCutAuto
import Derived.Deep.CutBlock
set_option linter.unusedVariables false
set_option linter.unusedSimpArgs false
namespace Go.Proofs.Ytgenllcfpjgklaa.P
theorem cost_bud {r x n n' : Nat} {m m' : List Int} (h : Cost r x n m n' m') (hr : r ≤ 12) : n' + 2500 * unm m' ≤ n + x + 2500 * unm m := by
  have h1 := (h.rank hr).2
  have h2 := unm_le h.1
  omega
end Go.Proofs.Ytgenllcfpjgklaa.P
namespace Go.Proofs.Ytgenllcfpjgklaa.C
open Go.RowKit Go.Proofs.Ytgenllcfpjgklaa.W Go.Proofs.Ytgenllcfpjgklaa.P

/-- A slice of so many orders comes back. -/
def EmV (n : Nat) (w : World) (e : Ending) (w' : World) : Prop := ∃ A c l, e = .returned (.slice A l.length c) ∧ RdO w' A l ∧ Ext w w' ∧ As (l.length = n)
theorem emit1_c (A : Option Addr) (cA : Nat) (l : List Opr) (a b : Int) (w : World) (hA : RdO w A l) (hl : l.length + 1 ≤ 1000000) :
    Calls Try.prog 127 #[.slice A l.length cA, .slice (some ⟨w.heap.size, 0, none⟩) 1 1] (w.alloc (.cells #[.int .i64 a, .int .i64 b] 52)) (EmV (l.length + 1) w) := by
  refine (emit_c A cA l _ _ [⟨a, b⟩] _ (hA.ext ((Ext.rf _).al _)) (rdO_one w ⟨a, b⟩) (by simp only [List.length_singleton]; omega)).mono ?_
  rintro e w3 ho
  obtain ⟨A3, c3, rfl, hr, hx⟩ := ho.rd (by simp only [List.length_append, List.length_singleton]; omega)
  exact ⟨A3, c3, _, rfl, hr, ((Ext.rf w).al _).trans hx, ⟨by simp⟩⟩
/-- The writer writes nodes whose key is below K. -/
def SaveOK (ns : List Nd) (A0 : Option Addr) (c0 : Nat) (root level : Int) (K : Nat) : Prop :=
  ∀ (at_ : Int) (A : Option Addr) (cA : Nat) (l : List Opr) (B : Option Addr) (cB : Nat) (m : List Int) (w : World), 0 ≤ at_ → at_ < ns.length → RdN w A0 ns → RdO w A l → RdI w B m → m.length = ns.length → l.length + 2500 * unm m + 20 * er ns at_ ≤ 100000 → unm m * 13 + er ns at_ < K →
    Calls Try.prog 125 #[.agg #[.slice A0 ns.length c0, .int .i64 root], .int .i64 level, .int .i64 at_, .slice A l.length cA, .slice B m.length cB] w (SavV (fun l' m' => Cost (er ns at_) 1 l.length m l'.length m' ∧ ((atN ns at_).kind ≠ 0 → 0 ≤ m'.getD at_.toNat 0)) w)
set_option maxRecDepth 100000 in
set_option maxHeartbeats 1000000 in
theorem saveAll_c {ns : List Nd} {A0 : Option Addr} {c0 : Nat} {root level : Int} {K : Nat} (hS : SaveOK ns A0 c0 root level K) (r : Nat) (hr : r ≤ 12) (D : Option Addr) (cD : Nat) (ks : List Int) (hks : ∀ k ∈ ks, (0 ≤ k ∧ k < ns.length) ∧ er ns k ≤ r) (hkl : ks.length ≤ 7)
    (A : Option Addr) (cA : Nat) (l : List Opr) (B : Option Addr) (cB : Nat) (m : List Int) (w : World) (hN : RdN w A0 ns) (hD : RdI w D ks) (hA : RdO w A l) (hB : RdI w B m) (hm : m.length = ns.length) (hb : l.length + 2500 * unm m + 20 * r ≤ 99990) (hK : unm m * 13 + r < K) :
    Calls Try.prog 139 #[.agg #[.slice A0 ns.length c0, .int .i64 root], .int .i64 level, .slice D ks.length cD, .slice A l.length cA, .slice B m.length cB] w (SavV (fun l' m' => Cost r ks.length l.length m l'.length m') w) := by
  have hx : Ext w (w.alloc (.cells #[.slice A0 ns.length c0, .int .i64 root] 105)) := (Ext.rf w).al _
  have ha : GB (w.alloc (.cells #[.slice A0 ns.length c0, .int .i64 root] 105)) w.heap.size (.slice A0 ns.length c0) (.int .i64 root) := al_new w _
  have HS := As.mk hS
  have HKS := As.mk hks
  have HX := As.mk hx
  have HG := As.mk ha
  have HN := As.mk (hN.ext hx)
  have HD := As.mk (hD.ext hx)
  have HA := As.mk (hA.ext hx)
  have HB := As.mk (hB.ext hx)
  have HM := As.mk hm
  have HBD := As.mk (And.intro hb hK)
  clear hS hks hx ha hN hD hA hB hm hb hK
  go_enter Try.func139, Try.ntmps139
  go_upto_region 1 with fail
  generalize (w.alloc (.cells #[.slice A0 ns.length c0, .int .i64 root] 105)) = w0 at HX HG HN HD HA HB ⊢
  generalize w.heap.size = g at HG ⊢
  go_upto_region 2 with fail
  go_loopw [3, 4, 12] (fun a b i wr => ∃ (k : Nat) (A1 : Option Addr) (c1 : Nat) (l1 : List Opr) (B1 : Option Addr) (d1 : Nat) (m1 : List Int), k ≤ ks.length ∧ a = .slice A1 l1.length c1 ∧ b = .slice B1 m1.length d1 ∧ i = .int .i64 k ∧ As (RdO wr A1 l1 ∧ RdI wr B1 m1 ∧ Ext w0 wr ∧ Cost r k l.length m l1.length m1)) (fun _ _ i _ => ks.length - (intOf i).toNat)
  case atStart => exact ⟨0, A, cA, l, B, cB, m, Nat.zero_le _, rfl, rfl, rfl, ⟨HA.out, HB.out, Ext.rf _, Cost.rf _ _ _⟩⟩
  case round =>
    obtain ⟨k, A1, c1, l1, B1, d1, m1, hk, rfl, rfl, rfl, hst⟩ := hrel
    by_cases hlt : k < ks.length
    · have q1 : (k : Int) < ks.length := by omega
      go_upto_region 4 with fail
      have g0 := gb_c0 (hst.out.2.2.1.blk HG.out); have g1 := gb_c1 (hst.out.2.2.1.blk HG.out)
      obtain ⟨ad, rfl, hc⟩ := (HD.out.ext hst.out.2.2.1).2 k hlt
      obtain ⟨x, hx⟩ : ∃ x, x = ks[k] := ⟨_, rfl⟩
      have HK := As.mk (show (0 ≤ x ∧ x < ns.length) ∧ er ns x ≤ r by rw [hx]; exact HKS.out _ (List.getElem_mem _))
      rw [← hx] at hc
      clear hx
      refine region_perm (fun w' => w'.cell? ⟨g, 0, none⟩ = some (.slice A0 ns.length c0) ∧ w'.cell? ⟨g, 1, none⟩ = some (.int .i64 root) ∧ w'.cell? (ad.add k) = some (.int .i64 x)) [] [(0, 1), (1, 0), (2, 0), (3, 0), (4, 0), (5, 1), (6, 0), (7, 0), (8, 2), (9, 0), (10, 0), (11, 0), (12, 0), (13, 0)] (by kernel_rfl) (by kernel_rfl) rfl (by kernel_rfl) (fun _ _ _ _ h => h) ?_
      have hS := And.intro g0 (And.intro g1 hc)
      repeat (first | refine wpP.c0 (h := ?_) | refine wpP.c1 (w := wr.drew) hS (h := ?_))
      refine wpP.ev (h := fun Kv hKv => ?_)
      have HDR := As.mk ((Ext.rf wr).dr)
      generalize wr.drew = wd at HDR ⊢
      go_wp2_with (go_at_call 125; refine (HS.out x A1 c1 l1 B1 d1 m1 _ HK.out.1.1 HK.out.1.2 (HN.out.ext (hst.out.2.2.1.trans HDR.out)) (hst.out.1.ext HDR.out) (hst.out.2.1.ext HDR.out) (hst.out.2.2.2.1.1.trans HM.out) (by have h1 := cost_bud hst.out.2.2.2 hr; have h2 := HBD.out.1; have h3 := HK.out.2; omega) (by have h1 := unm_le hst.out.2.2.2.1; have h2 := HBD.out.2; have h3 := HK.out.2; omega)).mono ?_; rintro e w3 ⟨A2, c2, l2, B2, d2, m2, rfl, h1, h2, h3, h4, -⟩; have HO3 := As.mk h1; have HI3 := As.mk h2; have HX3 := As.mk (HDR.out.trans h3); have HC3 := As.mk (h4.rank HK.out.2); clear h1 h2 h3 h4)
      refine hKv.out _ _ ⟨HX3.out.cellOf g0, HX3.out.cellOf g1, HX3.out.cellOf hc⟩ ?_
      clear hKv Kv hS g0 g1 hc
      repeat (first | refine wpP.c0 (h := ?_))
      refine wpP.done ?_
      have HNX : As (RdO w3 A2 l2 ∧ RdI w3 B2 m2 ∧ Ext w0 w3 ∧ Cost r (k + 1) l.length m l2.length m2) := ⟨HO3.out, HI3.out, hst.out.2.2.1.trans HX3.out, hst.out.2.2.2.trans HC3.out⟩
      clear hst HO3 HI3 HX3 HC3 HK HDR
      go_wp2_with fail
      go_roundw
      case measure => simp only [intOf]; omega
      case rel => exact ⟨k + 1, A2, c2, l2, B2, d2, m2, by omega, rfl, rfl, by go_num, HNX⟩
    · have hkn : k = ks.length := by omega
      have q1 : ¬ (k : Int) < ks.length := by omega
      have HKN := As.mk hkn
      clear hkn hk hlt
      go_wp2_with fail
      go_ret2
      obtain ⟨b1, b2, b3, b4⟩ := hst.out
      rw [HKN.out] at b4
      exact ⟨A1, c1, l1, B1, d1, m1, rfl, b1, b2, HX.out.trans b3, b4⟩
end Go.Proofs.Ytgenllcfpjgklaa.C
