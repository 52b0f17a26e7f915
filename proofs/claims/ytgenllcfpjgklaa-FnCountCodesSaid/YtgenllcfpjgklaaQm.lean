/- The writer: fill. -/
import Derived.Test.YtgenllcfpjgklaaQj
import Derived.Test.YtgenllcfpjgklaaQa
set_option linter.unusedVariables false
set_option linter.unusedSimpArgs false
namespace Go.Proofs.Ytgenllcfpjgklaa.C
open Go.RowKit Go.Proofs.Ytgenllcfpjgklaa.W Go.Proofs.Ytgenllcfpjgklaa.P

theorem slice_lhI (A : Option Addr) (n c i q : Nat) (h : i + q ≤ n) (hc : n ≤ c) :
    ∃ A' : Option Addr, (∀ W : World, (Instr.slice 23 (.slice A n c) (some (.int .i64 (i : Int))) (some (.int .i64 ((i : Int) + q))) none).run Try.prog W = .ok (.slice A' q (c - i)) W) ∧ (∀ (w : World) (l : List Int), l.length = n → RdI w A l → RdI w A' ((l.drop i).take q)) := by
  refine ⟨if c = i then A else A.map (·.add i), fun W => ?_, fun w l hl hr => ⟨by have := hr.1; simp; omega, fun k hk => ?_⟩⟩
  · have ht : Try.prog.underlying 23 = some (.slice 3) := by kernel_rfl
    obtain ⟨inf, hi, hsz⟩ : ∃ i, Try.prog.info? 3 = some i ∧ i.size = 1 := by
      obtain ⟨i, h, h2⟩ := Option.map_eq_some_iff.1 infoI
      exact ⟨i, h, by simp only [Prod.mk.injEq] at h2; exact h2.2.1⟩
    have hel : Try.prog.elem 23 = 3 := by simp [Program.elem, ht]
    have hu : Try.prog.underlying 23 = some (.slice (Try.prog.elem 23)) := by rw [hel]; exact ht
    rw [run_slice_lh W 23 A n c hu .i64 .i64 (i : Int) ((i : Int) + q) (by omega) (by omega) (by omega), hel]
    simp only [sizeOf, typeInfo, hi, hsz, sliced, Result.andThen, Int.toNat_natCast, show ((i : Int) + q).toNat = i + q by omega, Nat.mul_one, show i + q - i = q by omega, Sem.run_bind]
    simp [Result.andThen, hi, hsz]
  · simp only [List.length_take, List.length_drop] at hk
    obtain ⟨ad, ha, hcell⟩ := hr.2 (i + k) (by omega)
    rw [if_neg (by omega)]
    refine ⟨ad.add i, by rw [ha]; rfl, ?_⟩
    rw [add_add, hcell]
    simp
/-- A cost while a row is filled. -/
theorem cost_step {n n1 n2 : Nat} {m m1 m2 : List Int} {i q : Nat} (h : Cost 12 (2 * i) n m n1 m1) (k : Cost 12 q n1 m1 n2 m2) (hq : 1 ≤ q) : Cost 12 (2 * (i + q)) n m (n2 + 1) m2 := ((h.trans k).ops 1).more (by omega)
set_option maxRecDepth 100000 in
set_option maxHeartbeats 4000000 in
theorem fill_c {ns : List Nd} {A0 : Option Addr} {c0 : Nat} {root level : Int} {K : Nat} (hS : SaveOK ns A0 c0 root level K) (D : Option Addr) (cD : Nat) (ks : List Int) (hks : ∀ k ∈ ks, (0 ≤ k ∧ k < ns.length) ∧ er ns k ≤ 12) (hkl : ks.length ≤ 6) (hcD : ks.length ≤ cD) (q : Nat) (hq1 : 1 ≤ q) (hq2 : q ≤ 2) (hkq : ks.length % q = 0) (one all : Int)
    (A : Option Addr) (cA : Nat) (l : List Opr) (B : Option Addr) (cB : Nat) (m : List Int) (w : World) (hN : RdN w A0 ns) (hD : RdI w D ks) (hA : RdO w A l) (hB : RdI w B m) (hm : m.length = ns.length) (hb : l.length + 2500 * unm m + 240 ≤ 99900) (hK : unm m * 13 + 12 < K) :
    Calls Try.prog 138 #[.agg #[.slice A0 ns.length c0, .int .i64 root], .int .i64 level, .slice D ks.length cD, .int .i64 q, .int .i64 one, .int .i64 all, .slice A l.length cA, .slice B m.length cB] w (SavV (fun l' m' => Cost 12 12 l.length m l'.length m') w) := by
  have hx : Ext w (w.alloc (.cells #[.slice A0 ns.length c0, .int .i64 root] 105)) := (Ext.rf w).al _
  have ha : GB (w.alloc (.cells #[.slice A0 ns.length c0, .int .i64 root] 105)) w.heap.size (.slice A0 ns.length c0) (.int .i64 root) := al_new w _
  have HS := As.mk hS
  have HKS := As.mk hks
  have HX := As.mk hx
  have HG := As.mk ha
  have HN := As.mk (hN.ext hx)
  have HD := As.mk (hD.ext hx)
  have HA := As.mk (hA.ext hx)
  have HB := As.mk (hB.ext hx)
  have HM := As.mk hm
  have HKQ := As.mk hkq
  have HBD := As.mk (And.intro hb hK)
  clear hS hks hx ha hN hD hA hB hm hb hK hkq
  go_enter Try.func138, Try.ntmps138
  go_upto_region 1 with fail
  generalize (w.alloc (.cells #[.slice A0 ns.length c0, .int .i64 root] 105)) = w0 at HX HG HN HD HA HB ⊢
  generalize w.heap.size = g at HG ⊢
  have hll : l.length ≤ 99900 := by have := HBD.out.1; omega
  rcases (show level ≤ 0 ∨ (0 < level ∧ (ks.length : Int) ≤ q) ∨ (0 < level ∧ (q : Int) < ks.length) by omega) with h | ⟨h, h'⟩ | ⟨h, h'⟩
  case inr.inr =>
    have g0 := gb_c0 HG.out; have g1 := gb_c1 HG.out
    go_upto_region 3 with (go_at_call 127; refine (emit1_c A cA l _ _ _ HA.out (by omega)).mono ?_; rintro e w3 ⟨A3, c3, l3, rfl, hr, hx, HL3⟩; have HR3 := As.mk hr; have HX3 := As.mk hx; clear hr hx)
    clear g0 g1
    have g0 := gb_c0 (HX3.out.blk HG.out); have g1 := gb_c1 (HX3.out.blk HG.out)
    go_upto_region 4 with (go_at_call 139; refine (saveAll_c HS.out 12 (by omega) D cD ks HKS.out (by omega) A3 c3 l3 B cB m _ (HN.out.ext HX3.out) (HD.out.ext HX3.out) HR3.out (HB.out.ext HX3.out) HM.out (by have h1 := HBD.out.1; have h2 := HL3.out; omega) HBD.out.2).mono ?_; rintro e w4 ⟨A4, c4, l4, B4, d4, m4, rfl, h1, h2, h3, h4⟩; have HO4 := As.mk h1; have HI4 := As.mk h2; have HX4 := As.mk (HX3.out.trans h3); have HC4 := As.mk h4; have hl4 : l4.length ≤ 200000 := (by have h5 := cost_bud h4 (by omega); have h6 := HBD.out.1; have h7 := HL3.out; omega); clear h1 h2 h3 h4)
    go_wp2_with (go_at_call 127; refine (emit1_c A4 c4 l4 _ _ _ HO4.out (by omega)).mono ?_; rintro e w5 ⟨A5, c5, l5, rfl, hr, hx, HL5⟩; have HR5 := As.mk hr; have HX5 := As.mk hx; clear hr hx)
    go_ret2
    refine ⟨A5, c5, l5, B4, d4, m4, rfl, HR5.out, HI4.out.ext HX5.out, HX.out.trans (HX4.out.trans HX5.out), ?_⟩
    have h1 := HC4.out
    rw [HL3.out] at h1
    show Cost 12 12 l.length m l5.length m4
    rw [HL5.out]
    exact (((show Cost 12 1 l.length m (l.length + 1) m from (Cost.rf 12 l.length m).ops 1).trans h1).ops 1).more (by omega)
  all_goals
    try have h9 : ¬ q < ks.length := by omega
    try have h10 : decide (q < ks.length) = false := decide_eq_false h9
    go_upto_region 6 with fail
    go_loopw [6, 7, 18] (fun a b i wr => ∃ (k : Nat) (A1 : Option Addr) (c1 : Nat) (l1 : List Opr) (B1 : Option Addr) (d1 : Nat) (m1 : List Int), k ≤ ks.length ∧ a = .slice A1 l1.length c1 ∧ b = .slice B1 m1.length d1 ∧ i = .int .i64 k ∧ As ((∃ z, k = q * z) ∧ RdO wr A1 l1 ∧ RdI wr B1 m1 ∧ Ext w0 wr ∧ Cost 12 (2 * k) l.length m l1.length m1)) (fun _ _ i _ => ks.length - (intOf i).toNat)
    case atStart => exact ⟨0, A, cA, l, B, cB, m, Nat.zero_le _, rfl, rfl, rfl, ⟨⟨0, rfl⟩, HA.out, HB.out, Ext.rf _, Cost.rf _ _ _⟩⟩
    case round =>
      obtain ⟨k, A1, c1, l1, B1, d1, m1, hk, rfl, rfl, rfl, hst⟩ := hrel
      by_cases hlt : k < ks.length
      · have q1 : (k : Int) < ks.length := by omega
        have hkq : k + q ≤ ks.length := by
          obtain ⟨z, hz⟩ := hst.out.1
          obtain ⟨y, hy⟩ := Nat.dvd_of_mod_eq_zero HKQ.out
          rw [hy, hz] at hlt ⊢
          have h9 : z < y := Nat.lt_of_mul_lt_mul_left hlt
          have h10 := Nat.mul_le_mul_left q (show z + 1 ≤ y from h9)
          rw [Nat.mul_add] at h10
          omega
        have hl1 : l1.length ≤ 200000 ∧ l1.length + 2500 * unm m1 ≤ l.length + 2 * k + 2500 * unm m := by
          have h5 := cost_bud hst.out.2.2.2.2 (by omega); have h6 := HBD.out.1; omega
        have HL1 := As.mk hl1
        clear hl1
        obtain ⟨D2, s1, s2⟩ := slice_lhI D ks.length cD k q hkq hcD
        obtain ⟨ks2, hks2⟩ : ∃ ks2, ks2 = (ks.drop k).take q := ⟨_, rfl⟩
        have HKS2 : As (∀ x ∈ ks2, (0 ≤ x ∧ x < ns.length) ∧ er ns x ≤ 12) := ⟨fun x hx => HKS.out x (List.mem_of_mem_drop (List.mem_of_mem_take (by rw [← hks2]; exact hx)))⟩
        have HD2 : As (∀ w', Ext w0 w' → RdI w' D2 ks2) := ⟨fun w' he => by rw [hks2]; exact s2 w' ks rfl (HD.out.ext he)⟩
        have hlen2 : ks2.length = q := by rw [hks2, List.length_take, List.length_drop]; omega
        have HLEN2 := As.mk hlen2
        have wr1 : IntKind.i64.wrap ((k : Int) + q) = (k : Int) + q := wrapQ _ (by omega) (by omega)
        clear hks2 s2 hlen2
        go_upto_region 8 with fail
        have g0 := gb_c0 (hst.out.2.2.2.1.blk HG.out); have g1 := gb_c1 (hst.out.2.2.2.1.blk HG.out)
        refine region_perm (fun w' => w'.cell? ⟨g, 0, none⟩ = some (.slice A0 ns.length c0) ∧ w'.cell? ⟨g, 1, none⟩ = some (.int .i64 root)) [] [(0, 1), (1, 0), (2, 0), (3, 0), (4, 0), (5, 0), (6, 0), (7, 0), (8, 0), (9, 0), (10, 2), (11, 0), (12, 0), (13, 0), (14, 0), (15, 0)] (by kernel_rfl) (by kernel_rfl) rfl (by kernel_rfl) (fun _ _ _ _ h => h) ?_
        have hS := And.intro g0 g1
        repeat (first | refine wpP.c0 (h := ?_) | refine wpP.c1 (w := wr.drew) hS (h := ?_))
        refine wpP.ev (h := fun Kv hKv => ?_)
        have HDR := As.mk ((Ext.rf wr).dr)
        generalize wr.drew = wd at HDR ⊢
        go_wp2_with (go_at_call 139; have hcall := saveAll_c HS.out 12 (by omega) D2 (cD - k) ks2 HKS2.out (by rw [HLEN2.out]; omega) A1 c1 l1 B1 d1 m1 wd (HN.out.ext (hst.out.2.2.2.1.trans HDR.out)) (HD2.out wd (hst.out.2.2.2.1.trans HDR.out)) (hst.out.2.1.ext HDR.out) (hst.out.2.2.1.ext HDR.out) (hst.out.2.2.2.2.1.1.trans HM.out) (by have h1 := HBD.out.1; have h2 := HL1.out; omega) (by have h1 := HBD.out.2; have h2 := unm_le hst.out.2.2.2.2.1; omega); rw [HLEN2.out] at hcall; refine hcall.mono ?_; clear hcall; rintro e w4 ⟨A4, c4, l4, B4, d4, m4, rfl, h1, h2, h3, h4⟩; have HO4 := As.mk h1; have HI4 := As.mk h2; have HX4 := As.mk (HDR.out.trans h3); have HC4 := As.mk h4; have hl4 : l4.length ≤ 200000 := (by have h5 := cost_bud h4 (by omega); have h6 := HBD.out.1; have h7 := HL1.out; omega); clear h1 h2 h3 h4)
        refine hKv.out _ _ ⟨HX4.out.cellOf g0, HX4.out.cellOf g1⟩ ?_
        clear hKv Kv hS g0 g1
        repeat (first | refine wpP.c0 (h := ?_))
        refine wpP.done ?_
        go_wp2_with (go_at_call 127; refine (emit1_c A4 c4 l4 _ _ _ HO4.out (by omega)).mono ?_; rintro e w5 ⟨A5, c5, l5, rfl, hr, hx, HL5⟩; have HR5 := As.mk hr; have HX5 := As.mk hx; clear hr hx)
        have HNX : As ((∃ z, k + q = q * z) ∧ RdO w5 A5 l5 ∧ RdI w5 B4 m4 ∧ Ext w0 w5 ∧ Cost 12 (2 * (k + q)) l.length m l5.length m4) := ⟨(by obtain ⟨z, hz⟩ := hst.out.1; exact ⟨z + 1, by rw [Nat.mul_add, ← hz]; omega⟩), HR5.out, HI4.out.ext HX5.out, hst.out.2.2.2.1.trans (HX4.out.trans HX5.out), by rw [HL5.out]; exact cost_step hst.out.2.2.2.2 HC4.out (by omega)⟩
        go_roundw
        case measure => simp only [intOf]; omega
        case rel => exact ⟨k + q, A5, c5, l5, B4, d4, m4, by omega, rfl, rfl, by go_num, HNX⟩
      · have hkn : k = ks.length := by omega
        have q1 : ¬ (k : Int) < ks.length := by omega
        have HKN := As.mk hkn
        clear hkn hk hlt
        go_wp2_with fail
        go_ret2
        obtain ⟨-, b1, b2, b3, b4⟩ := hst.out
        rw [HKN.out] at b4
        exact ⟨A1, c1, l1, B1, d1, m1, rfl, b1, b2, HX.out.trans b3, b4.more (by omega)⟩
end Go.Proofs.Ytgenllcfpjgklaa.C
