/- The writer's small parts: emit, memoed, an empty memo. -/
import Derived.Test.YtgenllcfpjgklaaHo
import Derived.Test.YtgenllcfpjgklaaCv
import Derived.Test.YtgenllcfpjgklaaPv
set_option linter.unusedVariables false
set_option linter.unusedSimpArgs false
namespace Go.Proofs.Ytgenllcfpjgklaa.C
open Go.RowKit Go.Proofs.Ytgenllcfpjgklaa.W Go.Proofs.Ytgenllcfpjgklaa.P

theorem rdO_one (w : World) (o : Opr) : RdO (w.alloc (.cells #[.int .i64 o.code, .int .i64 o.arg] 52)) (some ⟨w.heap.size, 0, none⟩) [o] :=
  rdA_O (n := 1) (c := 1) (l := [o]) (World.ownsRow_lit (base := 0) (e := 52) (size := 2) w #[.int .i64 o.code, .int .i64 o.arg] 1 (Nat.zero_le _) (by decide) rfl) (by simp)
theorem OwnO.rd {l : List Opr} {w : World} {e : Ending} {w' : World} (h : OwnO l w e w') (hl : l.length ≤ 1000000) : ∃ A c, e = .returned (.slice A l.length c) ∧ RdO w' A l ∧ Ext w w' := by
  obtain ⟨A, c, h1, h2, h3, _⟩ := h
  exact ⟨A, c, h1, rdA_O h2 (by omega), h3⟩
theorem fo_lo {v v' : Value} {W : World} {b : Nat} (h : FreshOr v v' W) (hv : ∀ k, v.ownBlock = some k → b ≤ k) (hb : b ≤ W.heap.size) : ∀ k, v'.ownBlock = some k → b ≤ k := by
  intro k hk
  rcases h with h | ⟨c, h, h2⟩
  · rw [h] at hk; exact hv k hk
  · rw [h] at hk; injection hk with hk; omega
set_option maxRecDepth 100000 in
theorem emit_c (A : Option Addr) (cA : Nat) (l : List Opr) (B : Option Addr) (cB : Nat) (r : List Opr) (w : World) (hA : RdO w A l) (hB : RdO w B r) (hl : l.length + r.length ≤ 1000000) :
    Calls Try.prog 127 #[.slice A l.length cA, .slice B r.length cB] w (OwnO (l ++ r) w) := by
  have HA := As.mk hA
  have HB := As.mk hB
  have hll : (l ++ r).length = l.length + r.length := by simp
  have HLL := As.mk hll
  clear hA hB hll
  go_enter Try.func127, Try.ntmps127
  go_wp2_with (first | (at_builtin; refine app_opsA rfl _ _ rfl (.slice (some ⟨w.heap.size, 0, none⟩) 0 0) [] A l.length cA l rfl rfl rfl (HA.out.ext ((Ext.rf w).al _)) (World.ownsRow_lit (base := 0) (size := 2) w #[] 0 (Nat.zero_le _) (by simp) rfl) (by simp; omega) ?_; intro A1 c1 w1 h1 h2 h3; have HO := As.mk (show OR w1 (.slice A1 l.length c1) l by simpa using h1); have HX : As (Ext w w1) := ⟨(Fr.then (S := fun _ => False) (Fr.ofExt ((Ext.rf w).al (.cells #[] 52))) h2 (fun i hi => .inr (by simp [Value.ownBlock] at hi; omega))).ext (fun _ h => h.elim)⟩; have HF : As (∀ k, (Value.slice A1 l.length c1).ownBlock = some k → w.heap.size ≤ k) := ⟨fo_lo (by simpa using h3) (fun k hk => by simp [Value.ownBlock] at hk; omega) (by simp [al_size])⟩; clear h1 h2 h3; simp only [List.length_nil, Nat.zero_add]) | (at_builtin; refine app_opsA rfl _ _ rfl (.slice A1 l.length c1) l B r.length cB r rfl rfl rfl (HB.out.ext HX.out) HO.out (by omega) ?_; intro A2 c2 w2 h1 h2 h3; have HR := As.mk h1; have HX2 : As (Ext w w2) := ⟨(Fr.then (S := fun _ => False) (Fr.ofExt HX.out) h2 (fun i hi => .inr (HF.out i hi))).ext (fun _ h => h.elim)⟩; have HF2 : As (∀ k, (Value.slice A2 (l.length + r.length) c2).ownBlock = some k → w.heap.size ≤ k) := ⟨fo_lo h3 HF.out HX.out.size⟩; clear h1 h2 h3))
  go_ret
  refine ⟨A2, c2, by rw [HLL.out]; rfl, ?_, HX2.out, ?_⟩
  · rw [HLL.out]; exact HR.out
  · rw [HLL.out]; exact HF2.out
/-- Two slices come back. -/
def SavV (Q : List Opr → List Int → Prop) (w : World) (e : Ending) (w' : World) : Prop := ∃ A c l B d m, e = .returned (.tuple #[.slice A l.length c, .slice B m.length d]) ∧ RdO w' A l ∧ RdI w' B m ∧ Ext w w' ∧ Q l m
set_option maxRecDepth 100000 in
theorem memoed_c (A : Option Addr) (cA : Nat) (l : List Opr) (B : Option Addr) (cB : Nat) (m : List Int) (a : Int) (w : World) (hA : RdO w A l) (hB : RdI w B m) (hl : l.length + 1 ≤ 1000000) (hm : m.length ≤ 1000) (h0 : 0 ≤ a) (h1 : a < m.length) :
    Calls Try.prog 136 #[.slice A l.length cA, .slice B m.length cB, .int .i64 a] w (SavV (fun l' m' => l'.length = l.length + 1 ∧ ∃ z : Int, 0 ≤ z ∧ m' = m.set a.toNat z) w) := by
  have HA := As.mk hA
  have HB := As.mk hB
  obtain ⟨k, rfl⟩ := Int.eq_ofNat_of_zero_le h0
  have hk : k < m.length := by omega
  clear hA hB h0 h1
  go_enter Try.func136, Try.ntmps136
  go_upto_region 3 with fail
  go_loop [8, 9] (fun n i => ∃ k q : Nat, k ≤ m.length ∧ q ≤ k ∧ i = .int .i64 k ∧ n = .int .i64 q) (fun _ i => m.length - (intOf i).toNat)
  case atStart => exact ⟨0, 0, Nat.zero_le _, Nat.le_refl _, rfl, rfl⟩
  case round =>
    obtain ⟨j, q, hj, hq, rfl, rfl⟩ := hrel
    by_cases hlt : j < m.length
    · obtain ⟨ad, rfl, hc⟩ := HB.out.2 j hlt
      generalize m[j] = x at hc
      have q1 : (j : Int) < m.length := by omega
      by_cases hx : 0 ≤ x
      · go_wp2_with fail
        go_roundw
        case measure => simp only [intOf]; omega
        case rel => exact ⟨j + 1, q + 1, by omega, by omega, by go_num, by go_num⟩
      · go_wp2_with fail
        go_roundw
        case measure => simp only [intOf]; omega
        case rel => exact ⟨j + 1, q, by omega, by omega, by go_num, rfl⟩
    · have q1 : ¬ (j : Int) < m.length := by omega
      have hzz : q ≤ 1000 := by omega
      clear hj hq hlt
      go_upto_region 8 with (go_at_call 121; refine (copyInts_c _ _ _ _ HB.out).mono ?_; rintro e w1 ⟨B1, c1, rfl, hi, hx, hf⟩; have HI := As.mk hi; have HX := As.mk hx; have HF := As.mk hf; clear hi hx hf)
      cases B1 with
      | none =>
        have hf : False := by obtain ⟨ad, h, _⟩ := (rdA_I HI.out (by omega)).2 k hk; cases h
        exact hf.elim
      | some ad =>
        have hhi : (Value.slice (some ad) m.length c1).ownBlock = some (ad.add k).block := (IR.fzA HI.out k).2
        obtain ⟨ad', hh, hc⟩ := (rdA_I HI.out (by omega)).2 k hk
        injection hh with hh
        subst hh
        have hfz := (IR.fzA HI.out k).1
        have HI2 : As (IR (w1.setCell (ad.add k) (.int .i64 q)) (.slice (some ad) m.length c1) (m.set k q)) := ⟨IR.setA HI.out k q⟩
        have HX2 : As (Ext w (w1.setCell (ad.add k) (.int .i64 q))) := ⟨HX.out.st (HF.out _ hhi) _⟩
        clear hhi
        go_upto_region 9 with fail
        generalize w1.setCell (ad.add k) (.int .i64 q) = w2 at HI2 HX2 ⊢
        have HM := As.mk (show (m.set k (q : Int)).length = m.length by simp)
        clear hc hfz HI HX HF
        go_wp2_with (go_at_call 127; refine (emit_c A cA l _ _ [⟨15, q⟩] _ (HA.out.ext (HX2.out.al _)) (rdO_one w2 ⟨15, q⟩) (by simp only [List.length_singleton]; omega)).mono ?_; rintro e w3 ho; obtain ⟨A3, c3, rfl, hr, hx⟩ := ho.rd (by simp only [List.length_append, List.length_singleton]; omega); have HR3 := As.mk hr; have HX3 := As.mk (((Ext.rf w2).al _).trans hx); clear ho hr hx)
        go_ret2
        refine ⟨A3, c3, l ++ [⟨15, q⟩], some ad, c1, m.set k q, ?_, HR3.out, ?_, HX2.out.trans HX3.out, by simp, q, by omega, rfl⟩
        · rw [HM.out, show (l ++ [(⟨15, q⟩ : Opr)]).length = l.length + 1 by simp]; rfl
        · have h := HI2.out
          rw [← HM.out] at h
          exact (rdA_I h (by rw [HM.out]; omega)).ext HX3.out
set_option maxRecDepth 100000 in
theorem emptyMemo_c (A : Option Addr) (cA n : Nat) (r : Int) (w : World) (hn : n ≤ 1000) :
    Calls Try.prog 126 #[.agg #[.slice A n cA, .int .i64 r]] w (ClonePost (List.replicate n (-1)) w) := by
  have hx : Ext w (w.alloc (.cells #[.slice A n cA, .int .i64 r] 105)) := (Ext.rf w).al _
  have ha : GB (w.alloc (.cells #[.slice A n cA, .int .i64 r] 105)) w.heap.size (.slice A n cA) (.int .i64 r) := al_new w _
  have HX := As.mk hx
  have HA := As.mk ha
  clear hx ha
  go_enter Try.func126, Try.ntmps126
  go_upto_region 1 with fail
  generalize hw0 : (w.alloc (.cells #[.slice A n cA, .int .i64 r] 105)) = w0 at HX HA ⊢
  have hs0 : w0.heap.size = w.heap.size + 1 := by rw [← hw0, al_size]
  have HS0 := As.mk hs0
  clear hw0 hs0
  obtain ⟨g, hg⟩ : ∃ g, g = w.heap.size := ⟨_, rfl⟩
  have HG := As.mk hg
  rw [← hg] at HA ⊢
  clear hg
  go_upto_region 3 with fail
  have HQ0 : As (IR (w0.alloc (.cells #[] 3)) (.slice (some ⟨w0.heap.size, 0, none⟩) 0 0) (List.replicate 0 (-1)) ∧ (∀ k, (Value.slice (some ⟨w0.heap.size, 0, none⟩) 0 0).ownBlock = some k → w0.heap.size ≤ k) ∧ Ext w0 (w0.alloc (.cells #[] 3))) := ⟨World.ownsRow_lit (base := 0) (size := 1) w0 #[] 0 (Nat.zero_le _) (by simp) rfl, fun k hk => by simp [Value.ownBlock] at hk; omega, (Ext.rf w0).al _⟩
  go_loopw [3, 4] (fun v i wr => ∃ k c : Nat, ∃ B : Option Addr, k ≤ n ∧ i = .int .i64 k ∧ v = .slice B k c ∧ As (IR wr (.slice B k c) (List.replicate k (-1)) ∧ (∀ j, (Value.slice B k c).ownBlock = some j → w0.heap.size ≤ j) ∧ Ext w0 wr)) (fun _ i _ => n - (intOf i).toNat)
  case atStart => exact ⟨0, 0, _, Nat.zero_le _, rfl, rfl, HQ0⟩
  case round =>
    obtain ⟨k, c, B, hk, rfl, rfl, hst⟩ := hrel
    have c0 := gb_c0 (hst.out.2.2.blk HA.out); have c1 := gb_c1 (hst.out.2.2.blk HA.out)
    clear HQ0
    by_cases hlt : k < n
    · have q1 : (k : Int) < n := by omega
      go_wp2_with ((at_builtin; refine app_int rfl _ _ rfl (.slice B k c) (List.replicate k (-1)) (-1) rfl rfl hst.out.1 (by simp; omega) ?_; intro gN cN w1 hap; have HAP := As.mk hap; clear hap))
      have HNX : As (IR w1 (.slice (some ⟨gN, 0, none⟩) (k + 1) cN) (List.replicate (k + 1) (-1)) ∧ (∀ j, (Value.slice (some ⟨gN, 0, none⟩) (k + 1) cN).ownBlock = some j → w0.heap.size ≤ j) ∧ Ext w0 w1) := ⟨by
        obtain ⟨b1, b2, b3, -, -⟩ := HAP.out
        rw [← List.replicate_succ'] at b1
        refine ⟨by simpa using b1, fun j hj => ?_, (Fr.then (S := fun _ => False) (Fr.ofExt hst.out.2.2) b2 (fun i hi => .inr (hst.out.2.1 i hi))).ext (fun _ h => h.elim)⟩
        have e : gN = j := by injection hj
        rcases b3 with b3 | b3
        · have := hst.out.2.1 _ b3; omega
        · have := hst.out.2.2.size; omega⟩
      clear HAP
      go_roundw
      case measure => simp only [intOf]; omega
      case rel => exact ⟨k + 1, cN, _, by omega, by go_num, by simp, HNX⟩
    · have hkn : k = n := by omega
      have q1 : ¬ (k : Int) < n := by omega
      have HK := As.mk hkn
      clear hk hlt hkn
      go_wp2_with fail
      go_ret
      have hkn := HK.out
      subst hkn
      obtain ⟨b1, b2, b3⟩ := hst.out
      refine ⟨B, c, by simp, by simpa using b1, HX.out.trans b3, fun j hj => ?_⟩
      have h1 := b2 j (by simpa using hj)
      have := HS0.out
      omega
end Go.Proofs.Ytgenllcfpjgklaa.C
