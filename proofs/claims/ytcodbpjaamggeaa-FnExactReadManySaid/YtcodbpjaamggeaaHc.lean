/- The law's own functions: comparisons of what is equal, marks. -/
import Derived.Test.YtcodbpjaamggeaaHb
set_option linter.unusedVariables false
set_option linter.unusedSimpArgs false
namespace Go.Proofs.Ytcodbpjaamggeaa.C
open Go.RowKit Go.Proofs.Ytcodbpjaamggeaa.W Go.Proofs.Ytcodbpjaamggeaa.P

theorem eqOp_t (a b : Int) (w : World) : Calls Try.prog 79 #[.agg #[.int .i64 a, .int .i64 b], .agg #[.int .i64 a, .int .i64 b]] w fun e w' => e = .returned (.bool true) ∧ Ext w w' := by
  go_enter Try.func79, Try.ntmps79
  go_wp2_with fail
  go_ret
  exact ⟨rfl, ((Ext.rf _).al _).al _⟩
set_option maxRecDepth 100000 in
set_option maxHeartbeats 1000000 in
theorem eqOpS_t (A B : Option Addr) (cA cB : Nat) (l : List Opr) (w : World) (hA : RdO w A l) (hB : RdO w B l) : Calls Try.prog 23 #[.slice A l.length cA, .slice B l.length cB] w fun e w' => e = .returned (.bool true) ∧ Ext w w' := by
  have hlen := hA.1
  have HA := As.mk hA
  have HB := As.mk hB
  clear hA hB
  go_enter Try.func23, Try.ntmps23
  go_wp2_with fail
  go_loopw [5] (fun i wr => ∃ k : Nat, k ≤ l.length ∧ i = .int .i64 k ∧ As (Ext w wr)) (fun i _ => l.length - (intOf i).toNat)
  case atStart => exact ⟨0, Nat.zero_le _, rfl, ⟨Ext.rf _⟩⟩
  case round =>
    obtain ⟨k, hk, rfl, he⟩ := hrel
    by_cases hlt : k < l.length
    · obtain ⟨a, rfl, h1, h2⟩ := (HA.out.ext he.out).2 k hlt
      obtain ⟨b, rfl, h3, h4⟩ := (HB.out.ext he.out).2 k hlt
      obtain ⟨oc, hoc⟩ : ∃ oc, oc = l[k].code := ⟨_, rfl⟩
      obtain ⟨oa, hoa⟩ : ∃ oa, oa = l[k].arg := ⟨_, rfl⟩
      rw [← hoc] at h1 h3
      rw [← hoa] at h2 h4
      clear hoc hoa
      have q1 : (k : Int) < l.length := by omega
      go_upto_region 6 with fail
      refine region_perm (fun w' => w'.cell? (a.add (k * 2)) = some (.int .i64 oc) ∧ w'.cell? ⟨(a.add (k * 2)).block, (a.add (k * 2)).off + 1, none⟩ = some (.int .i64 oa) ∧ w'.cell? (b.add (k * 2)) = some (.int .i64 oc) ∧ w'.cell? ⟨(b.add (k * 2)).block, (b.add (k * 2)).off + 1, none⟩ = some (.int .i64 oa)) [] [(0, 0), (1, 0), (2, 0), (3, 1), (4, 0), (5, 0), (6, 0), (7, 1), (8, 2), (9, 0)] (by kernel_rfl) (by kernel_rfl) rfl (by kernel_rfl) (fun _ _ _ _ h => h) ?_
      have hS := And.intro h1 (And.intro h2 (And.intro h3 h4))
      repeat (first | refine wpP.c0 (h := ?_) | refine wpP.c1 (w := wr.drew) hS (h := ?_))
      refine wpP.ev (h := fun Kv hKv => ?_)
      go_wp2_with (go_at_call 79; refine (eqOp_t _ _ _).mono ?_; rintro e w4 ⟨rfl, hx⟩; have HX : As (Ext wr w4) := ⟨((Ext.rf _).dr).trans hx⟩; clear hx)
      refine hKv.out _ _ ⟨HX.out.cellOf h1, HX.out.cellOf h2, HX.out.cellOf h3, HX.out.cellOf h4⟩ ?_
      clear hKv Kv hS
      repeat (first | refine wpP.c0 (h := ?_))
      refine wpP.done ?_
      go_wp2_with fail
      go_roundw
      case measure => simp only [intOf]; omega
      case rel => exact ⟨k + 1, by omega, by go_num, ⟨he.out.trans HX.out⟩⟩
    · have hkl : k = l.length := by omega
      subst hkl
      go_wp2_with fail
      go_ret
      exact ⟨rfl, he.out⟩
/-- The marks of n orders from a number on. -/
def marksO (q : Int) : Nat → List Opr
  | 0 => []
  | n + 1 => ⟨q, q + 1⟩ :: marksO (q + 2) n
theorem marksO_len (q : Int) : ∀ n, (marksO q n).length = n
  | 0 => rfl
  | n + 1 => by simp [marksO, marksO_len]
theorem marksO_at : ∀ (n : Nat) (q : Int) (k : Nat) (h : k < (marksO q n).length), (marksO q n)[k] = ⟨q + 2 * k, q + 2 * k + 1⟩
  | 0, q, k, h => by simp [marksO] at h
  | n + 1, q, 0, h => by simp [marksO]
  | n + 1, q, k + 1, h => by
    have := marksO_at n (q + 2) k (by simpa [marksO] using h)
    simp only [marksO, List.getElem_cons_succ, this]
    have e : q + 2 + 2 * (k : Int) = q + 2 * ((k + 1 : Nat) : Int) := by omega
    rw [e]
/-- k orders of a row are marked. -/
theorem mark_step (l : List Opr) (q : Int) (k : Nat) (hk : k < l.length) : (((marksO q l.length).take k) ++ l.drop k).set k ⟨q + 2 * k, q + 2 * k + 1⟩ = ((marksO q l.length).take (k + 1)) ++ l.drop (k + 1) := by
  have hm := marksO_len q l.length
  rw [List.set_append_right _ _ (by rw [List.length_take, hm]; omega), List.take_succ_eq_append_getElem (by rw [hm]; exact hk), marksO_at, List.length_take, hm, Nat.min_eq_left (Nat.le_of_lt hk), Nat.sub_self, List.append_assoc]
  congr 1
  rw [List.drop_eq_getElem_cons hk]
  rfl
set_option maxRecDepth 100000 in
theorem markOpS_c (ad : Addr) (n c : Nat) (l : List Opr) (q : Int) (w : World) (hO : OR w (.slice (some ad) n c) l) (hn : n = l.length) (hl : n ≤ 4000000) (h0 : 0 ≤ q) (h1 : q ≤ 1000000000) :
    Calls Try.prog 28 #[.slice (some ad) n c, .int .i64 q] w fun e w' => e = .returned (.int .i64 (q + 2 * n)) ∧ OR w' (.slice (some ad) n c) (marksO q n) ∧ Fr (fun k => (Value.slice (some ad) n c).ownBlock = some k) w w' := by
  have HN := As.mk hn
  have HO := As.mk hO
  clear hn hO
  go_enter Try.func28, Try.ntmps28
  go_wp2_with fail
  go_loopw [1, 5] (fun a i wr => ∃ k : Nat, k ≤ n ∧ i = .int .i64 k ∧ a = .int .i64 (q + 2 * k) ∧ As (OR wr (.slice (some ad) n c) (((marksO q l.length).take k) ++ l.drop k)) ∧ As (Fr (fun k => (Value.slice (some ad) n c).ownBlock = some k) w wr)) (fun _ i _ => n - (intOf i).toNat)
  case atStart => exact ⟨0, Nat.zero_le _, rfl, by simp, ⟨by simpa using HO.out⟩, ⟨Fr.rf _ _⟩⟩
  case round =>
    obtain ⟨k, hk, rfl, rfl, hO, hf⟩ := hrel
    by_cases hlt : k < n
    · have hkl : k < l.length := by have := HN.out; omega
      have hkm : k < (((marksO q l.length).take k) ++ l.drop k).length := by rw [List.length_append, List.length_take, marksO_len, List.length_drop]; omega
      obtain ⟨_, hA, g1, g2⟩ := (rdA_O hO.out (by have := HN.out; rw [List.length_append, List.length_take, marksO_len, List.length_drop]; omega)).2 k hkm
      cases hA
      have g3 := (hO.out.fz (k * 2)).1
      have g4 := next_fz wr _ (hO.out.fz (k * 2)).2
      have g5 := next_cell wr _ g2
      have HKM := As.mk (And.intro hkl hkm)
      clear g2
      have q1 : (k : Int) < n := by omega
      obtain ⟨z, hz⟩ : ∃ z, z = q + 2 * (k : Int) := ⟨_, rfl⟩
      rw [← hz]
      have z1 : 0 ≤ z := by omega
      have z2 : z ≤ 2000000000 := by omega
      have HZ := As.mk hz
      clear hz
      go_wp2_with fail
      go_roundw
      case measure => simp only [intOf]; omega
      case rel =>
        have h1 := OR.setA hO.out k HKM.out.2 ⟨z, z + 1⟩
        rw [HZ.out, mark_step l q k HKM.out.1, ← HZ.out] at h1
        have hb := OR.blk hO.out (k * 2)
        exact ⟨k + 1, by omega, by go_num, by rw [HZ.out]; congr 1; omega, ⟨h1⟩, ⟨(hf.out.trans (Fr.set _ _ hb)).trans (Fr.set _ _ hb)⟩⟩
    · have hkl : k = n := by omega
      subst hkl
      go_wp2_with fail
      go_ret
      refine ⟨rfl, ?_, hf.out⟩
      have := hO.out
      rw [HN.out, List.take_of_length_le (by rw [marksO_len]; exact Nat.le_refl _), List.drop_eq_nil_of_le (Nat.le_refl _), List.append_nil] at this
      rw [HN.out]
      exact this
set_option maxRecDepth 100000 in
theorem heldOpS_c (A : Option Addr) (n c : Nat) (q : Int) (w : World) (hr : RdO w A (marksO q n)) (hl : n ≤ 4000000) (h0 : 0 ≤ q) (h1 : q ≤ 1000000000) :
    Calls Try.prog 29 #[.slice A n c, .int .i64 q] w fun e w' => e = .returned (.int .i64 (q + 2 * n)) ∧ w = w' := by
  have HR := As.mk hr
  clear hr
  go_enter Try.func29, Try.ntmps29
  go_wp2_with fail
  go_loop [1, 5] (fun a i => ∃ k : Nat, k ≤ n ∧ i = .int .i64 k ∧ a = .int .i64 (q + 2 * k)) (fun _ i => n - (intOf i).toNat)
  case atStart => exact ⟨0, Nat.zero_le _, rfl, by simp⟩
  case round =>
    obtain ⟨k, hk, rfl, rfl⟩ := hrel
    by_cases hlt : k < n
    · obtain ⟨a, rfl, g1, g2⟩ := HR.out.2 k (by rw [marksO_len]; exact hlt)
      rw [marksO_at] at g1 g2
      simp only at g1 g2
      have q1 : (k : Int) < n := by omega
      obtain ⟨z, hz⟩ : ∃ z, z = q + 2 * (k : Int) := ⟨_, rfl⟩
      rw [← hz] at g1 g2 ⊢
      have z1 : 0 ≤ z := by omega
      have z2 : z ≤ 2000000000 := by omega
      have HZ := As.mk hz
      clear hz
      go_wp2_with fail
      go_round
      case measure => simp only [intOf]; omega
      case rel => exact ⟨k + 1, by omega, by go_num, by rw [HZ.out]; congr 1; omega⟩
    · have hkl : k = n := by omega
      subst hkl
      go_wp2_with fail
      go_ret
      exact ⟨rfl, rfl⟩
end Go.Proofs.Ytcodbpjaamggeaa.C
