/- The law's own functions on rows of numbers. -/
import Derived.Test.YtcodbpjaamggeaaHc
set_option linter.unusedVariables false
set_option linter.unusedSimpArgs false
namespace Go.Proofs.Ytcodbpjaamggeaa.C
open Go.RowKit Go.Proofs.Ytcodbpjaamggeaa.W Go.Proofs.Ytcodbpjaamggeaa.P

theorem rdA_J {w : World} {A : Option Addr} {n c : Nat} {l : List Int} (h : IR w (.slice A n c) l) (hl : l.length ≤ 1000000000000) : RdI w A l := by
  obtain ⟨A', c', hv, _, hr⟩ := IR.rd h hl
  injection hv with hv
  subst hv
  exact hr
set_option maxRecDepth 100000 in
set_option maxHeartbeats 1000000 in
theorem eqIntS_t (A B : Option Addr) (cA cB : Nat) (l : List Int) (w : World) (hA : RdI w A l) (hB : RdI w B l) : Calls Try.prog 32 #[.slice A l.length cA, .slice B l.length cB] w fun e w' => e = .returned (.bool true) ∧ Ext w w' := by
  have hlen := hA.1
  have HA := As.mk hA
  have HB := As.mk hB
  clear hA hB
  go_enter Try.func32, Try.ntmps32
  go_wp2_with fail
  go_loopw [5] (fun i wr => ∃ k : Nat, k ≤ l.length ∧ i = .int .i64 k ∧ As (Ext w wr)) (fun i _ => l.length - (intOf i).toNat)
  case atStart => exact ⟨0, Nat.zero_le _, rfl, ⟨Ext.rf _⟩⟩
  case round =>
    obtain ⟨k, hk, rfl, he⟩ := hrel
    by_cases hlt : k < l.length
    · obtain ⟨a, rfl, h1⟩ := (HA.out.ext he.out).2 k hlt
      obtain ⟨b, rfl, h2⟩ := (HB.out.ext he.out).2 k hlt
      obtain ⟨z, hz⟩ : ∃ z, z = l[k] := ⟨_, rfl⟩
      rw [← hz] at h1 h2
      clear hz
      have q1 : (k : Int) < l.length := by omega
      go_upto_region 6 with fail
      refine region_perm (fun w' => w'.cell? (a.add k) = some (.int .i64 z) ∧ w'.cell? (b.add k) = some (.int .i64 z)) [] [(0, 0), (1, 0), (2, 0), (3, 1), (4, 0), (5, 0), (6, 0), (7, 1), (8, 0)] (by kernel_rfl) (by kernel_rfl) rfl (by kernel_rfl) (fun _ _ _ _ h => h) ?_
      have hS := And.intro h1 h2
      repeat (first | refine wpP.c0 (h := ?_) | refine wpP.c1 (w := wr.drew) hS (h := ?_))
      refine wpP.done ?_
      have HX : As (Ext w wr.drew) := ⟨he.out.dr⟩
      go_wp2_with fail
      go_roundw
      case measure => simp only [intOf]; omega
      case rel => exact ⟨k + 1, by omega, by go_num, HX⟩
    · have hkl : k = l.length := by omega
      subst hkl
      go_wp2_with fail
      go_ret
      exact ⟨rfl, he.out⟩
/-- The marks of n numbers from a number on. -/
def marksI (q : Int) : Nat → List Int
  | 0 => []
  | n + 1 => q :: marksI (q + 1) n
theorem marksI_len (q : Int) : ∀ n, (marksI q n).length = n
  | 0 => rfl
  | n + 1 => by simp [marksI, marksI_len]
theorem marksI_at : ∀ (n : Nat) (q : Int) (k : Nat) (h : k < (marksI q n).length), (marksI q n)[k] = q + k
  | 0, q, k, h => by simp [marksI] at h
  | n + 1, q, 0, h => by simp [marksI]
  | n + 1, q, k + 1, h => by
    have := marksI_at n (q + 1) k (by simpa [marksI] using h)
    simp only [marksI, List.getElem_cons_succ, this]
    omega
theorem markI_step (l : List Int) (q : Int) (k : Nat) (hk : k < l.length) : (((marksI q l.length).take k) ++ l.drop k).set k (q + k) = ((marksI q l.length).take (k + 1)) ++ l.drop (k + 1) := by
  have hm := marksI_len q l.length
  rw [List.set_append_right _ _ (by rw [List.length_take, hm]; omega), List.take_succ_eq_append_getElem (by rw [hm]; exact hk), marksI_at, List.length_take, hm, Nat.min_eq_left (Nat.le_of_lt hk), Nat.sub_self, List.append_assoc]
  congr 1
  rw [List.drop_eq_getElem_cons hk]
  rfl
theorem IR.fzA {w : World} {ad : Addr} {n c : Nat} {l : List Int} (h : IR w (.slice (some ad) n c) l) (j : Nat) : w.frozen? (ad.add j) = false ∧ (Value.slice (some ad) n c).ownBlock = some (ad.add j).block := by
  rcases h.2 with ⟨hv, _⟩ | ⟨g, cap, cur, hv, _, hh, _⟩
  · exact nomatch hv
  · injection hv with hv
    injection hv with hv
    subst hv
    rw [(add_at g j 0).1]
    exact ⟨by simp [World.frozen?, hh], rfl⟩
theorem IR.setA {w : World} {ad : Addr} {n c : Nat} {l : List Int} (h : IR w (.slice (some ad) n c) l) (k : Nat) (z : Int) : IR (w.setCell (ad.add k) (.int .i64 z)) (.slice (some ad) n c) (l.set k z) := by
  obtain ⟨A', c', hv, _, _⟩ := own_form h
  injection hv with hv1 hv2 hv3
  subst hv1 hv2 hv3
  have hf : World.ownsRow w 0 3 1 (.slice (some ad) l.length c) l.length (nums l) := h
  obtain ⟨gF, rfl⟩ : ∃ g, ad = ⟨g, 0, none⟩ := by
    rcases hf.2 with ⟨hv, _⟩ | ⟨g, cap, cur, hv, _⟩
    · exact nomatch hv
    · injection hv with hv; injection hv with hv; exact ⟨g, hv⟩
  rw [(add_at gF k 0).1]
  have := own_set hf k (.int .i64 z)
  unfold IR
  rw [List.length_set]
  simpa [nums, List.map_set] using this
set_option maxRecDepth 100000 in
theorem markIntS_c (A : Option Addr) (n c : Nat) (l : List Int) (q : Int) (w : World) (hO : IR w (.slice A n c) l) (hn : n = l.length) (hl : n ≤ 4000000) (h0 : 0 ≤ q) (h1 : q ≤ 1000000000) :
    Calls Try.prog 33 #[.slice A n c, .int .i64 q] w fun e w' => e = .returned (.int .i64 (q + n)) ∧ IR w' (.slice A n c) (marksI q n) ∧ Fr (fun k => (Value.slice A n c).ownBlock = some k) w w' := by
  cases A with
  | none =>
    have h00 : n = 0 := by
      rcases hO.2 with ⟨hv, h⟩ | ⟨g, cap, cur, hv, _⟩
      · injection hv
      · injection hv with hv; exact nomatch hv
    subst h00
    have hl0 : l = [] := List.length_eq_zero_iff.1 hn.symm
    subst hl0
    have HO := As.mk hO
    clear hO hn
    go_enter Try.func33, Try.ntmps33
    go_wp2_with fail
    go_loopw [1, 5] (fun a i wr => a = .int .i64 q ∧ i = .int .i64 0 ∧ As (wr = w)) (fun _ _ _ => 0)
    case atStart => exact ⟨rfl, rfl, ⟨rfl⟩⟩
    case round =>
      obtain ⟨rfl, rfl, hw⟩ := hrel
      go_wp2_with fail
      go_ret
      rw [hw.out]
      exact ⟨by simp, HO.out, Fr.rf _ _⟩
  | some ad =>
    have HN := As.mk hn
    have HO := As.mk hO
    clear hn hO
    go_enter Try.func33, Try.ntmps33
    go_wp2_with fail
    go_loopw [1, 5] (fun a i wr => ∃ k : Nat, k ≤ n ∧ i = .int .i64 k ∧ a = .int .i64 (q + k) ∧ As (IR wr (.slice (some ad) n c) (((marksI q l.length).take k) ++ l.drop k)) ∧ As (Fr (fun k => (Value.slice (some ad) n c).ownBlock = some k) w wr)) (fun _ i _ => n - (intOf i).toNat)
    case atStart => exact ⟨0, Nat.zero_le _, rfl, by simp, ⟨by simpa using HO.out⟩, ⟨Fr.rf _ _⟩⟩
    case round =>
      obtain ⟨k, hk, rfl, rfl, hO, hf⟩ := hrel
      by_cases hlt : k < n
      · have hkl : k < l.length := by have := HN.out; omega
        have hkm : k < (((marksI q l.length).take k) ++ l.drop k).length := by rw [List.length_append, List.length_take, marksI_len, List.length_drop]; omega
        obtain ⟨_, hA, g1⟩ := (rdA_J hO.out (by have := HN.out; rw [List.length_append, List.length_take, marksI_len, List.length_drop]; omega)).2 k hkm
        cases hA
        have g3 := (IR.fzA hO.out k).1
        have HKM := As.mk hkl
        clear hkl
        have q1 : (k : Int) < n := by omega
        obtain ⟨z, hz⟩ : ∃ z, z = q + (k : Int) := ⟨_, rfl⟩
        rw [← hz]
        have z1 : 0 ≤ z := by omega
        have z2 : z ≤ 2000000000 := by omega
        have HZ := As.mk hz
        clear hz
        go_wp2_with fail
        go_roundw
        case measure => simp only [intOf]; omega
        case rel =>
          have h1 := IR.setA hO.out k z
          rw [HZ.out, markI_step l q k HKM.out, ← HZ.out] at h1
          exact ⟨k + 1, by omega, by go_num, by rw [HZ.out]; congr 1; omega, ⟨h1⟩, ⟨hf.out.trans (Fr.set _ _ (IR.fzA hO.out k).2)⟩⟩
      · have hkl : k = n := by omega
        subst hkl
        go_wp2_with fail
        go_ret
        refine ⟨rfl, ?_, hf.out⟩
        have := hO.out
        rw [HN.out, List.take_of_length_le (by rw [marksI_len]; exact Nat.le_refl _), List.drop_eq_nil_of_le (Nat.le_refl _), List.append_nil] at this
        rw [HN.out]
        exact this
set_option maxRecDepth 100000 in
theorem heldIntS_c (A : Option Addr) (n c : Nat) (q : Int) (w : World) (hr : RdI w A (marksI q n)) (hl : n ≤ 4000000) (h0 : 0 ≤ q) (h1 : q ≤ 1000000000) :
    Calls Try.prog 34 #[.slice A n c, .int .i64 q] w fun e w' => e = .returned (.int .i64 (q + n)) ∧ w = w' := by
  have HR := As.mk hr
  clear hr
  go_enter Try.func34, Try.ntmps34
  go_wp2_with fail
  go_loop [1, 5] (fun a i => ∃ k : Nat, k ≤ n ∧ i = .int .i64 k ∧ a = .int .i64 (q + k)) (fun _ i => n - (intOf i).toNat)
  case atStart => exact ⟨0, Nat.zero_le _, rfl, by simp⟩
  case round =>
    obtain ⟨k, hk, rfl, rfl⟩ := hrel
    by_cases hlt : k < n
    · obtain ⟨a, rfl, g1⟩ := HR.out.2 k (by rw [marksI_len]; exact hlt)
      rw [marksI_at] at g1
      have q1 : (k : Int) < n := by omega
      obtain ⟨z, hz⟩ : ∃ z, z = q + (k : Int) := ⟨_, rfl⟩
      rw [← hz] at g1 ⊢
      have z1 : 0 ≤ z := by omega
      have z2 : z ≤ 2000000000 := by omega
      have HZ := As.mk hz
      clear hz
      go_wp2_with fail
      go_round
      case measure => simp only [intOf]; omega
      case rel => exact ⟨k + 1, by omega, by go_num, by rw [HZ.out]; congr 1; omega⟩
    · have hkl : k = n := by omega
      subst hkl
      go_wp2_with fail
      go_ret
      exact ⟨rfl, rfl⟩
end Go.Proofs.Ytcodbpjaamggeaa.C
