/- Rows of bools: equal ones, marks. -/
import Derived.Test.YtcodbpjaamggeaaHd
import Derived.Test.YtcodbpjaamggeaaCu
set_option linter.unusedVariables false
set_option linter.unusedSimpArgs false
namespace Go.Proofs.Ytcodbpjaamggeaa.C
open Go.RowKit Go.Proofs.Ytcodbpjaamggeaa.W Go.Proofs.Ytcodbpjaamggeaa.P

theorem rdA_Bn {w : World} {A : Option Addr} {n c : Nat} {l : List Bool} (h : BR w (.slice A n c) l) (hl : l.length ≤ 1000000000000) : RdB w A l := by
  obtain ⟨A', c', hv, _, hr⟩ := BR.rd h hl
  injection hv with h1 h2 h3
  subst h1
  exact hr
theorem bit_wrap (z : Int) (h : 0 ≤ z) : IntKind.i64.wrap (z.tmod 3) = z.tmod 3 := by
  have h1 := Int.tmod_nonneg 3 h
  have h2 := Int.tmod_lt_of_pos z (show (0 : Int) < 3 by decide)
  exact wrapI _ (by omega) (by omega)
theorem eqBoolS_t (A B : Option Addr) (cA cB : Nat) (l : List Bool) (w : World) (hA : RdB w A l) (hB : RdB w B l) : Calls Try.prog 103 #[.slice A l.length cA, .slice B l.length cB] w fun e w' => e = .returned (.bool true) ∧ Ext w w' := by
  have hlen := hA.1
  have HA := As.mk hA
  have HB := As.mk hB
  clear hA hB
  go_enter Try.func103, Try.ntmps103
  go_wp2_with fail
  go_loopw [5] (fun i wr => ∃ k : Nat, k ≤ l.length ∧ i = .int .i64 k ∧ As (Ext w wr)) (fun i _ => l.length - (intOf i).toNat)
  case atStart => exact ⟨0, Nat.zero_le _, rfl, ⟨Ext.rf _⟩⟩
  case round =>
    obtain ⟨k, hk, rfl, he⟩ := hrel
    by_cases hlt : k < l.length
    · obtain ⟨a, rfl, h1⟩ := (HA.out.ext he.out).2 k hlt
      obtain ⟨b, rfl, h2⟩ := (HB.out.ext he.out).2 k hlt
      obtain ⟨z, hz⟩ : ∃ z, z = l[k] := ⟨_, rfl⟩
      rw [← hz] at h1 h2
      clear hz
      have q1 : (k : Int) < l.length := by omega
      go_upto_region 6 with fail
      refine region_perm (fun w' => w'.cell? (a.add k) = some (.bool z) ∧ w'.cell? (b.add k) = some (.bool z)) [] [(0, 0), (1, 0), (2, 0), (3, 1), (4, 0), (5, 0), (6, 0), (7, 1), (8, 0)] (by kernel_rfl) (by kernel_rfl) rfl (by kernel_rfl) (fun _ _ _ _ h => h) ?_
      have hS := And.intro h1 h2
      repeat (first | refine wpP.c0 (h := ?_) | refine wpP.c1 (w := wr.drew) hS (h := ?_))
      refine wpP.done ?_
      have HX : As (Ext w wr.drew) := ⟨he.out.dr⟩
      go_wp2_with fail
      go_roundw
      case measure => simp only [intOf]; omega
      case rel => exact ⟨k + 1, by omega, by go_num, HX⟩
    · have hkl : k = l.length := by omega
      subst hkl
      go_wp2_with fail
      go_ret
      exact ⟨rfl, he.out⟩
/-- The marks of n numbers from a number on. -/
def bit (q : Int) : Bool := q % 3 == 0
def marksB (q : Int) : Nat → List Bool
  | 0 => []
  | n + 1 => bit q :: marksB (q + 1) n
theorem marksB_len (q : Int) : ∀ n, (marksB q n).length = n
  | 0 => rfl
  | n + 1 => by simp [marksB, marksB_len]
theorem marksB_at : ∀ (n : Nat) (q : Int) (k : Nat) (h : k < (marksB q n).length), (marksB q n)[k] = bit (q + k)
  | 0, q, k, h => by simp [marksB] at h
  | n + 1, q, 0, h => by simp [marksB]
  | n + 1, q, k + 1, h => by
    have := marksB_at n (q + 1) k (by simpa [marksB] using h)
    simp only [marksB, List.getElem_cons_succ, this]
    congr 1
    omega
theorem markB_step (l : List Bool) (q : Int) (k : Nat) (hk : k < l.length) : (((marksB q l.length).take k) ++ l.drop k).set k (bit (q + k)) = ((marksB q l.length).take (k + 1)) ++ l.drop (k + 1) := by
  have hm := marksB_len q l.length
  rw [List.set_append_right _ _ (by rw [List.length_take, hm]; omega), List.take_succ_eq_append_getElem (by rw [hm]; exact hk), marksB_at, List.length_take, hm, Nat.min_eq_left (Nat.le_of_lt hk), Nat.sub_self, List.append_assoc]
  congr 1
  rw [List.drop_eq_getElem_cons hk]
  rfl
theorem BR.fzA {w : World} {ad : Addr} {n c : Nat} {l : List Bool} (h : BR w (.slice (some ad) n c) l) (j : Nat) : w.frozen? (ad.add j) = false ∧ (Value.slice (some ad) n c).ownBlock = some (ad.add j).block := by
  rcases h.2 with ⟨hv, _⟩ | ⟨g, cap, cur, hv, _, hh, _⟩
  · exact nomatch hv
  · injection hv with hv
    injection hv with hv
    subst hv
    rw [(add_at g j 0).1]
    exact ⟨by simp [World.frozen?, hh], rfl⟩
theorem BR.setA {w : World} {ad : Addr} {n c : Nat} {l : List Bool} (h : BR w (.slice (some ad) n c) l) (k : Nat) (z : Bool) : BR (w.setCell (ad.add k) (.bool z)) (.slice (some ad) n c) (l.set k z) := by
  obtain ⟨A', c', hv, _, _⟩ := own_form h
  injection hv with hv1 hv2 hv3
  subst hv1 hv2 hv3
  have hf : World.ownsRow w 0 4 1 (.slice (some ad) l.length c) l.length (bools l) := h
  obtain ⟨gF, rfl⟩ : ∃ g, ad = ⟨g, 0, none⟩ := by
    rcases hf.2 with ⟨hv, _⟩ | ⟨g, cap, cur, hv, _⟩
    · exact nomatch hv
    · injection hv with hv; injection hv with hv; exact ⟨g, hv⟩
  rw [(add_at gF k 0).1]
  have := own_set hf k (.bool z)
  unfold BR
  rw [List.length_set]
  simpa [bools, List.map_set] using this
set_option maxRecDepth 100000 in
theorem markBoolS_c (A : Option Addr) (n c : Nat) (l : List Bool) (q : Int) (w : World) (hO : BR w (.slice A n c) l) (hn : n = l.length) (hl : n ≤ 4000000) (h0 : 0 ≤ q) (h1 : q ≤ 1000000000) :
    Calls Try.prog 104 #[.slice A n c, .int .i64 q] w fun e w' => e = .returned (.int .i64 (q + n)) ∧ BR w' (.slice A n c) (marksB q n) ∧ Fr (fun k => (Value.slice A n c).ownBlock = some k) w w' := by
  cases A with
  | none =>
    have h00 : n = 0 := by
      rcases hO.2 with ⟨hv, h⟩ | ⟨g, cap, cur, hv, _⟩
      · injection hv
      · injection hv with hv; exact nomatch hv
    subst h00
    have hl0 : l = [] := List.length_eq_zero_iff.1 hn.symm
    subst hl0
    have HO := As.mk hO
    clear hO hn
    go_enter Try.func104, Try.ntmps104
    go_wp2_with fail
    go_loopw [1, 5] (fun a i wr => a = .int .i64 q ∧ i = .int .i64 0 ∧ As (wr = w)) (fun _ _ _ => 0)
    case atStart => exact ⟨rfl, rfl, ⟨rfl⟩⟩
    case round =>
      obtain ⟨rfl, rfl, hw⟩ := hrel
      go_wp2_with fail
      go_ret
      rw [hw.out]
      exact ⟨by simp, HO.out, Fr.rf _ _⟩
  | some ad =>
    have HN := As.mk hn
    have HO := As.mk hO
    clear hn hO
    go_enter Try.func104, Try.ntmps104
    go_wp2_with fail
    go_loopw [1, 5] (fun a i wr => ∃ k : Nat, k ≤ n ∧ i = .int .i64 k ∧ a = .int .i64 (q + k) ∧ As (BR wr (.slice (some ad) n c) (((marksB q l.length).take k) ++ l.drop k)) ∧ As (Fr (fun k => (Value.slice (some ad) n c).ownBlock = some k) w wr)) (fun _ i _ => n - (intOf i).toNat)
    case atStart => exact ⟨0, Nat.zero_le _, rfl, by simp, ⟨by simpa using HO.out⟩, ⟨Fr.rf _ _⟩⟩
    case round =>
      obtain ⟨k, hk, rfl, rfl, hO, hf⟩ := hrel
      by_cases hlt : k < n
      · have hkl : k < l.length := by have := HN.out; omega
        have hkm : k < (((marksB q l.length).take k) ++ l.drop k).length := by rw [List.length_append, List.length_take, marksB_len, List.length_drop]; omega
        obtain ⟨_, hA, g1⟩ := (rdA_Bn hO.out (by have := HN.out; rw [List.length_append, List.length_take, marksB_len, List.length_drop]; omega)).2 k hkm
        cases hA
        have g3 := (BR.fzA hO.out k).1
        have HKM := As.mk hkl
        clear hkl
        have q1 : (k : Int) < n := by omega
        obtain ⟨z, hz⟩ : ∃ z, z = q + (k : Int) := ⟨_, rfl⟩
        rw [← hz]
        have z1 : 0 ≤ z := by omega
        have z2 : z ≤ 2000000000 := by omega
        have z3 : IntKind.i64.wrap (z.tmod 3) = z.tmod 3 := bit_wrap z z1
        have HZ := As.mk hz
        clear hz
        go_wp2_with fail
        go_roundw
        case measure => simp only [intOf]; omega
        case rel =>
          have h1 := BR.setA hO.out k (bit z)
          rw [HZ.out, markB_step l q k HKM.out, ← HZ.out] at h1
          exact ⟨k + 1, by omega, by go_num, by rw [HZ.out]; congr 1; omega, ⟨h1⟩, ⟨hf.out.trans (Fr.set _ _ (BR.fzA hO.out k).2)⟩⟩
      · have hkl : k = n := by omega
        subst hkl
        go_wp2_with fail
        go_ret
        refine ⟨rfl, ?_, hf.out⟩
        have := hO.out
        rw [HN.out, List.take_of_length_le (by rw [marksB_len]; exact Nat.le_refl _), List.drop_eq_nil_of_le (Nat.le_refl _), List.append_nil] at this
        rw [HN.out]
        exact this
set_option maxRecDepth 100000 in
theorem heldBoolS_c (A : Option Addr) (n c : Nat) (q : Int) (w : World) (hr : RdB w A (marksB q n)) (hl : n ≤ 4000000) (h0 : 0 ≤ q) (h1 : q ≤ 1000000000) :
    Calls Try.prog 105 #[.slice A n c, .int .i64 q] w fun e w' => e = .returned (.int .i64 (q + n)) ∧ w = w' := by
  have HR := As.mk hr
  clear hr
  go_enter Try.func105, Try.ntmps105
  go_wp2_with fail
  go_loop [1, 5] (fun a i => ∃ k : Nat, k ≤ n ∧ i = .int .i64 k ∧ a = .int .i64 (q + k)) (fun _ i => n - (intOf i).toNat)
  case atStart => exact ⟨0, Nat.zero_le _, rfl, by simp⟩
  case round =>
    obtain ⟨k, hk, rfl, rfl⟩ := hrel
    by_cases hlt : k < n
    · obtain ⟨a, rfl, g1⟩ := HR.out.2 k (by rw [marksB_len]; exact hlt)
      rw [marksB_at] at g1
      have q1 : (k : Int) < n := by omega
      obtain ⟨z, hz⟩ : ∃ z, z = q + (k : Int) := ⟨_, rfl⟩
      rw [← hz] at g1 ⊢
      have z1 : 0 ≤ z := by omega
      have z2 : z ≤ 2000000000 := by omega
      have z3 : IntKind.i64.wrap (z.tmod 3) = z.tmod 3 := bit_wrap z z1
      have hb : (z % 3 == 0) = bit z := rfl
      generalize bit z = b at g1 hb
      have HZ := As.mk hz
      clear hz
      go_wp2_with fail
      go_round
      case measure => simp only [intOf]; omega
      case rel => exact ⟨k + 1, by omega, by go_num, by rw [HZ.out]; congr 1; omega⟩
    · have hkl : k = n := by omega
      subst hkl
      go_wp2_with fail
      go_ret
      exact ⟨rfl, rfl⟩
end Go.Proofs.Ytcodbpjaamggeaa.C
