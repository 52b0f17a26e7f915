/- Rows of numbers that lie at the beginning of rows of our own: what a law does with them. -/
import Derived.Test.YtcodbpjaamggeaaKd
import Derived.Test.YtcodbpjaamggeaaDd
set_option linter.unusedVariables false
set_option linter.unusedSimpArgs false
namespace Go.Proofs.Ytcodbpjaamggeaa.C
open Go.RowKit Go.Proofs.Ytcodbpjaamggeaa.W Go.Proofs.Ytcodbpjaamggeaa.P

theorem rdV {w : World} {A : Option Addr} {C n : Nat} {L l : List Int} (h : IR w (.slice A n C) L) (hL : L.length ≤ 4000000) (ht : L.take l.length = l) : RdI w A l := by
  have := (rdA_J h (by omega)).take l.length
  rwa [ht] at this
theorem markI_step2 (L : List Int) (q : Int) (n k : Nat) (hk : k < n) (hn : n ≤ L.length) : (((marksI q n).take k) ++ L.drop k).set k (q + k) = ((marksI q n).take (k + 1)) ++ L.drop (k + 1) := by
  have hm := marksI_len q n
  rw [List.set_append_right _ _ (by rw [List.length_take, hm]; omega), List.take_succ_eq_append_getElem (by rw [hm]; exact hk), marksI_at, List.length_take, hm, Nat.min_eq_left (Nat.le_of_lt hk), Nat.sub_self, List.append_assoc]
  congr 1
  rw [List.drop_eq_getElem_cons (by omega)]
  rfl
set_option maxRecDepth 100000 in
theorem markIntS_v (A : Option Addr) (n c N C : Nat) (L : List Int) (q : Int) (w : World) (hO : IR w (.slice A N C) L) (hn : n ≤ L.length) (hl : n ≤ 2000000) (hL : L.length ≤ 2000000) (h0 : 0 ≤ q) (h1 : q ≤ 1000000000) :
    Calls Try.prog 33 #[.slice A n c, .int .i64 q] w fun e w' => e = .returned (.int .i64 (q + n)) ∧ IR w' (.slice A N C) (marksI q n ++ L.drop n) ∧ Fr (fun k => (Value.slice A N C).ownBlock = some k) w w' := by
  cases A with
  | none =>
    have h00 : L = [] := by
      rcases hO.2 with ⟨hv, h⟩ | ⟨g, cap, cur, hv, _⟩
      · exact List.length_eq_zero_iff.1 h
      · injection hv with hv; exact nomatch hv
    subst h00
    have hn0 : n = 0 := by simpa using hn
    subst hn0
    have HO := As.mk hO
    clear hO hn
    go_enter Try.func33, Try.ntmps33
    go_wp2_with fail
    go_loopw [1, 5] (fun a i wr => a = .int .i64 q ∧ i = .int .i64 0 ∧ As (wr = w)) (fun _ _ _ => 0)
    case atStart => exact ⟨rfl, rfl, ⟨rfl⟩⟩
    case round =>
      obtain ⟨rfl, rfl, hw⟩ := hrel
      go_wp2_with fail
      go_ret
      rw [hw.out]
      exact ⟨by simp, HO.out, Fr.rf _ _⟩
  | some ad =>
    have HN := As.mk hn
    have HO := As.mk hO
    have HL := As.mk hL
    clear hn hO hL
    go_enter Try.func33, Try.ntmps33
    go_wp2_with fail
    go_loopw [1, 5] (fun a i wr => ∃ k : Nat, k ≤ n ∧ i = .int .i64 k ∧ a = .int .i64 (q + k) ∧ As (IR wr (.slice (some ad) N C) (((marksI q n).take k) ++ L.drop k)) ∧ As (Fr (fun k => (Value.slice (some ad) N C).ownBlock = some k) w wr)) (fun _ i _ => n - (intOf i).toNat)
    case atStart => exact ⟨0, Nat.zero_le _, rfl, by simp, ⟨by simpa using HO.out⟩, ⟨Fr.rf _ _⟩⟩
    case round =>
      obtain ⟨k, hk, rfl, rfl, hO, hf⟩ := hrel
      by_cases hlt : k < n
      · have hkm : k < (((marksI q n).take k) ++ L.drop k).length := by have := HN.out; rw [List.length_append, List.length_take, marksI_len, List.length_drop]; omega
        obtain ⟨_, hA, g1⟩ := (rdA_J hO.out (by have := HN.out; have := HL.out; rw [List.length_append, List.length_take, marksI_len, List.length_drop]; omega)).2 k hkm
        cases hA
        have g3 := (IR.fzA hO.out k).1
        have q1 : (k : Int) < n := by omega
        obtain ⟨z, hz⟩ : ∃ z, z = q + (k : Int) := ⟨_, rfl⟩
        rw [← hz]
        have z1 : 0 ≤ z := by omega
        have z2 : z ≤ 2000000000 := by omega
        have HZ := As.mk hz
        clear hz
        go_wp2_with fail
        go_roundw
        case measure => simp only [intOf]; omega
        case rel =>
          have h1 := IR.setA hO.out k z
          rw [HZ.out, markI_step2 L q n k hlt HN.out, ← HZ.out] at h1
          exact ⟨k + 1, by omega, by go_num, by rw [HZ.out]; congr 1; omega, ⟨h1⟩, ⟨hf.out.trans (Fr.set _ _ (IR.fzA hO.out k).2)⟩⟩
      · have hkl : k = n := by omega
        subst hkl
        go_wp2_with fail
        go_ret
        refine ⟨rfl, ?_, hf.out⟩
        have := hO.out
        rwa [List.take_of_length_le (by rw [marksI_len]; exact Nat.le_refl _)] at this
/-- After two results and a copy that lie apart: what the checks of a law need. -/
structure Res3V (W : World) (v0 v1 x : Value) (r0 r1 : List Int) (l : List Opr) : Prop where
  o0 : IR W v0 r0
  o1 : IR W v1 r1
  ox : OR W x l
  a0 : Apart v0 x
  a1 : Apart v1 x
  a2 : Apart v0 v1
theorem Res3V.ext {W W' v0 v1 x r0 r1 l} (h : Res3V W v0 v1 x r0 r1 l) (e : Ext W W') : Res3V W' v0 v1 x r0 r1 l := ⟨h.o0.ext e, h.o1.ext e, h.ox.ext e, h.a0, h.a1, h.a2⟩
theorem Res3V.mx {W W' v0 v1 x r0 r1 l l'} (h : Res3V W v0 v1 x r0 r1 l) (ho : OR W' x l') (hf : Fr (fun k => x.ownBlock = some k) W W') : Res3V W' v0 v1 x r0 r1 l' := ⟨h.o0.fr hf h.a0, h.o1.fr hf h.a1, ho, h.a0, h.a1, h.a2⟩
theorem Res3V.m1 {W W' v0 v1 x r0 r1 l m} (h : Res3V W v0 v1 x r0 r1 l) (ho : IR W' v1 m) (hf : Fr (fun k => v1.ownBlock = some k) W W') : Res2I W' v0 v1 r0 m := ⟨h.o0.fr hf h.a2, ho⟩
theorem Res2I.ext' {W W' v0 v1 r m} (h : Res2I W v0 v1 r m) (e : Ext W W') : Res2I W' v0 v1 r m := ⟨h.o0.ext e, h.o1.ext e⟩
theorem marksI_take (q : Int) (n : Nat) (D : List Int) : (marksI q n ++ D).take (marksI q n).length = marksI q n := List.take_left' rfl
end Go.Proofs.Ytcodbpjaamggeaa.C
