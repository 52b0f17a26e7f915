/- Places in lists. -/
import Derived.Test.YtgenllcfpjgklaaCv
set_option linter.unusedVariables false
set_option linter.unusedSimpArgs false
namespace Go.Proofs.Ytgenllcfpjgklaa.P
/-- The first place of a number. -/
def plc : List Int → Int → Int
  | [], _ => -1
  | x :: r, n => if x = n then 0 else if plc r n < 0 then -1 else plc r n + 1
theorem plc_no : ∀ (l : List Int) (n : Int), n ∉ l → plc l n = -1
  | [], _, _ => rfl
  | x :: r, n, h => by
    have h1 : x ≠ n := fun e => h (by simp [e])
    have h2 := plc_no r n (fun e => h (by simp [e]))
    unfold plc
    rw [if_neg h1, h2]
    rfl
theorem plc_at : ∀ (l : List Int) (n : Int) (k : Nat) (_ : k < l.length), n ∉ l.take k → l[k] = n → plc l n = k
  | x :: r, n, 0, _, _, e => by
    simp at e
    unfold plc
    rw [if_pos e]; rfl
  | x :: r, n, k + 1, hk, h, e => by
    have h1 : x ≠ n := fun e => h (by simp [e])
    have h2 := plc_at r n k (by simpa using hk) (fun e => h (by simp [e])) (by simpa using e)
    unfold plc
    rw [if_neg h1, h2, if_neg (by omega)]
    omega
theorem plc_mem (l : List Int) (n : Int) : (0 ≤ plc l n ↔ n ∈ l) ∧ plc l n < l.length := by
  by_cases h : n ∈ l
  · obtain ⟨k, hk, e⟩ := List.mem_iff_getElem.1 h
    have : ∀ k, k ≤ l.length → n ∈ l.take k → ∃ j, ∃ h : j < l.length, n ∉ l.take j ∧ l[j] = n := by
      intro k
      induction k with
      | zero => intro _ h; simp at h
      | succ k ih =>
        intro hk h
        by_cases h2 : n ∈ l.take k
        · exact ih (by omega) h2
        · rw [List.take_succ_eq_append_getElem (by omega)] at h
          rcases List.mem_append.1 h with h | h
          · exact absurd h h2
          · rw [List.mem_singleton] at h
            exact ⟨k, by omega, h2, h.symm⟩
    obtain ⟨j, hj, h1, h2⟩ := this l.length (Nat.le_refl _) (by rw [List.take_length]; exact h)
    rw [plc_at l n j hj h1 h2]
    exact ⟨⟨fun _ => h, fun _ => by omega⟩, by omega⟩
  · rw [plc_no l n h]
    exact ⟨⟨fun e => by omega, fun e => absurd e h⟩, by omega⟩
theorem plc_con (l : List Int) (n : Int) : decide (0 ≤ plc l n) = l.contains n := by
  rw [Bool.eq_iff_iff]
  simp [(plc_mem l n).1]
theorem not_take {l : List Int} {n : Int} {k : Nat} (hk : k < l.length) (h : n ∉ l.take k) (hne : l[k] ≠ n) : n ∉ l.take (k + 1) := by
  rw [List.take_succ_eq_append_getElem hk]
  intro e
  rcases List.mem_append.1 e with e | e
  · exact h e
  · rw [List.mem_singleton] at e; exact hne e.symm
end Go.Proofs.Ytgenllcfpjgklaa.P
namespace Go.Proofs.Ytgenllcfpjgklaa.C
open Go.RowKit Go.Proofs.Ytgenllcfpjgklaa.W Go.Proofs.Ytgenllcfpjgklaa.P

theorem bceq' (a b : Int) : a = b ∨ (a == b) = false := by by_cases h : a = b <;> simp [h]
theorem placeIn_c (A : Option Addr) (c : Nat) (l : List Int) (n : Int) (w : World) (hr : RdI w A l) : Calls Try.prog 78 #[.slice A l.length c, .int .i64 n] w fun e w' => e = .returned (.int .i64 (plc l n)) ∧ w = w' := by
  have hlen := hr.1
  have HR := As.mk hr
  clear hr
  go_enter Try.func78, Try.ntmps78
  go_wp2_with fail
  go_loop [5] (fun i => ∃ k : Nat, k ≤ l.length ∧ i = .int .i64 k ∧ As (n ∉ l.take k)) (fun i => l.length - (intOf i).toNat)
  case atStart => exact ⟨0, Nat.zero_le _, rfl, ⟨by simp⟩⟩
  case round =>
    obtain ⟨k, hk, rfl, hn⟩ := hrel
    by_cases hlt : k < l.length
    · obtain ⟨ad, rfl, h1⟩ := HR.out.2 k hlt
      obtain ⟨z, hz⟩ : ∃ z, z = l[k] := ⟨_, rfl⟩
      rw [← hz] at h1
      have HZ := As.mk hz
      clear hz
      have q1 : (k : Int) < l.length := by omega
      rcases bceq' z n with rfl | q2
      · go_wp2_with fail
        go_ret
        exact ⟨ret_int (plc_at l _ k hlt hn.out HZ.out.symm).symm, rfl⟩
      · go_wp2_with fail
        go_round
        case measure => have := hlt; simp only [intOf]; omega
        case rel => exact ⟨k + 1, by have := hlt; omega, by go_num, ⟨not_take hlt hn.out (by rw [← HZ.out]; simpa using q2)⟩⟩
    · have hkl : k = l.length := by omega
      subst hkl
      have hm := hn.out
      rw [List.take_length] at hm
      have HM := As.mk hm
      clear hm hn hlt
      go_wp2_with fail
      go_ret
      exact ⟨ret_int (plc_no l n HM.out).symm, rfl⟩
end Go.Proofs.Ytgenllcfpjgklaa.C
