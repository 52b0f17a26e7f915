/- Keys, as the reference sees them. -/
import Derived.Test.YtgenllcfpjgklaaCv
set_option linter.unusedVariables false
set_option linter.unusedSimpArgs false
namespace Go.Proofs.Ytgenllcfpjgklaa.C
open Go.RowKit Go.Proofs.Ytgenllcfpjgklaa.W Go.Proofs.Ytgenllcfpjgklaa.P

theorem sisKey_c (k v : Int) (vK : Value) (w : World) : Calls Try.prog 110 #[.agg #[.int .i64 k, .int .i64 v, vK]] w fun e w' => e = .returned (.bool (decide (k = 0 ∨ k = 1))) ∧ Ext w w' := by
  rcases bceq k 0 with h | h
  · subst h
    go_enter Try.func110, Try.ntmps110
    go_wp2_with fail
    go_ret
    exact ⟨ret_bool (by simp), (Ext.rf _).al _⟩
  · rcases bceq k 1 with h1 | h1
    · subst h1
      go_enter Try.func110, Try.ntmps110
      go_wp2_with fail
      go_ret
      exact ⟨ret_bool (by simp), (Ext.rf _).al _⟩
    · have HH := As.mk (And.intro h h1)
      go_enter Try.func110, Try.ntmps110
      go_wp2_with fail
      go_ret
      have := HH.out
      exact ⟨ret_bool (by simp at this; simp [this]), (Ext.rf _).al _⟩
theorem ssameKey_c (k v : Int) (vK : Value) (k' v' : Int) (vK' : Value) (w : World) : Calls Try.prog 152 #[.agg #[.int .i64 k, .int .i64 v, vK], .agg #[.int .i64 k', .int .i64 v', vK']] w fun e w' => e = .returned (.bool (decide (k = k' ∧ v = v'))) ∧ Ext w w' := by
  rcases bceq k k' with h | h
  · subst h
    rcases bceq v v' with h1 | h1
    · subst h1
      go_enter Try.func152, Try.ntmps152
      go_wp2_with fail
      go_ret
      exact ⟨ret_bool (by simp), ((Ext.rf _).al _).al _⟩
    · have HH := As.mk h1
      go_enter Try.func152, Try.ntmps152
      go_wp2_with fail
      go_ret
      have := HH.out
      exact ⟨ret_bool (by simp at this; simp [this]), ((Ext.rf _).al _).al _⟩
  · have HH := As.mk h
    go_enter Try.func152, Try.ntmps152
    go_wp2_with fail
    go_ret
    have := HH.out
    exact ⟨ret_bool (by simp at this; simp [this]), ((Ext.rf _).al _).al _⟩
end Go.Proofs.Ytgenllcfpjgklaa.C
