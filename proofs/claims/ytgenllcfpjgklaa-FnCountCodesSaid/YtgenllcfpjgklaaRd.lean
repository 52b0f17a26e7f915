/- An argument that is bytes: what the row gives is what our contracts read. -/
import Derived.Test.YtgenllcfpjgklaaRa
import Derived.Test.YtgenllcfpjgklaaQv
import Derived.ChangeSlices
import Derived.OpenShut
set_option linter.unusedVariables false
set_option linter.unusedSimpArgs false
namespace Go.Proofs.Ytgenllcfpjgklaa.R
open Go.ChangeShapes Go.WideShapes Go.ChangeAt Go.RowKit Go.Deep Go.Proofs.Ytgenllcfpjgklaa.P

theorem cellsB : Try.prog.cellsOf 5 = 1 := by kernel_rfl
theorem open_bytes {H : Type} {enc : TypeId × Value → H} {w : World} {v : Value} {d : DataW H} {p : List MemPlace}
    (h : DataW.Trod enc Try.prog w 0 (fun _ => true) true 22 v d p) (hone : v.cells = #[v]) : ∃ A c, ∃ l : List Int, v = .slice A l.length c ∧ l.length ≤ c ∧ C.GivB w A l := by
  obtain ⟨fuel, hf⟩ := h
  rw [hone] at hf
  rcases open_ints Try.underlying22 Try.underlying5 cellsB hf with ⟨hcs, _⟩ | ⟨a, len, cap, zs, hcs, _, hl, hm, hz, _, hcell, hwf⟩
  · injection hcs with hcs
    exact ⟨none, 0, [], hcs, Nat.le_refl _, by simp, fun k h => by simp at h⟩
  · injection hcs with hcs
    simp only [if_true] at hz
    refine ⟨some a, cap, zs.take len, ?_, ?_, ?_, fun k hk => ⟨a, rfl, ?_⟩⟩
    · rw [hcs, List.length_take, hz, Nat.min_eq_left hl]
    · rw [List.length_take]; omega
    · rw [List.length_take]; simp only [maxLen] at hm; omega
    · have hk2 : k < zs.length := by rw [List.length_take] at hk; omega
      refine ⟨?_, ?_⟩
      · rw [hcell k hk2, List.getElem_take, List.getD_eq_getElem?_getD, List.getElem?_eq_getElem hk2]
        rfl
      · rw [List.getElem_take]
        exact bounds_u8 (hwf _ (List.getElem_mem hk2))
end Go.Proofs.Ytgenllcfpjgklaa.R
