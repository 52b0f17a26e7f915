/- Arguments that are rules: what the row gives is what our contracts read. -/
import Derived.Test.YtcodbpjaamggeaaRa
import Derived.Test.YtcodbpjaamggeaaPr
import Derived.ChangeSlices
set_option linter.unusedVariables false
set_option linter.unusedSimpArgs false
namespace Go.Proofs.Ytcodbpjaamggeaa.R
open Go.ChangeShapes Go.WideShapes Go.ChangeAt Go.RowKit Go.Deep Go.Proofs.Ytcodbpjaamggeaa.P

/-- Numbers that are given. -/
def One (w : World) (A : Option Addr) (l : List Int) : Prop := l.length ≤ 9223372036854775807 ∧ ∀ k (h : k < l.length), ∃ ad, A = some ad ∧ w.cell? (ad.add k) = some (.int .i64 l[k])
theorem open_one {H : Type} {enc : TypeId × Value → H} {w : World} {t e : TypeId} {fuel : Nat} {v : Value} {x : DataW H × List MemPlace} (ht : Try.prog.underlying t = some (.slice e)) (he : Try.prog.underlying e = some (.int .i64)) (hc : Try.prog.cellsOf e = 1)
    (h : DataW.trod enc Try.prog w 0 (fun _ => true) true fuel t [v] = some x) : ∃ A c, ∃ l : List Int, v = .slice A l.length c ∧ l.length ≤ c ∧ One w A l := by
  rcases open_ints ht he hc h with ⟨hcs, _⟩ | ⟨a, len, cap, zs, hcs, _, hl, hm, hz, _, hcell, _⟩
  · injection hcs with hcs
    exact ⟨none, 0, [], hcs, Nat.le_refl _, by simp, fun k h => by simp at h⟩
  · injection hcs with hcs
    simp only [if_true] at hz
    refine ⟨some a, cap, zs.take len, ?_, ?_, ?_, fun k hk => ⟨a, rfl, ?_⟩⟩
    · rw [hcs, List.length_take, hz, Nat.min_eq_left hl]
    · rw [List.length_take]; omega
    · rw [List.length_take]; simp only [maxLen] at hm; omega
    · have hk2 : k < zs.length := by rw [List.length_take] at hk; omega
      rw [hcell k hk2, List.getElem_take, List.getD_eq_getElem?_getD, List.getElem?_eq_getElem hk2]
      rfl
theorem cells3 : Try.prog.cellsOf 3 = 1 := by kernel_rfl
theorem cells32 : Try.prog.cellsOf 32 = 1 := by kernel_rfl
theorem open_rules {H : Type} {enc : TypeId × Value → H} {w : World} {cs : Array Value} {d : DataW H} {p : List MemPlace} (hs : cs.size = 4)
    (h : DataW.Trod enc Try.prog w 0 (fun _ => true) true 41 (.agg cs) d p) : ∃ (r : Rl) (A : Option Addr) (c : Nat), cs = #[.int .i64 r.steps, .int .i64 r.nodes, .int .i64 r.deep, .slice A r.cls.length c] ∧ r.cls.length ≤ c ∧ One w A r.cls := by
  obtain ⟨fuel, hf⟩ := h
  obtain ⟨c0, c1, c2, c3, rfl⟩ : ∃ c0 c1 c2 c3, cs = #[c0, c1, c2, c3] := by
    obtain ⟨l⟩ := cs
    match l, hs with
    | [c0, c1, c2, c3], _ => exact ⟨c0, c1, c2, c3, rfl⟩
  obtain ⟨xs, n, _, _, hl, hlen, hx⟩ := DataW.trod_struct Try.underlying41 hf
  have h0 := hx 0 _ rfl
  have h1 := hx 1 _ rfl
  have h2 := hx 2 _ rfl
  have h3 := hx 3 _ rfl
  change DataW.trod enc Try.prog w 0 (fun _ => true) true n 3 (([c0, c1, c2, c3].drop 0).take (Try.prog.cellsOf 3)) = _ at h0
  change DataW.trod enc Try.prog w 0 (fun _ => true) true n 3 (([c0, c1, c2, c3].drop 1).take (Try.prog.cellsOf 3)) = _ at h1
  change DataW.trod enc Try.prog w 0 (fun _ => true) true n 3 (([c0, c1, c2, c3].drop 2).take (Try.prog.cellsOf 3)) = _ at h2
  change DataW.trod enc Try.prog w 0 (fun _ => true) true n 32 (([c0, c1, c2, c3].drop 3).take (Try.prog.cellsOf 32)) = _ at h3
  rw [cells3] at h0 h1 h2
  rw [cells32] at h3
  have hxs : xs.length = 4 := hlen
  have g0 : xs[0]? = some (xs[0]'(by omega)) := List.getElem?_eq_getElem _
  have g1 : xs[1]? = some (xs[1]'(by omega)) := List.getElem?_eq_getElem _
  have g2 : xs[2]? = some (xs[2]'(by omega)) := List.getElem?_eq_getElem _
  have g3 : xs[3]? = some (xs[3]'(by omega)) := List.getElem?_eq_getElem _
  rw [g0] at h0
  rw [g1] at h1
  rw [g2] at h2
  rw [g3] at h3
  obtain ⟨z0, e0, _⟩ := DataW.trod_int Try.underlying3 (show DataW.trod enc Try.prog w 0 (fun _ => true) true n 3 [c0] = _ from h0)
  obtain ⟨z1, e1, _⟩ := DataW.trod_int Try.underlying3 (show DataW.trod enc Try.prog w 0 (fun _ => true) true n 3 [c1] = _ from h1)
  obtain ⟨z2, e2, _⟩ := DataW.trod_int Try.underlying3 (show DataW.trod enc Try.prog w 0 (fun _ => true) true n 3 [c2] = _ from h2)
  obtain ⟨A, c, l, e3, hlc, ho⟩ := open_one Try.underlying32 Try.underlying3 cells3 (show DataW.trod enc Try.prog w 0 (fun _ => true) true n 32 [c3] = _ from h3)
  injection e0 with e0
  injection e1 with e1
  injection e2 with e2
  subst e0 e1 e2 e3
  exact ⟨⟨z0, z1, z2, l⟩, A, c, rfl, hlc, ho⟩
end Go.Proofs.Ytcodbpjaamggeaa.R
