/- The dictionaries of the machine. -/
import Derived.Test.YtcodbpjaamggeaaCc
import Derived.Test.YtcodbpjaamggeaaWr
set_option linter.unusedVariables false
set_option linter.unusedSimpArgs false
namespace Go.Proofs.Ytcodbpjaamggeaa.C
open Go.RowKit Go.Proofs.Ytcodbpjaamggeaa.W Go.Proofs.Ytcodbpjaamggeaa.P

def findI : Option Nat → Int
  | none => -1
  | some i => i
theorem findK_end (nodes : List Nd) (kids : List Int) (k v : Int) (f i : Nat) (h : kids.length ≤ i) : findK nodes kids k v f i = none := by
  cases f with
  | zero => rfl
  | succ f => unfold findK; rw [if_neg (by omega)]
theorem findK_at (nodes : List Nd) (kids : List Int) (k v : Int) (f i x : Nat) (h : i < kids.length) (hx : kids[i] = x) (hxl : x < nodes.length) : findK nodes kids k v (f + 1) i = if nodes[x].kind = k ∧ nodes[x].val = v then some i else findK nodes kids k v f (i + 2) := by
  have e1 : kids.getD i 0 = x := by rw [List.getD_eq_getElem?_getD, List.getElem?_eq_getElem h]; simpa using hx
  have e2 : nodes.getD (Int.toNat x) default = nodes[x] := by rw [List.getD_eq_getElem?_getD, Int.toNat_natCast, List.getElem?_eq_getElem hxl]; rfl
  simp only [findK, h, if_true, e1, e2]

theorem bceq (a b : Int) : a = b ∨ (a == b) = false := by by_cases h : a = b <;> simp [h]

theorem findKey_c (A K KK : Option Addr) (cA cK nK cKK : Nat) (nodes : List Nd) (kids : List Int) (kind val : Int) (w : World) (hN : RdN w A nodes) (hK : RdI w K kids) (hin : ∀ x ∈ kids, 0 ≤ x ∧ x < nodes.length) :
    Calls Try.prog 177 #[.slice A nodes.length cA, .slice K kids.length cK, .agg #[.int .i64 kind, .int .i64 val, .slice KK nK cKK]] w fun e w' => e = .returned (.int .i64 (findI (findKey nodes kids kind val))) ∧ Ext w w' := by
  have hlen := hK.1
  have hlenN := hN.1
  have HN := As.mk hN; have HK := As.mk hK; have HI := As.mk hin
  clear hN hK hin
  go_enter Try.func177, Try.ntmps177
  go_wp2
  go_loopw [7, 8] (fun i _ wr => ∃ k f : Nat, k ≤ kids.length + 1 ∧ i = .int .i64 k ∧ As (findKey nodes kids kind val = findK nodes kids kind val f k ∧ kids.length < k + f) ∧ As (Ext w wr) ∧ wr.cell? ⟨w.heap.size, 0, none⟩ = some (.int .i64 kind) ∧ wr.cell? ⟨w.heap.size, 1, none⟩ = some (.int .i64 val)) (fun i _ _ => kids.length + 1 - (intOf i).toNat)
  case atStart => exact ⟨0, kids.length + 1, by omega, rfl, ⟨rfl, by omega⟩, ⟨(Ext.rf w).al _⟩, World.cell?_alloc_new .., World.cell?_alloc_new ..⟩
  case round =>
    obtain ⟨k, f, hk, rfl, hf, he, b0, b1⟩ := hrel
    by_cases hlt : k < kids.length
    · obtain ⟨aK, rfl, h1⟩ := HK.out.2 k hlt
      obtain ⟨x, hx⟩ := Int.eq_ofNat_of_zero_le (HI.out _ (List.getElem_mem hlt)).1
      have hxl : x < nodes.length := by have := (HI.out _ (List.getElem_mem hlt)).2; rw [hx] at this; exact Int.ofNat_lt.1 this
      rw [hx] at h1
      obtain ⟨aN, KN, cN, rfl, k0, k1, k2, _⟩ := HN.out.2 x hxl
      have h1' := he.out.cellOf h1
      have k0' := he.out.cellOf k0
      have k1' := he.out.cellOf k1
      have k2' := he.out.cellOf k2
      have b0' : ∀ o, (wr.alloc o).cell? ⟨w.heap.size, 0, none⟩ = some (.int .i64 kind) := fun o => ((Ext.rf wr).al o).cellOf b0
      have b1' : ∀ o, (wr.alloc o).cell? ⟨w.heap.size, 1, none⟩ = some (.int .i64 val) := fun o => ((Ext.rf wr).al o).cellOf b1
      clear h1 k0 k1 k2
      have q1 : (0 : Int) ≤ x := by omega
      have q2 : (x : Int) < nodes.length := by omega
      have hrelNext : ¬ (nodes[x].kind = kind ∧ nodes[x].val = val) → ∀ o, ∃ k' f' : Nat, k' ≤ kids.length + 1 ∧ Value.int .i64 ((k : Int) + 2) = .int .i64 k' ∧ As (findKey nodes kids kind val = findK nodes kids kind val f' k' ∧ kids.length < k' + f') ∧ As (Ext w (wr.alloc o)) ∧ (wr.alloc o).cell? ⟨w.heap.size, 0, none⟩ = some (.int .i64 kind) ∧ (wr.alloc o).cell? ⟨w.heap.size, 1, none⟩ = some (.int .i64 val) := by
        intro hne o
        obtain ⟨f', rfl⟩ : ∃ f', f = f' + 1 := ⟨f - 1, by have := hf.out.2; omega⟩
        exact ⟨k + 2, f', by omega, by simp, ⟨by rw [hf.out.1, findK_at _ _ _ _ _ _ x hlt hx hxl, if_neg hne], by have := hf.out.2; omega⟩, ⟨he.out.al _⟩, b0' o, b1' o⟩
      rcases bceq nodes[x].kind kind with hm | hm
      · rcases bceq nodes[x].val val with hv | hv
        · go_wp2_with fail
          go_ret
          obtain ⟨f', rfl⟩ : ∃ f', f = f' + 1 := ⟨f - 1, by have := hf.out.2; omega⟩
          exact ⟨ret_int (by rw [hf.out.1, findK_at _ _ _ _ _ _ x hlt hx hxl, if_pos ⟨hm, hv⟩]; rfl), he.out.al _⟩
        · go_wp2_with fail
          go_roundw
          case rel => exact hrelNext (by simp only [beq_eq_false_iff_ne] at hv; exact fun h => hv h.2) _
          case measure => simp [intOf]; omega
      · go_wp2_with fail
        go_roundw
        case rel => exact hrelNext (by simp only [beq_eq_false_iff_ne] at hm; exact fun h => hm h.1) _
        case measure => simp [intOf]; omega
    · go_wp2_with fail
      go_ret
      exact ⟨ret_int (by rw [hf.out.1, findK_end _ _ _ _ _ _ (by omega)]; rfl), he.out⟩
end Go.Proofs.Ytcodbpjaamggeaa.C
