/- Words that both the shapes and the machine of the reference use. -/
import Derived.Test.YtgenllcfpjgklaaBa
set_option linter.unusedVariables false
set_option linter.unusedSimpArgs false
namespace Go.Proofs.Ytgenllcfpjgklaa.C
open Go.RowKit Go.Proofs.Ytgenllcfpjgklaa.W Go.Proofs.Ytgenllcfpjgklaa.P

theorem copyInts_c (A : Option Addr) (c : Nat) (l : List Int) (w : World) (hr : RdI w A l) : Calls Try.prog 121 #[.slice A l.length c] w (ClonePost l w) := by
  have hlen := hr.1
  have HR := As.mk hr
  clear hr
  go_enter Try.func121, Try.ntmps121
  go_wp2_with ((at_builtin; refine app_intsA rfl _ _ rfl (.slice (some ⟨w.heap.size, 0, none⟩) 0 0) [] A l.length c l rfl rfl rfl (HR.out.ext ((Ext.rf w).al _)) (World.ownsRow_lit (base := 0) (size := 1) w #[] 0 (Nat.zero_le _) (by simp) rfl) (by simp) ?_; intro A' c' w1 hap; have HP := As.mk hap; clear hap))
  go_ret
  obtain ⟨h1, h2, h3, _⟩ := HP.out
  have e0 : Ext w w1 := (Fr.then (S := fun _ => False) (Fr.ofExt ((Ext.rf w).al (.cells #[] 3))) h2 (fun i hi => .inr (by simp [Value.ownBlock] at hi; omega))).ext (fun _ h => h.elim)
  refine ⟨A', c', by simp, by simpa using h1, e0, fun k hk => ?_⟩
  rcases h3 with h3 | ⟨b, h3, h4⟩
  · rw [List.nil_append] at h3; rw [hk] at h3; simp [Value.ownBlock] at h3; omega
  · rw [List.nil_append] at h3; rw [hk] at h3; injection h3 with h3; subst h3; simp at h4; omega
theorem fresh_of {v : Value} {g n c : Nat} {w : World} (h : v.ownBlock = some g ∨ w.heap.size ≤ g) : FreshOr v (.slice (some ⟨g, 0, none⟩) n c) w := h.elim (fun h => .inl h.symm) (fun h => .inr ⟨_, rfl, h⟩)
/-- Facts of a box for the walk. -/
theorem slice_toI (A : Option Addr) (n c : Nat) (m : Nat) (hm : m ≤ n) (hc : n ≤ c) : ∀ W : World, (Instr.slice 23 (.slice A n c) none (some (.int .i64 ((n : Int) - m))) none).run Try.prog W = .ok (.slice A (n - m) c) W := by
  intro W
  obtain ⟨inf, hi, hsz⟩ : ∃ i, Try.prog.info? 3 = some i ∧ i.size = 1 := by
    obtain ⟨i, h, h2⟩ := Option.map_eq_some_iff.1 infoI
    exact ⟨i, h, by simp only [Prod.mk.injEq] at h2; exact h2.2.1⟩
  have := slice_to (P := Try.prog) 23 3 (by kernel_rfl) hi hsz A n c ((n : Int) - m) (by omega) (by omega) hc W
  rwa [show ((n : Int) - m).toNat = n - m by omega] at this
theorem rdA_I {w : World} {A : Option Addr} {c : Nat} {l : List Int} (h : IR w (.slice A l.length c) l) (hl : l.length ≤ 1000000) : RdI w A l := by
  obtain ⟨A', c', hv, _, hr⟩ := IR.rd h (by omega)
  injection hv with hv
  subst hv
  exact hr
theorem bceq (a b : Int) : a = b ∨ (a == b) = false := by by_cases h : a = b <;> simp [h]
theorem own_ad {w : World} {base : Nat} {e : TypeId} {size n c : Nat} {ad : Addr} {xs : List Value} (h : w.ownsRow base e size (.slice (some ad) n c) n xs) : ∃ g, ad = ⟨g, 0, none⟩ := by
  rcases h.2 with ⟨hv, _⟩ | ⟨g, cap, cur, hv, _⟩
  · exact nomatch hv
  · injection hv with hv; injection hv with hv; exact ⟨g, hv⟩
theorem slice_fromA (A : Option Addr) (c : Nat) (l dl : List Int) (p : Nat) (hdl : dl = l.drop (p + 1)) (hm : p + 1 ≤ l.length) (hc : l.length ≤ c) :
    ∃ A' : Option Addr, (∀ W : World, (Instr.slice 23 (.slice A l.length c) (some (.int .i64 ((p : Int) + 1))) none none).run Try.prog W = .ok (.slice A' dl.length (c - (p + 1))) W) ∧ (∀ w, RdI w A l → RdI w A' dl) := by
  obtain ⟨inf, hi, hsz⟩ : ∃ i, Try.prog.info? 3 = some i ∧ i.size = 1 := by
    obtain ⟨i, h, h2⟩ := Option.map_eq_some_iff.1 infoI
    exact ⟨i, h, by simp only [Prod.mk.injEq] at h2; exact h2.2.1⟩
  obtain ⟨A1, s1, s2, _⟩ := slice_from (P := Try.prog) 23 3 (by kernel_rfl) hi hsz A c l ((p : Int) + 1) (by omega) (by omega) hc
  have e : ((p : Int) + 1).toNat = p + 1 := by omega
  rw [e] at s1 s2
  subst hdl
  refine ⟨A1, fun W => ?_, s2⟩
  rw [s1 W, List.length_drop]
/-- A graph's variable. -/
def GB (w : World) (g : Nat) (a b : Value) : Prop := w.heap[g]? = some (.cells #[a, b] 105 (0, 0))
theorem gb_c0 {w : World} {g : Nat} {a b : Value} (h : GB w g a b) : w.cell? ⟨g, 0, none⟩ = some a := by
  have h' : w.heap[g]? = _ := h
  simp [World.cell?, h']
theorem gb_c1 {w : World} {g : Nat} {a b : Value} (h : GB w g a b) : w.cell? ⟨g, 1, none⟩ = some b := by
  have h' : w.heap[g]? = _ := h
  simp [World.cell?, h']
theorem gb_fz {w : World} {g : Nat} {a b : Value} (h : GB w g a b) (j : Nat) : w.frozen? ⟨g, j, none⟩ = false := by
  have h' : w.heap[g]? = _ := h
  simp [World.frozen?, h']
theorem gb_all {w : World} {g : Nat} {a b : Value} (c d : Value) (h : GB w g a b) : GB ((w.setCell ⟨g, 0, none⟩ c).setCell ⟨g, 1, none⟩ d) g c d := by
  have hlt := (Array.getElem?_eq_some_iff.1 h).1
  have h' : w.heap[g]? = _ := h
  simp [GB, World.setCell, Array.getElem?_modify, h']
theorem infoG : (Try.prog.info? 105).map (·.size) = some 2 := by kernel_rfl
theorem loadG {w : World} {g : Nat} {v0 v1 : Value} (h : GB w g v0 v1) : (loadVar 105 ⟨g, 0, none⟩).run Try.prog w = .ok (.agg #[v0, v1]) w := by
  have hm : (Try.prog.underlying 105).map (fun d => match d with | .struct _ => true | _ => false) = some true := by kernel_rfl
  obtain ⟨d, hu, hd⟩ := Option.map_eq_some_iff.1 hm
  refine run_loadVar_row w g _ _ _ _ d h hu ?_ infoG
  cases d <;> first | rfl | exact absurd hd (by simp)
end Go.Proofs.Ytgenllcfpjgklaa.C
