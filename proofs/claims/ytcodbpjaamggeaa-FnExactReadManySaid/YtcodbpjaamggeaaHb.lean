/- The law's own functions on orders: their contracts. -/
import Derived.Test.YtcodbpjaamggeaaHa
set_option linter.unusedVariables false
set_option linter.unusedSimpArgs false
namespace Go.Proofs.Ytcodbpjaamggeaa.C
open Go.RowKit Go.Proofs.Ytcodbpjaamggeaa.W Go.Proofs.Ytcodbpjaamggeaa.P

theorem szOpS_c (A : Option Addr) (n c : Nat) (left : Int) (w : World) (h0 : 0 ≤ left) (h1 : left ≤ 1048576) (hn : n ≤ 9223372036854775807) :
    Calls Try.prog 19 #[.slice A n c, .int .i64 left] w fun e w' => e = .returned (.int .i64 (if (n : Int) ≤ left then left - n else -1)) ∧ w = w' := by
  by_cases hl : (n : Int) ≤ left
  · have e : (if (n : Int) ≤ left then left - n else -1) = left - n := if_pos hl
    rw [e]
    have h2 : 0 ≤ left - n := by omega
    clear e
    go_enter Try.func19, Try.ntmps19
    go_wp2_with fail
    go_ret
    exact ⟨rfl, rfl⟩
  · have e : (if (n : Int) ≤ left then left - n else -1) = -1 := if_neg hl
    rw [e]
    have h2 : left - n < 0 := by omega
    have h3 : -9223372036854775808 ≤ left - n := by omega
    clear e hl
    go_enter Try.func19, Try.ntmps19
    go_wp2_with fail
    go_ret
    exact ⟨rfl, rfl⟩
theorem infoOb : (Try.prog.info? 82).map (·.size) = some 2 := by kernel_rfl
theorem loadO {w : World} {g : Nat} {v0 v1 : Value} (h : w.heap[g]? = some (.cells #[v0, v1] 82 (0, 0))) : (loadVar 82 ⟨g, 0, none⟩).run Try.prog w = .ok (.agg #[v0, v1]) w := by
  have hm : (Try.prog.underlying 82).map (fun d => match d with | .struct _ => true | _ => false) = some true := by kernel_rfl
  obtain ⟨d, hu, hd⟩ := Option.map_eq_some_iff.1 hm
  refine run_loadVar_row w g _ _ _ _ d h hu ?_ infoOb
  cases d <;> first | rfl | exact absurd hd (by simp)
theorem toOp_c (a b : Int) (w : World) : Calls Try.prog 72 #[.agg #[.int .i64 a, .int .i64 b]] w fun e w' => e = .returned (.agg #[.int .i64 a, .int .i64 b]) ∧ Ext w w' := by
  go_enter Try.func72, Try.ntmps72
  go_wp2_with fail
  have hb := al_new (w.alloc (.cells #[.int .i64 a, .int .i64 b] 77)) (.cells #[.int .i64 a, .int .i64 b] 82)
  rw [al_size] at hb
  refine bodyPost_ret (results_cell rfl _ _ (w.heap.size + 1) _ rfl (loadO (((Ext.rf _).al _).blk hb))) rfl ?_
  exact ⟨rfl, (((Ext.rf _).al _).al _).al _⟩
theorem make_ops (n : Nat) (hn : n ≤ 1048576) (w : World) : ∃ w', (Instr.makeSlice 25 (.int .i64 (n : Int)) (.int .i64 (n : Int))).run Try.prog w = .ok (.slice (some ⟨w.heap.size, 0, none⟩) n n) w' ∧ OR w' (.slice (some ⟨w.heap.size, 0, none⟩) n n) (List.replicate n ⟨0, 0⟩) ∧ Ext w w' := by
  obtain ⟨i0, hi, hzz⟩ := Option.map_eq_some_iff.1 infoO
  simp only [Prod.mk.injEq] at hzz
  obtain ⟨hz0, hz1, hz2⟩ := hzz
  obtain ⟨w', h1, h2, h3⟩ := run_makeSlice_full (P := Try.prog) (w := w) 0 25 82 i0 (.agg #[.int .i64 0, .int .i64 0]) 2 (by kernel_rfl) hi hz0 hz1 .i64 .i64 n (by omega) (by rw [hz2]; omega) (by simp only [maxLen]; omega) (Nat.zero_le _)
  refine ⟨w', h1, ?_, (Fr.grown (S := fun _ => False) h3 (fun i hi => nomatch hi)).ext (fun _ h => h.elim)⟩
  unfold OR
  rw [List.length_replicate]
  rw [ocs_zero] at h2
  exact h2
theorem OR.fz {w : World} {ad : Addr} {n c : Nat} {l : List Opr} (h : OR w (.slice (some ad) n c) l) (j : Nat) : w.frozen? (ad.add j) = false ∧ w.frozen? ⟨(ad.add j).block, (ad.add j).off + 1, none⟩ = false := by
  rcases h.2 with ⟨hv, _⟩ | ⟨g, cap, cur, hv, _, hh, _⟩
  · exact nomatch hv
  · injection hv with hv
    injection hv with hv
    subst hv
    rw [(add_at g j 1).2, (add_at g j 0).1]
    simp [World.frozen?, hh]
theorem OR.setA {w : World} {ad : Addr} {n c : Nat} {l : List Opr} (h : OR w (.slice (some ad) n c) l) (k : Nat) (hk : k < l.length) (o : Opr) :
    OR ((w.setCell (ad.add (k * 2)) (.int .i64 o.code)).setCell ⟨(ad.add (k * 2)).block, (ad.add (k * 2)).off + 1, none⟩ (.int .i64 o.arg)) (.slice (some ad) n c) (l.set k o) := by
  rcases h.2 with ⟨hv, _⟩ | ⟨g, cap, cur, hv, _⟩
  · exact nomatch hv
  · injection hv with hv
    injection hv with hv
    subst hv
    rw [(add_at g (k * 2) 1).2, (add_at g (k * 2) 0).1]
    exact OR.set h k hk o
theorem OR.blk {w : World} {ad : Addr} {n c : Nat} {l : List Opr} (h : OR w (.slice (some ad) n c) l) (j : Nat) : (Value.slice (some ad) n c).ownBlock = some (ad.add j).block := by
  rcases h.2 with ⟨hv, _⟩ | ⟨g, cap, cur, hv, _⟩
  · exact nomatch hv
  · injection hv with hv
    injection hv with hv
    subst hv
    rw [add_block]; rfl
theorem fill_step {α : Type} (l : List α) (z : α) (k : Nat) (hk : k < l.length) : (l.take k ++ List.replicate (l.length - k) z).set k l[k] = l.take (k + 1) ++ List.replicate (l.length - (k + 1)) z := by
  have e : l.length - k = (l.length - (k + 1)) + 1 := by omega
  rw [e, List.replicate_succ, List.set_append_right _ _ (by simp; omega), List.take_succ_eq_append_getElem hk]
  simp [Nat.min_eq_left (Nat.le_of_lt hk), -List.take_append_getElem]
theorem next_cell (w : World) (p : Addr) {u : Value} (h : w.cell? ⟨p.block, p.off + 1, none⟩ = some u) (v : Value) : (w.setCell p v).cell? ⟨p.block, p.off + 1, none⟩ = some u := by
  rw [World.cell?_setCell_other w p _ v (fun e => by have := congrArg Addr.off e; simp at this)]
  exact h
theorem next_fz (w : World) (p : Addr) (h : w.frozen? ⟨p.block, p.off + 1, none⟩ = false) (v : Value) : (w.setCell p v).frozen? ⟨p.block, p.off + 1, none⟩ = false := by
  simpa using h
/-- The copy of the arguments. -/
def CopyO (l : List Opr) (w : World) (e : Ending) (w' : World) : Prop := ∃ ad, e = .returned (.slice (some ad) l.length l.length) ∧ OR w' (.slice (some ad) l.length l.length) l ∧ Ext w w' ∧ w.heap.size ≤ ad.block
set_option maxRecDepth 100000 in
theorem toOpS_c (A : Option Addr) (c : Nat) (l : List Opr) (w : World) (hr : RdO w A l) (hl : l.length ≤ 1048576) : Calls Try.prog 21 #[.slice A l.length c] w (CopyO l w) := by
  obtain ⟨w0, hm, hO, hE⟩ := make_ops l.length hl w
  obtain ⟨ad, had⟩ : ∃ ad : Addr, ad = ⟨w.heap.size, 0, none⟩ := ⟨_, rfl⟩
  rw [← had] at hm hO
  have HB : As (w.heap.size ≤ ad.block) := ⟨by rw [had]; exact Nat.le_refl _⟩
  have HR := As.mk hr
  have HO := As.mk hO
  have HE := As.mk hE
  clear hr had hO hE
  go_enter Try.func21, Try.ntmps21
  go_wp2_with fail
  go_loopw [4] (fun i wr => ∃ k : Nat, k ≤ l.length ∧ i = .int .i64 k ∧ As (OR wr (.slice (some ad) l.length l.length) (l.take k ++ List.replicate (l.length - k) ⟨0, 0⟩)) ∧ As (Ext w wr)) (fun i _ => l.length - (intOf i).toNat)
  case atStart => exact ⟨0, Nat.zero_le _, rfl, ⟨by simpa using HO.out⟩, HE⟩
  case round =>
    obtain ⟨k, hk, rfl, hO, he⟩ := hrel
    by_cases hlt : k < l.length
    · obtain ⟨a, rfl, h1, h2⟩ := (HR.out.ext he.out).2 k hlt
      obtain ⟨oc, hoc⟩ : ∃ oc, oc = l[k].code := ⟨_, rfl⟩
      obtain ⟨oa, hoa⟩ : ∃ oa, oa = l[k].arg := ⟨_, rfl⟩
      rw [← hoc] at h1
      rw [← hoa] at h2
      have HK : As (l[k] = ⟨oc, oa⟩) := ⟨by rw [hoc, hoa]⟩
      clear hoc hoa
      have q1 : (k : Int) < l.length := by omega
      have hkl : k < (l.take k ++ List.replicate (l.length - k) (⟨0, 0⟩ : Opr)).length := by simp; omega
      have HKL := As.mk hkl
      clear hkl
      go_wp2_with ((go_at_call 72; refine (toOp_c _ _ _).mono ?_; rintro e w2 ⟨rfl, hx⟩; have hO2 := hO.out.ext hx; have HO2 := As.mk hO2; have HX := As.mk hx; obtain ⟨_, hA, g1, g2⟩ := (rdA_O hO2 (by simp; omega)).2 k HKL.out; cases hA; have g3 := (hO2.fz (k * 2)).1; have g4 := next_fz w2 _ (hO2.fz (k * 2)).2; have g5 := next_cell w2 _ g2; clear hO2 hx g2))
      go_roundw
      case measure => simp only [intOf]; omega
      case rel =>
        have h1 := OR.setA HO2.out k HKL.out ⟨oc, oa⟩
        rw [← HK.out, fill_step l _ k hlt] at h1
        have hb := OR.blk HO2.out (k * 2)
        have h3 : w.heap.size ≤ (ad.add (k * 2)).block := by rw [add_block]; exact HB.out
        exact ⟨k + 1, by omega, by go_num, ⟨by simpa only [HK.out] using h1⟩, ⟨Ext.st (p := ⟨(ad.add (k * 2)).block, (ad.add (k * 2)).off + 1, none⟩) ((he.out.trans HX.out).st h3 _) h3 _⟩⟩
    · have hkl : k = l.length := by omega
      subst hkl
      go_wp2_with fail
      go_ret
      exact ⟨ad, rfl, by simpa using hO.out, he.out, HB.out⟩
/-- What the law is given: orders that can be read. -/
def GivenO (w : World) (A : Option Addr) (l : List Opr) : Prop := l.length ≤ 9223372036854775807 ∧ ∀ k (h : k < l.length), ∃ ad, A = some ad ∧ w.cell? (ad.add (k * 2)) = some (.int .i64 l[k].code) ∧
    w.cell? ⟨(ad.add (k * 2)).block, (ad.add (k * 2)).off + 1, none⟩ = some (.int .i64 l[k].arg)
theorem GivenO.rd {w A l} (h : GivenO w A l) (hl : l.length ≤ 1048576) : RdO w A l := ⟨by omega, h.2⟩
end Go.Proofs.Ytcodbpjaamggeaa.C
