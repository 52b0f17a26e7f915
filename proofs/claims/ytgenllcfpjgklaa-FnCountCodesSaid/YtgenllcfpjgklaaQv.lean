/- A reader is made of given bytes. -/
import Derived.Test.YtgenllcfpjgklaaQu
set_option linter.unusedVariables false
set_option linter.unusedSimpArgs false
namespace Go.Proofs.Ytgenllcfpjgklaa.C
open Go.RowKit Go.Proofs.Ytgenllcfpjgklaa.W Go.Proofs.Ytgenllcfpjgklaa.P

/-- Bytes that are given. -/
def GivB (w : World) (A : Option Addr) (bs : List Int) : Prop := bs.length ≤ 9223372036854775807 ∧ ∀ k (h : k < bs.length), ∃ ad, A = some ad ∧ w.cell? (ad.add k) = some (.int .u8 bs[k]) ∧ 0 ≤ bs[k] ∧ bs[k] ≤ 255
theorem GivB.take {w : World} {A : Option Addr} {bs : List Int} (h : GivB w A bs) (n : Nat) : GivB w A (bs.take n) :=
  ⟨by have := h.1; rw [List.length_take]; omega, fun k hk => by
    have hk' : k < bs.length := by rw [List.length_take] at hk; omega
    obtain ⟨ad, ha, hc⟩ := h.2 k hk'
    exact ⟨ad, ha, by simpa using hc⟩⟩
theorem GivB.by {w : World} {A : Option Addr} {bs : List Int} (h : GivB w A bs) (hl : bs.length ≤ 2000) : RdBy w A bs w.heap.size :=
  ⟨hl, fun k hk => let ⟨ad, e1, e2, e3⟩ := h.2 k hk; ⟨ad, e1, by have := World.block_lt_of_cell? w _ e2; rwa [add_block] at this, e2, e3⟩⟩
/-- A reader comes back, in a block of its own. -/
def NrV (w : World) (e : Ending) (w' : World) : Prop := e = .returned (.pointer (some ⟨w.heap.size, 0, none⟩)) ∧ Rdr w' w.heap.size 0 ∧ Ext w w'
theorem nr_end {w : World} {A : Option Addr} {bs : List Int} {c n : Nat} (h : RdBy w A bs w.heap.size) (hn : n = bs.length) : NrV w (.returned (.pointer (some ⟨w.heap.size, 0, none⟩))) (w.alloc (.cells #[.slice A n c, .int .i64 0] 88)) := by
  subst hn
  exact ⟨rfl, ⟨by omega, A, c, bs, al_new _ _, h.1, fun k hk => let ⟨ad, e1, e2, e3, e4⟩ := h.2 k hk; ⟨ad, e1, e2, ((Ext.rf w).al _).cellOf e3, e4⟩⟩, (Ext.rf w).al _⟩
theorem slice_toB (A : Option Addr) (n c k : Nat) (hk : k ≤ n) (hc : n ≤ c) : ∀ W : World, (Instr.slice 22 (.slice A n c) none (some (.int .i64 (k : Int))) none).run Try.prog W = .ok (.slice A k c) W := by
  obtain ⟨inf, hi, hsz⟩ : ∃ i, Try.prog.info? 5 = some i ∧ i.size = 1 := by
    have h : (Try.prog.info? 5).map (·.size) = some 1 := by kernel_rfl
    exact Option.map_eq_some_iff.1 h
  intro W
  have := slice_to (P := Try.prog) 22 5 (by kernel_rfl) hi hsz A n c (k : Int) (by omega) (by omega) hc W
  simpa using this
set_option maxRecDepth 100000 in
theorem newReader_c (A : Option Addr) (c : Nat) (bs : List Int) (w : World) (hb : GivB w A bs) (hc : bs.length ≤ c) : Calls Try.prog 61 #[.slice A bs.length c] w (NrV w) := by
  have HB := As.mk hb
  have hbl := hb.1
  obtain ⟨n, hn⟩ : ∃ n, n = bs.length := ⟨_, rfl⟩
  have HN := As.mk hn
  rw [← hn] at hc hbl ⊢
  clear hb hn
  by_cases hl : 2000 < n
  · have hs := slice_toB A n c 2000 (by omega) hc
    have hli : (2000 : Int) < n := by omega
    go_enter Try.func61, Try.ntmps61
    go_wp2_with fail
    go_ret
    refine nr_end ((HB.out.take 2000).by (by rw [List.length_take]; omega)) (by rw [List.length_take, ← HN.out]; omega)
  · have hli : ¬ (2000 : Int) < n := by omega
    go_enter Try.func61, Try.ntmps61
    go_wp2_with fail
    go_ret
    exact nr_end (HB.out.by (by rw [← HN.out]; omega)) HN.out
/-- Drawn orders come back. -/
def DrawV (w : World) (e : Ending) (w' : World) : Prop := ∃ A c l, e = .returned (.slice A l.length c) ∧ OR w' (.slice A l.length c) l ∧ Ext w w' ∧ As (l.length ≤ 30000)
theorem drawn {w w1 w' : World} {e : Ending} {g : Nat} (hx : Ext w w1) (hg : w.heap.size ≤ g) (h : OpsV w1 g 0 e w') : DrawV w e w' := by
  obtain ⟨A, c, l, h1, h2, h3, h4, h5, h6⟩ := h
  exact ⟨A, c, l, h1, h2, (Fr.then (S := fun _ => False) (Fr.ofExt hx) h6 (fun i hi => .inr (by omega))).ext (fun _ h => h.elim), h4⟩
set_option maxRecDepth 100000 in
theorem DrawValidOps_c (A : Option Addr) (c : Nat) (bs : List Int) (w : World) (hb : GivB w A bs) (hc : bs.length ≤ c) : Calls Try.prog 19 #[.slice A bs.length c] w (DrawV w) := by
  have HB := As.mk hb
  clear hb
  go_enter Try.func19, Try.ntmps19
  go_wp2_with (first | (go_at_call 61; refine (newReader_c _ _ bs _ HB.out hc).mono ?_; rintro e w1 ⟨rfl, hrd, he⟩; have HRD := As.mk hrd; have HE := As.mk he; clear hrd he) | (go_at_call 70; refine (someOps_c _ _ _ HRD.out (by omega)).mono ?_; rintro e w2 ho; have hd := drawn HE.out (Nat.le_refl _) ho; obtain ⟨A2, c2, l2, rfl, h1, h2, h3⟩ := hd; have HO2 := As.mk h1; have HE2 := As.mk h2; clear h1 h2 ho))
  go_ret
  exact ⟨A2, c2, l2, rfl, HO2.out, HE2.out, h3⟩
set_option maxRecDepth 100000 in
theorem DrawIsShort_c (A : Option Addr) (c : Nat) (bs : List Int) (w : World) (hb : GivB w A bs) (hc : bs.length ≤ c) : Calls Try.prog 25 #[.slice A bs.length c] w (DrawV w) := by
  have HB := As.mk hb
  clear hb
  go_enter Try.func25, Try.ntmps25
  go_wp2_with (first | (go_at_call 61; refine (newReader_c _ _ bs _ HB.out hc).mono ?_; rintro e w1 ⟨rfl, hrd, he⟩; have HRD := As.mk hrd; have HE := As.mk he; clear hrd he) | (go_at_call 70; refine (someOps_c _ _ _ HRD.out (by omega)).mono ?_; rintro e w2 ho; have hd := drawn HE.out (Nat.le_refl _) ho; obtain ⟨A2, c2, l2, rfl, h1, h2, h3⟩ := hd; have HO2 := As.mk h1; have HE2 := As.mk h2; clear h1 h2 ho))
  go_ret
  exact ⟨A2, c2, l2, rfl, HO2.out, HE2.out, h3⟩
set_option maxRecDepth 100000 in
theorem DrawCountCodes_c (A : Option Addr) (c : Nat) (bs : List Int) (w : World) (hb : GivB w A bs) (hc : bs.length ≤ c) : Calls Try.prog 29 #[.slice A bs.length c] w (DrawV w) := by
  have HB := As.mk hb
  clear hb
  go_enter Try.func29, Try.ntmps29
  go_wp2_with (first | (go_at_call 61; refine (newReader_c _ _ bs _ HB.out hc).mono ?_; rintro e w1 ⟨rfl, hrd, he⟩; have HRD := As.mk hrd; have HE := As.mk he; clear hrd he) | (go_at_call 70; refine (someOps_c _ _ _ HRD.out (by omega)).mono ?_; rintro e w2 ho; have hd := drawn HE.out (Nat.le_refl _) ho; obtain ⟨A2, c2, l2, rfl, h1, h2, h3⟩ := hd; have HO2 := As.mk h1; have HE2 := As.mk h2; clear h1 h2 ho))
  go_ret
  exact ⟨A2, c2, l2, rfl, HO2.out, HE2.out, h3⟩
set_option maxRecDepth 100000 in
theorem DrawSizeOf_c (A : Option Addr) (c : Nat) (bs : List Int) (w : World) (hb : GivB w A bs) (hc : bs.length ≤ c) : Calls Try.prog 34 #[.slice A bs.length c] w (DrawV w) := by
  have HB := As.mk hb
  clear hb
  go_enter Try.func34, Try.ntmps34
  go_wp2_with (first | (go_at_call 61; refine (newReader_c _ _ bs _ HB.out hc).mono ?_; rintro e w1 ⟨rfl, hrd, he⟩; have HRD := As.mk hrd; have HE := As.mk he; clear hrd he) | (go_at_call 70; refine (someOps_c _ _ _ HRD.out (by omega)).mono ?_; rintro e w2 ho; have hd := drawn HE.out (Nat.le_refl _) ho; obtain ⟨A2, c2, l2, rfl, h1, h2, h3⟩ := hd; have HO2 := As.mk h1; have HE2 := As.mk h2; clear h1 h2 ho))
  go_ret
  exact ⟨A2, c2, l2, rfl, HO2.out, HE2.out, h3⟩
set_option maxRecDepth 100000 in
theorem DrawPlacesOf_c (A : Option Addr) (c : Nat) (bs : List Int) (w : World) (hb : GivB w A bs) (hc : bs.length ≤ c) : Calls Try.prog 37 #[.slice A bs.length c] w (DrawV w) := by
  have HB := As.mk hb
  clear hb
  go_enter Try.func37, Try.ntmps37
  go_wp2_with (first | (go_at_call 61; refine (newReader_c _ _ bs _ HB.out hc).mono ?_; rintro e w1 ⟨rfl, hrd, he⟩; have HRD := As.mk hrd; have HE := As.mk he; clear hrd he) | (go_at_call 70; refine (someOps_c _ _ _ HRD.out (by omega)).mono ?_; rintro e w2 ho; have hd := drawn HE.out (Nat.le_refl _) ho; obtain ⟨A2, c2, l2, rfl, h1, h2, h3⟩ := hd; have HO2 := As.mk h1; have HE2 := As.mk h2; clear h1 h2 ho))
  go_ret
  exact ⟨A2, c2, l2, rfl, HO2.out, HE2.out, h3⟩
set_option maxRecDepth 100000 in
theorem DrawEncodeOps_c (A : Option Addr) (c : Nat) (bs : List Int) (w : World) (hb : GivB w A bs) (hc : bs.length ≤ c) : Calls Try.prog 41 #[.slice A bs.length c] w (DrawV w) := by
  have HB := As.mk hb
  clear hb
  go_enter Try.func41, Try.ntmps41
  go_wp2_with (first | (go_at_call 61; refine (newReader_c _ _ bs _ HB.out hc).mono ?_; rintro e w1 ⟨rfl, hrd, he⟩; have HRD := As.mk hrd; have HE := As.mk he; clear hrd he) | (go_at_call 70; refine (someOps_c _ _ _ HRD.out (by omega)).mono ?_; rintro e w2 ho; have hd := drawn HE.out (Nat.le_refl _) ho; obtain ⟨A2, c2, l2, rfl, h1, h2, h3⟩ := hd; have HO2 := As.mk h1; have HE2 := As.mk h2; clear h1 h2 ho))
  go_ret
  exact ⟨A2, c2, l2, rfl, HO2.out, HE2.out, h3⟩
end Go.Proofs.Ytgenllcfpjgklaa.C
