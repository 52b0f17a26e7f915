/- The reference's machine: orders that take from the top. -/
import Derived.Test.YtcodbpjaamggeaaMc
set_option linter.unusedVariables false
set_option linter.unusedSimpArgs false
namespace Go.Proofs.Ytcodbpjaamggeaa.C
open Go.RowKit Go.Proofs.Ytcodbpjaamggeaa.W Go.Proofs.Ytcodbpjaamggeaa.P

/-- A machine comes back, in its rows. -/
def MachS (B : Nat → Prop) (m' : Mc) (w : World) (e : Ending) (w' : World) : Prop := ∃ l AN nN cN AS nS cS AM nM cM, e = .returned (.agg #[.slice AN nN cN, .slice AS nS cS, .slice AM nM cM, .bool m'.done]) ∧ MW B w' l (.slice AN nN cN) (.slice AS nS cS) (.slice AM nM cM) m' ∧ Fr B w w'
theorem machS_of {B m' w e w'} (h : MachR B m' w e w') : MachS B m' w e w' := by
  obtain ⟨l, vN, vS, vM, rfl, hv, hf⟩ := h
  obtain ⟨AN, cN, rfl, _, _⟩ := own_form hv.nr.1
  obtain ⟨AS, cS, rfl, _, _⟩ := own_form hv.sr
  obtain ⟨AM, cM, rfl, _, _⟩ := own_form hv.me
  exact ⟨l, AN, _, cN, AS, _, cS, AM, _, cM, rfl, hv, hf⟩
/-- A machine and whether that is possible. -/
def StepX (B : Nat → Prop) (r : Option Mc) (w : World) (e : Ending) (w' : World) : Prop := ∃ AN nN cN AS nS cS AM nM cM x, e = .returned (.tuple #[.agg #[.slice AN nN cN, .slice AS nS cS, .slice AM nM cM, .bool x], .bool r.isSome]) ∧ Fr B w w' ∧ ∀ m', r = some m' → x = m'.done ∧ ∃ l, MW B w' l (.slice AN nN cN) (.slice AS nS cS) (.slice AM nM cM) m'
theorem ir_one (w : World) (a : Int) : IR (w.alloc (.cells #[.int .i64 a] 3)) (.slice (some ⟨w.heap.size, 0, none⟩) 1 1) [a] := World.ownsRow_lit (base := 0) (size := 1) w #[.int .i64 a] 1 (Nat.zero_le _) (by decide) rfl
theorem ir_two (w : World) (a b : Int) : IR (w.alloc (.cells #[.int .i64 a, .int .i64 b] 3)) (.slice (some ⟨w.heap.size, 0, none⟩) 2 2) [a, b] := World.ownsRow_lit (base := 0) (size := 1) w #[.int .i64 a, .int .i64 b] 2 (Nat.zero_le _) (by decide) rfl
theorem rd_one (w : World) (x : Int) : RdI (w.alloc (.cells #[.int .i64 x] 3)) (some ⟨w.heap.size, 0, none⟩) [x] := by
  obtain ⟨A, c, h1, _, h2⟩ := IR.rd (ir_one w x) (by simp)
  injection h1 with h1
  rw [h1]
  exact h2
/-- A node whose kids are a fresh row. -/
theorem spush_new {B w l vN vS vM m} (h : MW B w l vN vS vM m) (hnl : m.nodes.length ≤ 1000000) (hsl : m.stack.length ≤ 1000000) (hml : m.memo.length ≤ 1000000) (kind val : Int) (xs : List Int) (n : Nat) (o : Obj) (hI : IR (w.alloc o) (.slice (some ⟨w.heap.size, 0, none⟩) n n) xs) (hx : xs.length ≤ 1000000) :
    Calls Try.prog 147 #[.agg #[vN, vS, vM, .bool m.done], .agg #[.int .i64 kind, .int .i64 val, .slice (some ⟨w.heap.size, 0, none⟩) n n]] (w.alloc o) (fun e w' => MachS B (pushN m kind val xs) w e w') := by
  have hv := h.ext ((Ext.rf w).al o)
  have hown : ∀ k, (Value.slice (some ⟨w.heap.size, 0, none⟩) n n).ownBlock = some k → w.heap.size = k := fun k hk => by simpa [Value.ownBlock] using hk
  have hap : ∀ v : Value, (∀ k, v.ownBlock = some k → k < w.heap.size) → Apart v (.slice (some ⟨w.heap.size, 0, none⟩) n n) := fun v hlt k hk hk' => by have := hlt k hk; have := hown k hk'; omega
  refine (spush_c hv kind val _ xs hI hx (fun k hk => h.up k (by rw [hown k hk]; exact Nat.le_refl _)) (fun p hp => hap _ (fun k hk => h.lt k (.inr (.inr (.inr ⟨p, hp, hk⟩))))) (hap _ (fun k hk => h.lt k (.inr (.inl hk)))).symm (hap _ (fun k hk => h.lt k (.inr (.inr (.inl hk))))).symm hnl hsl hml).mono ?_
  intro e w' hr
  obtain ⟨l', AN, nN, cN, AS, nS, cS, AM, nM, cM, he, hw, hf⟩ := machS_of hr
  exact ⟨l', AN, nN, cN, AS, nS, cS, AM, nM, cM, he, hw, (Fr.ofExt ((Ext.rf w).al o)).trans hf⟩
theorem topP_at {m : Mc} {d : Nat} (h : d < m.stack.length) : topP m d = st m.stack d := if_pos h
theorem topP_lm {Bd : Nat} {m : Mc} (h : okM Bd m) (d : Nat) : topP m d < m.nodes.length := by
  unfold topP
  split
  · rename_i hd
    rw [st_at _ _ hd]
    exact (h.si _ (List.getElem_mem _)).2
  · omega
/-- The last order. -/
def doneP (m : Mc) : Option Mc := if m.stack.length = 1 then some { m with done := true } else none
theorem topP_len {m : Mc} {d : Nat} (h : 0 ≤ topP m d) : d + 1 ≤ m.stack.length := by
  unfold topP at h
  split at h <;> omega
set_option maxRecDepth 100000 in
set_option maxHeartbeats 4000000 in
theorem stepTop_0 {B Bd w l vN vS vM m} (h : MW B w l vN vS vM m) (hok : okM Bd m) (hBd : Bd ≤ 1000000) (arg : Int) (code : Int) (ht : topP m 0 < 0) :
    Calls Try.prog 149 #[.agg #[vN, vS, vM, .bool m.done], .agg #[.int .i64 code, .int .i64 arg]] w (StepX B (none) w) := by
  obtain ⟨AN, cN, AS, cS, AM, cM, rfl, rfl, rfl, hrm, hcS⟩ := h.rm (by have := hok.nl; omega) (by have := hok.sl; omega) (by have := hok.ml; omega)
  have HX := As.mk (h.box (W := ((w.alloc (.cells #[.slice AN m.nodes.length cN, .slice AS m.stack.length cS, .slice AM m.memo.length cM, .bool m.done] 64)).alloc (.cells #[.int .i64 code, .int .i64 arg] 82)).alloc (.cells #[.slice none 0 0, .slice none 0 0, .slice none 0 0, .bool false] 64)) (fun k => k = w.heap.size ∨ k = w.heap.size + 1 ∨ k = w.heap.size + 1 + 1) (g := w.heap.size) (g2 := w.heap.size + 1 + 1) ((((Ext.rf w).al _).al _).al _) (((((Ext.rf _).al _)).al _).blk (al_new _ _)) (by have := al_new ((w.alloc (.cells #[.slice AN m.nodes.length cN, .slice AS m.stack.length cS, .slice AM m.memo.length cM, .bool m.done] 64)).alloc (.cells #[.int .i64 code, .int .i64 arg] 82)) (.cells #[.slice none 0 0, .slice none 0 0, .slice none 0 0, .bool false] 64); rw [al_size, al_size] at this; exact this) (.inl rfl) (.inr (.inr rfl)) (by omega) (fun k hk => by rw [al_size, al_size, al_size]; omega))
  have HO := As.mk (show (((w.alloc (.cells #[.slice AN m.nodes.length cN, .slice AS m.stack.length cS, .slice AM m.memo.length cM, .bool m.done] 64)).alloc (.cells #[.int .i64 code, .int .i64 arg] 82)).alloc (.cells #[.slice none 0 0, .slice none 0 0, .slice none 0 0, .bool false] 64)).heap[w.heap.size + 1]? = some (.cells #[.int .i64 code, .int .i64 arg] 82 (0, 0)) from by have := ((Ext.rf _).al (.cells #[.slice none 0 0, .slice none 0 0, .slice none 0 0, .bool false] 64)).blk (al_new (w.alloc (.cells #[.slice AN m.nodes.length cN, .slice AS m.stack.length cS, .slice AM m.memo.length cM, .bool m.done] 64)) (.cells #[.int .i64 code, .int .i64 arg] 82)); rw [al_size] at this; exact this)
  have HRM := As.mk (RdI.ext hrm.s ((((Ext.rf w).al (.cells #[.slice AN m.nodes.length cN, .slice AS m.stack.length cS, .slice AM m.memo.length cM, .bool m.done] 64)).al (.cells #[.int .i64 code, .int .i64 arg] 82)).al (.cells #[.slice none 0 0, .slice none 0 0, .slice none 0 0, .bool false] 64)))
  have HRN := As.mk (RdN.ext hrm.n ((((Ext.rf w).al (.cells #[.slice AN m.nodes.length cN, .slice AS m.stack.length cS, .slice AM m.memo.length cM, .bool m.done] 64)).al (.cells #[.int .i64 code, .int .i64 arg] 82)).al (.cells #[.slice none 0 0, .slice none 0 0, .slice none 0 0, .bool false] 64)))
  have HOK := As.mk hok
  have q1 := hok.nl
  have q2 := hok.sl
  have q3 : m.memo.length ≤ 1000000 := by have := hok.ml; omega
  clear h hrm hok
  go_enter Try.func149, Try.ntmps149
  go_upto_region 1 with fail
  obtain ⟨w1, hw1⟩ : ∃ w1, w1 = ((w.alloc (.cells #[.slice AN m.nodes.length cN, .slice AS m.stack.length cS, .slice AM m.memo.length cM, .bool m.done] 64)).alloc (.cells #[.int .i64 code, .int .i64 arg] 82)).alloc (.cells #[.slice none 0 0, .slice none 0 0, .slice none 0 0, .bool false] 64) := ⟨_, rfl⟩
  rw [← hw1] at HX HO HRM HRN ⊢
  clear hw1
  obtain ⟨g, hg⟩ : ∃ g, g = w.heap.size := ⟨_, rfl⟩
  rw [← hg] at HX HO ⊢
  clear hg
  obtain ⟨a, ha0⟩ : ∃ a, a = topP m 0 := ⟨_, rfl⟩
  obtain ⟨b, hb0⟩ : ∃ b, b = topP m 1 := ⟨_, rfl⟩
  obtain ⟨c, hc0⟩ : ∃ c, c = topP m 2 := ⟨_, rfl⟩
  have HA := As.mk ha0
  have HB := As.mk hb0
  have HC := As.mk hc0
  have hneg : a < 0 := by rw [ha0]; exact ht
  clear ha0 hb0 hc0
  have c0 := MB.c0 HX.out.a.mb; have c1 := MB.c1 HX.out.a.mb; have c2 := MB.c2 HX.out.a.mb; have c3 := MB.c3 HX.out.a.mb
  go_upto_region 2 with (go_at_call 173; refine (stop_c _ _ _ _ _ _ _ _ m 0 w1 HRM.out (by omega)).mono ?_; rw [← HA.out]; rintro e w2 ⟨rfl, hx⟩; have HE2 := As.mk hx; clear hx)
  replace c0 := HE2.out.cellOf c0; replace c1 := HE2.out.cellOf c1; replace c2 := HE2.out.cellOf c2; replace c3 := HE2.out.cellOf c3
  go_upto_region 3 with (go_at_call 173; refine (stop_c _ _ _ _ _ _ _ _ m 1 w2 (HRM.out.ext HE2.out) (by omega)).mono ?_; rw [← HB.out]; rintro e w3 ⟨rfl, hx⟩; have HE3 := As.mk (HE2.out.trans hx); have HF3 := As.mk hx; clear hx)
  replace c0 := HF3.out.cellOf c0; replace c1 := HF3.out.cellOf c1; replace c2 := HF3.out.cellOf c2; replace c3 := HF3.out.cellOf c3
  clear HF3
  go_upto_region 4 with (go_at_call 173; refine (stop_c _ _ _ _ _ _ _ _ m 2 w3 (HRM.out.ext HE3.out) (by omega)).mono ?_; rw [← HC.out]; rintro e w4 ⟨rfl, hx⟩; have HE4 := As.mk (HE3.out.trans hx); clear hx)
  clear c0 c1 c2 c3 HE2 HE3
  have hx4 := HX.out.ext HE4.out
  have ho4 := HE4.out.blk HO.out
  have hrn4 := HRN.out.ext HE4.out
  clear HX HO HRM HRN HE4
  have HX := As.mk hx4
  have HO := As.mk ho4
  have HRN := As.mk hrn4
  clear hx4 ho4 hrn4
  have c0 := MB.c0 HX.out.a.mb; have c1 := MB.c1 HX.out.a.mb; have c2 := MB.c2 HX.out.a.mb; have c3 := MB.c3 HX.out.a.mb
  have o0 : w4.cell? ⟨g + 1, 0, none⟩ = some (.int .i64 code) := by simp [World.cell?, HO.out]
  have o1 : w4.cell? ⟨g + 1, 1, none⟩ = some (.int .i64 arg) := by simp [World.cell?, HO.out]
  have d0 := MB.c0 HX.out.r; have d1 := MB.c1 HX.out.r; have d2 := MB.c2 HX.out.r; have d3 := MB.c3 HX.out.r
  have f0 := MB.fz HX.out.r 0; have f1 := MB.fz HX.out.r 1; have f2 := MB.fz HX.out.r 2; have f3 := MB.fz HX.out.r 3
  go_wp2_with fail
  have ho := HX.out.out
  refine bodyPost_ret (results_cellt rfl _ _ (g + 1 + 1) _ rfl (loadM ho.2.2)) rfl ?_
  exact ⟨_, _, _, _, _, _, _, _, _, _, rfl, ho.2.1, fun _ hm => nomatch hm⟩
set_option maxRecDepth 100000 in
set_option maxHeartbeats 4000000 in
theorem stepTop_5 {B Bd w l vN vS vM m} (h : MW B w l vN vS vM m) (hok : okM Bd m) (hBd : Bd ≤ 1000000) (arg : Int) (ht : 0 ≤ topP m 0) :
    Calls Try.prog 149 #[.agg #[vN, vS, vM, .bool m.done], .agg #[.int .i64 5, .int .i64 arg]] w (StepX B (some (pushN (drop m 1) 2 0 [topP m 0])) w) := by
  obtain ⟨AN, cN, AS, cS, AM, cM, rfl, rfl, rfl, hrm, hcS⟩ := h.rm (by have := hok.nl; omega) (by have := hok.sl; omega) (by have := hok.ml; omega)
  have HX := As.mk (h.box (W := ((w.alloc (.cells #[.slice AN m.nodes.length cN, .slice AS m.stack.length cS, .slice AM m.memo.length cM, .bool m.done] 64)).alloc (.cells #[.int .i64 5, .int .i64 arg] 82)).alloc (.cells #[.slice none 0 0, .slice none 0 0, .slice none 0 0, .bool false] 64)) (fun k => k = w.heap.size ∨ k = w.heap.size + 1 ∨ k = w.heap.size + 1 + 1) (g := w.heap.size) (g2 := w.heap.size + 1 + 1) ((((Ext.rf w).al _).al _).al _) (((((Ext.rf _).al _)).al _).blk (al_new _ _)) (by have := al_new ((w.alloc (.cells #[.slice AN m.nodes.length cN, .slice AS m.stack.length cS, .slice AM m.memo.length cM, .bool m.done] 64)).alloc (.cells #[.int .i64 5, .int .i64 arg] 82)) (.cells #[.slice none 0 0, .slice none 0 0, .slice none 0 0, .bool false] 64); rw [al_size, al_size] at this; exact this) (.inl rfl) (.inr (.inr rfl)) (by omega) (fun k hk => by rw [al_size, al_size, al_size]; omega))
  have HO := As.mk (show (((w.alloc (.cells #[.slice AN m.nodes.length cN, .slice AS m.stack.length cS, .slice AM m.memo.length cM, .bool m.done] 64)).alloc (.cells #[.int .i64 5, .int .i64 arg] 82)).alloc (.cells #[.slice none 0 0, .slice none 0 0, .slice none 0 0, .bool false] 64)).heap[w.heap.size + 1]? = some (.cells #[.int .i64 5, .int .i64 arg] 82 (0, 0)) from by have := ((Ext.rf _).al (.cells #[.slice none 0 0, .slice none 0 0, .slice none 0 0, .bool false] 64)).blk (al_new (w.alloc (.cells #[.slice AN m.nodes.length cN, .slice AS m.stack.length cS, .slice AM m.memo.length cM, .bool m.done] 64)) (.cells #[.int .i64 5, .int .i64 arg] 82)); rw [al_size] at this; exact this)
  have HRM := As.mk (RdI.ext hrm.s ((((Ext.rf w).al (.cells #[.slice AN m.nodes.length cN, .slice AS m.stack.length cS, .slice AM m.memo.length cM, .bool m.done] 64)).al (.cells #[.int .i64 5, .int .i64 arg] 82)).al (.cells #[.slice none 0 0, .slice none 0 0, .slice none 0 0, .bool false] 64)))
  have HRN := As.mk (RdN.ext hrm.n ((((Ext.rf w).al (.cells #[.slice AN m.nodes.length cN, .slice AS m.stack.length cS, .slice AM m.memo.length cM, .bool m.done] 64)).al (.cells #[.int .i64 5, .int .i64 arg] 82)).al (.cells #[.slice none 0 0, .slice none 0 0, .slice none 0 0, .bool false] 64)))
  have HOK := As.mk hok
  have q1 := hok.nl
  have q2 := hok.sl
  have q3 : m.memo.length ≤ 1000000 := by have := hok.ml; omega
  clear h hrm hok
  go_enter Try.func149, Try.ntmps149
  go_upto_region 1 with fail
  obtain ⟨w1, hw1⟩ : ∃ w1, w1 = ((w.alloc (.cells #[.slice AN m.nodes.length cN, .slice AS m.stack.length cS, .slice AM m.memo.length cM, .bool m.done] 64)).alloc (.cells #[.int .i64 5, .int .i64 arg] 82)).alloc (.cells #[.slice none 0 0, .slice none 0 0, .slice none 0 0, .bool false] 64) := ⟨_, rfl⟩
  rw [← hw1] at HX HO HRM HRN ⊢
  clear hw1
  obtain ⟨g, hg⟩ : ∃ g, g = w.heap.size := ⟨_, rfl⟩
  rw [← hg] at HX HO ⊢
  clear hg
  obtain ⟨a, ha0⟩ : ∃ a, a = topP m 0 := ⟨_, rfl⟩
  obtain ⟨b, hb0⟩ : ∃ b, b = topP m 1 := ⟨_, rfl⟩
  obtain ⟨c, hc0⟩ : ∃ c, c = topP m 2 := ⟨_, rfl⟩
  have HA := As.mk ha0
  have HB := As.mk hb0
  have HC := As.mk hc0
  have hpos : 0 ≤ a := by rw [ha0]; exact ht
  have hsn : 1 ≤ m.stack.length := topP_len ht
  clear ha0 hb0 hc0
  have c0 := MB.c0 HX.out.a.mb; have c1 := MB.c1 HX.out.a.mb; have c2 := MB.c2 HX.out.a.mb; have c3 := MB.c3 HX.out.a.mb
  go_upto_region 2 with (go_at_call 173; refine (stop_c _ _ _ _ _ _ _ _ m 0 w1 HRM.out (by omega)).mono ?_; rw [← HA.out]; rintro e w2 ⟨rfl, hx⟩; have HE2 := As.mk hx; clear hx)
  replace c0 := HE2.out.cellOf c0; replace c1 := HE2.out.cellOf c1; replace c2 := HE2.out.cellOf c2; replace c3 := HE2.out.cellOf c3
  go_upto_region 3 with (go_at_call 173; refine (stop_c _ _ _ _ _ _ _ _ m 1 w2 (HRM.out.ext HE2.out) (by omega)).mono ?_; rw [← HB.out]; rintro e w3 ⟨rfl, hx⟩; have HE3 := As.mk (HE2.out.trans hx); have HF3 := As.mk hx; clear hx)
  replace c0 := HF3.out.cellOf c0; replace c1 := HF3.out.cellOf c1; replace c2 := HF3.out.cellOf c2; replace c3 := HF3.out.cellOf c3
  clear HF3
  go_upto_region 4 with (go_at_call 173; refine (stop_c _ _ _ _ _ _ _ _ m 2 w3 (HRM.out.ext HE3.out) (by omega)).mono ?_; rw [← HC.out]; rintro e w4 ⟨rfl, hx⟩; have HE4 := As.mk (HE3.out.trans hx); clear hx)
  clear c0 c1 c2 c3 HE2 HE3
  have hx4 := HX.out.ext HE4.out
  have ho4 := HE4.out.blk HO.out
  have hrn4 := HRN.out.ext HE4.out
  clear HX HO HRM HRN HE4
  have HX := As.mk hx4
  have HO := As.mk ho4
  have HRN := As.mk hrn4
  clear hx4 ho4 hrn4
  have c0 := MB.c0 HX.out.a.mb; have c1 := MB.c1 HX.out.a.mb; have c2 := MB.c2 HX.out.a.mb; have c3 := MB.c3 HX.out.a.mb
  have o0 : w4.cell? ⟨g + 1, 0, none⟩ = some (.int .i64 5) := by simp [World.cell?, HO.out]
  have o1 : w4.cell? ⟨g + 1, 1, none⟩ = some (.int .i64 arg) := by simp [World.cell?, HO.out]
  go_wp2_with (first | (go_at_call 172; refine (sdrop_c HX.out.mw 1 (by omega) (by omega) (by omega) (by omega)).mono ?_; rintro e w5 hr; obtain ⟨l5, B1, n1, e1, B2, n2, e2, B3, n3, e3, rfl, hv, hf⟩ := machS_of hr; have HV5 := As.mk hv; have HF5 := As.mk hf; have hb := hf.blk HX.out.r (fun e => e.2 HX.out.x2); have d0 := MB.c0 hb; have d1 := MB.c1 hb; have d2 := MB.c2 hb; have d3 := MB.c3 hb; have f0 := MB.fz hb 0; have f1 := MB.fz hb 1; have f2 := MB.fz hb 2; have f3 := MB.fz hb 3; clear hr hv hf hb) | (go_at_call 147; refine (spush_new HV5.out (by show m.nodes.length ≤ _; omega) (by rw [drop_len]; omega) (by show m.memo.length ≤ _; omega) 2 0 [a] _ _ (ir_one _ _) (by simp)).mono ?_; rintro e w6 ⟨l6, B1, n1, e1, B2, n2, e2, B3, n3, e3, rfl, hv, hf⟩; have HV6 := As.mk hv; have HF6 := As.mk (HF5.out.trans hf); have hb := HF6.out.blk HX.out.r (fun e => e.2 HX.out.x2); have d0 := MB.c0 hb; have d1 := MB.c1 hb; have d2 := MB.c2 hb; have d3 := MB.c3 hb; have f0 := MB.fz hb 0; have f1 := MB.fz hb 1; have f2 := MB.fz hb 2; have f3 := MB.fz hb 3; clear hv hf hb))
  have ho := HX.out.res HV6.out HF6.out
  refine bodyPost_ret (results_cellt rfl _ _ (g + 1 + 1) _ rfl (loadM ho.2.2)) rfl ?_
  refine ⟨_, _, _, _, _, _, _, _, _, _, rfl, ho.2.1, fun m' hm => ?_⟩
  rw [← HA.out] at hm
  injection hm with hm
  subst hm
  exact ⟨rfl, _, ho.1⟩
set_option maxRecDepth 100000 in
set_option maxHeartbeats 4000000 in
theorem stepTop_17 {B Bd w l vN vS vM m} (h : MW B w l vN vS vM m) (hok : okM Bd m) (hBd : Bd ≤ 1000000) (arg : Int) (ht : 0 ≤ topP m 0) :
    Calls Try.prog 149 #[.agg #[vN, vS, vM, .bool m.done], .agg #[.int .i64 17, .int .i64 arg]] w (StepX B (some (drop m 1)) w) := by
  obtain ⟨AN, cN, AS, cS, AM, cM, rfl, rfl, rfl, hrm, hcS⟩ := h.rm (by have := hok.nl; omega) (by have := hok.sl; omega) (by have := hok.ml; omega)
  have HX := As.mk (h.box (W := ((w.alloc (.cells #[.slice AN m.nodes.length cN, .slice AS m.stack.length cS, .slice AM m.memo.length cM, .bool m.done] 64)).alloc (.cells #[.int .i64 17, .int .i64 arg] 82)).alloc (.cells #[.slice none 0 0, .slice none 0 0, .slice none 0 0, .bool false] 64)) (fun k => k = w.heap.size ∨ k = w.heap.size + 1 ∨ k = w.heap.size + 1 + 1) (g := w.heap.size) (g2 := w.heap.size + 1 + 1) ((((Ext.rf w).al _).al _).al _) (((((Ext.rf _).al _)).al _).blk (al_new _ _)) (by have := al_new ((w.alloc (.cells #[.slice AN m.nodes.length cN, .slice AS m.stack.length cS, .slice AM m.memo.length cM, .bool m.done] 64)).alloc (.cells #[.int .i64 17, .int .i64 arg] 82)) (.cells #[.slice none 0 0, .slice none 0 0, .slice none 0 0, .bool false] 64); rw [al_size, al_size] at this; exact this) (.inl rfl) (.inr (.inr rfl)) (by omega) (fun k hk => by rw [al_size, al_size, al_size]; omega))
  have HO := As.mk (show (((w.alloc (.cells #[.slice AN m.nodes.length cN, .slice AS m.stack.length cS, .slice AM m.memo.length cM, .bool m.done] 64)).alloc (.cells #[.int .i64 17, .int .i64 arg] 82)).alloc (.cells #[.slice none 0 0, .slice none 0 0, .slice none 0 0, .bool false] 64)).heap[w.heap.size + 1]? = some (.cells #[.int .i64 17, .int .i64 arg] 82 (0, 0)) from by have := ((Ext.rf _).al (.cells #[.slice none 0 0, .slice none 0 0, .slice none 0 0, .bool false] 64)).blk (al_new (w.alloc (.cells #[.slice AN m.nodes.length cN, .slice AS m.stack.length cS, .slice AM m.memo.length cM, .bool m.done] 64)) (.cells #[.int .i64 17, .int .i64 arg] 82)); rw [al_size] at this; exact this)
  have HRM := As.mk (RdI.ext hrm.s ((((Ext.rf w).al (.cells #[.slice AN m.nodes.length cN, .slice AS m.stack.length cS, .slice AM m.memo.length cM, .bool m.done] 64)).al (.cells #[.int .i64 17, .int .i64 arg] 82)).al (.cells #[.slice none 0 0, .slice none 0 0, .slice none 0 0, .bool false] 64)))
  have HRN := As.mk (RdN.ext hrm.n ((((Ext.rf w).al (.cells #[.slice AN m.nodes.length cN, .slice AS m.stack.length cS, .slice AM m.memo.length cM, .bool m.done] 64)).al (.cells #[.int .i64 17, .int .i64 arg] 82)).al (.cells #[.slice none 0 0, .slice none 0 0, .slice none 0 0, .bool false] 64)))
  have HOK := As.mk hok
  have q1 := hok.nl
  have q2 := hok.sl
  have q3 : m.memo.length ≤ 1000000 := by have := hok.ml; omega
  clear h hrm hok
  go_enter Try.func149, Try.ntmps149
  go_upto_region 1 with fail
  obtain ⟨w1, hw1⟩ : ∃ w1, w1 = ((w.alloc (.cells #[.slice AN m.nodes.length cN, .slice AS m.stack.length cS, .slice AM m.memo.length cM, .bool m.done] 64)).alloc (.cells #[.int .i64 17, .int .i64 arg] 82)).alloc (.cells #[.slice none 0 0, .slice none 0 0, .slice none 0 0, .bool false] 64) := ⟨_, rfl⟩
  rw [← hw1] at HX HO HRM HRN ⊢
  clear hw1
  obtain ⟨g, hg⟩ : ∃ g, g = w.heap.size := ⟨_, rfl⟩
  rw [← hg] at HX HO ⊢
  clear hg
  obtain ⟨a, ha0⟩ : ∃ a, a = topP m 0 := ⟨_, rfl⟩
  obtain ⟨b, hb0⟩ : ∃ b, b = topP m 1 := ⟨_, rfl⟩
  obtain ⟨c, hc0⟩ : ∃ c, c = topP m 2 := ⟨_, rfl⟩
  have HA := As.mk ha0
  have HB := As.mk hb0
  have HC := As.mk hc0
  have hpos : 0 ≤ a := by rw [ha0]; exact ht
  have hsn : 1 ≤ m.stack.length := topP_len ht
  clear ha0 hb0 hc0
  have c0 := MB.c0 HX.out.a.mb; have c1 := MB.c1 HX.out.a.mb; have c2 := MB.c2 HX.out.a.mb; have c3 := MB.c3 HX.out.a.mb
  go_upto_region 2 with (go_at_call 173; refine (stop_c _ _ _ _ _ _ _ _ m 0 w1 HRM.out (by omega)).mono ?_; rw [← HA.out]; rintro e w2 ⟨rfl, hx⟩; have HE2 := As.mk hx; clear hx)
  replace c0 := HE2.out.cellOf c0; replace c1 := HE2.out.cellOf c1; replace c2 := HE2.out.cellOf c2; replace c3 := HE2.out.cellOf c3
  go_upto_region 3 with (go_at_call 173; refine (stop_c _ _ _ _ _ _ _ _ m 1 w2 (HRM.out.ext HE2.out) (by omega)).mono ?_; rw [← HB.out]; rintro e w3 ⟨rfl, hx⟩; have HE3 := As.mk (HE2.out.trans hx); have HF3 := As.mk hx; clear hx)
  replace c0 := HF3.out.cellOf c0; replace c1 := HF3.out.cellOf c1; replace c2 := HF3.out.cellOf c2; replace c3 := HF3.out.cellOf c3
  clear HF3
  go_upto_region 4 with (go_at_call 173; refine (stop_c _ _ _ _ _ _ _ _ m 2 w3 (HRM.out.ext HE3.out) (by omega)).mono ?_; rw [← HC.out]; rintro e w4 ⟨rfl, hx⟩; have HE4 := As.mk (HE3.out.trans hx); clear hx)
  clear c0 c1 c2 c3 HE2 HE3
  have hx4 := HX.out.ext HE4.out
  have ho4 := HE4.out.blk HO.out
  have hrn4 := HRN.out.ext HE4.out
  clear HX HO HRM HRN HE4
  have HX := As.mk hx4
  have HO := As.mk ho4
  have HRN := As.mk hrn4
  clear hx4 ho4 hrn4
  have c0 := MB.c0 HX.out.a.mb; have c1 := MB.c1 HX.out.a.mb; have c2 := MB.c2 HX.out.a.mb; have c3 := MB.c3 HX.out.a.mb
  have o0 : w4.cell? ⟨g + 1, 0, none⟩ = some (.int .i64 17) := by simp [World.cell?, HO.out]
  have o1 : w4.cell? ⟨g + 1, 1, none⟩ = some (.int .i64 arg) := by simp [World.cell?, HO.out]
  go_wp2_with (go_at_call 172; refine (sdrop_c HX.out.mw 1 (by omega) (by omega) (by omega) (by omega)).mono ?_; rintro e w5 hr; obtain ⟨l5, B1, n1, e1, B2, n2, e2, B3, n3, e3, rfl, hv, hf⟩ := machS_of hr; have HV5 := As.mk hv; have HF5 := As.mk hf; have hb := hf.blk HX.out.r (fun e => e.2 HX.out.x2); have d0 := MB.c0 hb; have d1 := MB.c1 hb; have d2 := MB.c2 hb; have d3 := MB.c3 hb; have f0 := MB.fz hb 0; have f1 := MB.fz hb 1; have f2 := MB.fz hb 2; have f3 := MB.fz hb 3; clear hr hv hf hb)
  have ho := HX.out.res HV5.out HF5.out
  refine bodyPost_ret (results_cellt rfl _ _ (g + 1 + 1) _ rfl (loadM ho.2.2)) rfl ?_
  refine ⟨_, _, _, _, _, _, _, _, _, _, rfl, ho.2.1, fun m' hm => ?_⟩
  injection hm with hm
  subst hm
  exact ⟨rfl, _, ho.1⟩
set_option maxRecDepth 100000 in
set_option maxHeartbeats 4000000 in
theorem stepTop_6 {B Bd w l vN vS vM m} (h : MW B w l vN vS vM m) (hok : okM Bd m) (hBd : Bd ≤ 1000000) (arg : Int) (ht : 0 ≤ topP m 0) (ht1 : 0 ≤ topP m 1) :
    Calls Try.prog 149 #[.agg #[vN, vS, vM, .bool m.done], .agg #[.int .i64 6, .int .i64 arg]] w (StepX B (some (pushN (drop m 2) 2 0 [topP m 1, topP m 0])) w) := by
  obtain ⟨AN, cN, AS, cS, AM, cM, rfl, rfl, rfl, hrm, hcS⟩ := h.rm (by have := hok.nl; omega) (by have := hok.sl; omega) (by have := hok.ml; omega)
  have HX := As.mk (h.box (W := ((w.alloc (.cells #[.slice AN m.nodes.length cN, .slice AS m.stack.length cS, .slice AM m.memo.length cM, .bool m.done] 64)).alloc (.cells #[.int .i64 6, .int .i64 arg] 82)).alloc (.cells #[.slice none 0 0, .slice none 0 0, .slice none 0 0, .bool false] 64)) (fun k => k = w.heap.size ∨ k = w.heap.size + 1 ∨ k = w.heap.size + 1 + 1) (g := w.heap.size) (g2 := w.heap.size + 1 + 1) ((((Ext.rf w).al _).al _).al _) (((((Ext.rf _).al _)).al _).blk (al_new _ _)) (by have := al_new ((w.alloc (.cells #[.slice AN m.nodes.length cN, .slice AS m.stack.length cS, .slice AM m.memo.length cM, .bool m.done] 64)).alloc (.cells #[.int .i64 6, .int .i64 arg] 82)) (.cells #[.slice none 0 0, .slice none 0 0, .slice none 0 0, .bool false] 64); rw [al_size, al_size] at this; exact this) (.inl rfl) (.inr (.inr rfl)) (by omega) (fun k hk => by rw [al_size, al_size, al_size]; omega))
  have HO := As.mk (show (((w.alloc (.cells #[.slice AN m.nodes.length cN, .slice AS m.stack.length cS, .slice AM m.memo.length cM, .bool m.done] 64)).alloc (.cells #[.int .i64 6, .int .i64 arg] 82)).alloc (.cells #[.slice none 0 0, .slice none 0 0, .slice none 0 0, .bool false] 64)).heap[w.heap.size + 1]? = some (.cells #[.int .i64 6, .int .i64 arg] 82 (0, 0)) from by have := ((Ext.rf _).al (.cells #[.slice none 0 0, .slice none 0 0, .slice none 0 0, .bool false] 64)).blk (al_new (w.alloc (.cells #[.slice AN m.nodes.length cN, .slice AS m.stack.length cS, .slice AM m.memo.length cM, .bool m.done] 64)) (.cells #[.int .i64 6, .int .i64 arg] 82)); rw [al_size] at this; exact this)
  have HRM := As.mk (RdI.ext hrm.s ((((Ext.rf w).al (.cells #[.slice AN m.nodes.length cN, .slice AS m.stack.length cS, .slice AM m.memo.length cM, .bool m.done] 64)).al (.cells #[.int .i64 6, .int .i64 arg] 82)).al (.cells #[.slice none 0 0, .slice none 0 0, .slice none 0 0, .bool false] 64)))
  have HRN := As.mk (RdN.ext hrm.n ((((Ext.rf w).al (.cells #[.slice AN m.nodes.length cN, .slice AS m.stack.length cS, .slice AM m.memo.length cM, .bool m.done] 64)).al (.cells #[.int .i64 6, .int .i64 arg] 82)).al (.cells #[.slice none 0 0, .slice none 0 0, .slice none 0 0, .bool false] 64)))
  have HOK := As.mk hok
  have q1 := hok.nl
  have q2 := hok.sl
  have q3 : m.memo.length ≤ 1000000 := by have := hok.ml; omega
  clear h hrm hok
  go_enter Try.func149, Try.ntmps149
  go_upto_region 1 with fail
  obtain ⟨w1, hw1⟩ : ∃ w1, w1 = ((w.alloc (.cells #[.slice AN m.nodes.length cN, .slice AS m.stack.length cS, .slice AM m.memo.length cM, .bool m.done] 64)).alloc (.cells #[.int .i64 6, .int .i64 arg] 82)).alloc (.cells #[.slice none 0 0, .slice none 0 0, .slice none 0 0, .bool false] 64) := ⟨_, rfl⟩
  rw [← hw1] at HX HO HRM HRN ⊢
  clear hw1
  obtain ⟨g, hg⟩ : ∃ g, g = w.heap.size := ⟨_, rfl⟩
  rw [← hg] at HX HO ⊢
  clear hg
  obtain ⟨a, ha0⟩ : ∃ a, a = topP m 0 := ⟨_, rfl⟩
  obtain ⟨b, hb0⟩ : ∃ b, b = topP m 1 := ⟨_, rfl⟩
  obtain ⟨c, hc0⟩ : ∃ c, c = topP m 2 := ⟨_, rfl⟩
  have HA := As.mk ha0
  have HB := As.mk hb0
  have HC := As.mk hc0
  have hpos : 0 ≤ a := by rw [ha0]; exact ht
  have hsn : 1 ≤ m.stack.length := topP_len ht
  have hpos2 : 0 ≤ b := by rw [hb0]; exact ht1
  have hsn2 : 2 ≤ m.stack.length := topP_len ht1
  clear ha0 hb0 hc0
  have c0 := MB.c0 HX.out.a.mb; have c1 := MB.c1 HX.out.a.mb; have c2 := MB.c2 HX.out.a.mb; have c3 := MB.c3 HX.out.a.mb
  go_upto_region 2 with (go_at_call 173; refine (stop_c _ _ _ _ _ _ _ _ m 0 w1 HRM.out (by omega)).mono ?_; rw [← HA.out]; rintro e w2 ⟨rfl, hx⟩; have HE2 := As.mk hx; clear hx)
  replace c0 := HE2.out.cellOf c0; replace c1 := HE2.out.cellOf c1; replace c2 := HE2.out.cellOf c2; replace c3 := HE2.out.cellOf c3
  go_upto_region 3 with (go_at_call 173; refine (stop_c _ _ _ _ _ _ _ _ m 1 w2 (HRM.out.ext HE2.out) (by omega)).mono ?_; rw [← HB.out]; rintro e w3 ⟨rfl, hx⟩; have HE3 := As.mk (HE2.out.trans hx); have HF3 := As.mk hx; clear hx)
  replace c0 := HF3.out.cellOf c0; replace c1 := HF3.out.cellOf c1; replace c2 := HF3.out.cellOf c2; replace c3 := HF3.out.cellOf c3
  clear HF3
  go_upto_region 4 with (go_at_call 173; refine (stop_c _ _ _ _ _ _ _ _ m 2 w3 (HRM.out.ext HE3.out) (by omega)).mono ?_; rw [← HC.out]; rintro e w4 ⟨rfl, hx⟩; have HE4 := As.mk (HE3.out.trans hx); clear hx)
  clear c0 c1 c2 c3 HE2 HE3
  have hx4 := HX.out.ext HE4.out
  have ho4 := HE4.out.blk HO.out
  have hrn4 := HRN.out.ext HE4.out
  clear HX HO HRM HRN HE4
  have HX := As.mk hx4
  have HO := As.mk ho4
  have HRN := As.mk hrn4
  clear hx4 ho4 hrn4
  have c0 := MB.c0 HX.out.a.mb; have c1 := MB.c1 HX.out.a.mb; have c2 := MB.c2 HX.out.a.mb; have c3 := MB.c3 HX.out.a.mb
  have o0 : w4.cell? ⟨g + 1, 0, none⟩ = some (.int .i64 6) := by simp [World.cell?, HO.out]
  have o1 : w4.cell? ⟨g + 1, 1, none⟩ = some (.int .i64 arg) := by simp [World.cell?, HO.out]
  go_wp2_with (first | (go_at_call 172; refine (sdrop_c HX.out.mw 2 (by omega) (by omega) (by omega) (by omega)).mono ?_; rintro e w5 hr; obtain ⟨l5, B1, n1, e1, B2, n2, e2, B3, n3, e3, rfl, hv, hf⟩ := machS_of hr; have HV5 := As.mk hv; have HF5 := As.mk hf; have hb := hf.blk HX.out.r (fun e => e.2 HX.out.x2); have d0 := MB.c0 hb; have d1 := MB.c1 hb; have d2 := MB.c2 hb; have d3 := MB.c3 hb; have f0 := MB.fz hb 0; have f1 := MB.fz hb 1; have f2 := MB.fz hb 2; have f3 := MB.fz hb 3; clear hr hv hf hb) | (go_at_call 147; refine (spush_new HV5.out (by show m.nodes.length ≤ _; omega) (by rw [drop_len]; omega) (by show m.memo.length ≤ _; omega) 2 0 [b, a] _ _ (ir_two _ _ _) (by simp)).mono ?_; rintro e w6 ⟨l6, B1, n1, e1, B2, n2, e2, B3, n3, e3, rfl, hv, hf⟩; have HV6 := As.mk hv; have HF6 := As.mk (HF5.out.trans hf); have hb := HF6.out.blk HX.out.r (fun e => e.2 HX.out.x2); have d0 := MB.c0 hb; have d1 := MB.c1 hb; have d2 := MB.c2 hb; have d3 := MB.c3 hb; have f0 := MB.fz hb 0; have f1 := MB.fz hb 1; have f2 := MB.fz hb 2; have f3 := MB.fz hb 3; clear hv hf hb))
  have ho := HX.out.res HV6.out HF6.out
  refine bodyPost_ret (results_cellt rfl _ _ (g + 1 + 1) _ rfl (loadM ho.2.2)) rfl ?_
  refine ⟨_, _, _, _, _, _, _, _, _, _, rfl, ho.2.1, fun m' hm => ?_⟩
  rw [← HA.out] at hm
  rw [← HB.out] at hm
  injection hm with hm
  subst hm
  exact ⟨rfl, _, ho.1⟩
set_option maxRecDepth 100000 in
set_option maxHeartbeats 4000000 in
theorem stepTop_6n {B Bd w l vN vS vM m} (h : MW B w l vN vS vM m) (hok : okM Bd m) (hBd : Bd ≤ 1000000) (arg : Int) (ht : 0 ≤ topP m 0) (ht1 : topP m 1 < 0) :
    Calls Try.prog 149 #[.agg #[vN, vS, vM, .bool m.done], .agg #[.int .i64 6, .int .i64 arg]] w (StepX B (none) w) := by
  obtain ⟨AN, cN, AS, cS, AM, cM, rfl, rfl, rfl, hrm, hcS⟩ := h.rm (by have := hok.nl; omega) (by have := hok.sl; omega) (by have := hok.ml; omega)
  have HX := As.mk (h.box (W := ((w.alloc (.cells #[.slice AN m.nodes.length cN, .slice AS m.stack.length cS, .slice AM m.memo.length cM, .bool m.done] 64)).alloc (.cells #[.int .i64 6, .int .i64 arg] 82)).alloc (.cells #[.slice none 0 0, .slice none 0 0, .slice none 0 0, .bool false] 64)) (fun k => k = w.heap.size ∨ k = w.heap.size + 1 ∨ k = w.heap.size + 1 + 1) (g := w.heap.size) (g2 := w.heap.size + 1 + 1) ((((Ext.rf w).al _).al _).al _) (((((Ext.rf _).al _)).al _).blk (al_new _ _)) (by have := al_new ((w.alloc (.cells #[.slice AN m.nodes.length cN, .slice AS m.stack.length cS, .slice AM m.memo.length cM, .bool m.done] 64)).alloc (.cells #[.int .i64 6, .int .i64 arg] 82)) (.cells #[.slice none 0 0, .slice none 0 0, .slice none 0 0, .bool false] 64); rw [al_size, al_size] at this; exact this) (.inl rfl) (.inr (.inr rfl)) (by omega) (fun k hk => by rw [al_size, al_size, al_size]; omega))
  have HO := As.mk (show (((w.alloc (.cells #[.slice AN m.nodes.length cN, .slice AS m.stack.length cS, .slice AM m.memo.length cM, .bool m.done] 64)).alloc (.cells #[.int .i64 6, .int .i64 arg] 82)).alloc (.cells #[.slice none 0 0, .slice none 0 0, .slice none 0 0, .bool false] 64)).heap[w.heap.size + 1]? = some (.cells #[.int .i64 6, .int .i64 arg] 82 (0, 0)) from by have := ((Ext.rf _).al (.cells #[.slice none 0 0, .slice none 0 0, .slice none 0 0, .bool false] 64)).blk (al_new (w.alloc (.cells #[.slice AN m.nodes.length cN, .slice AS m.stack.length cS, .slice AM m.memo.length cM, .bool m.done] 64)) (.cells #[.int .i64 6, .int .i64 arg] 82)); rw [al_size] at this; exact this)
  have HRM := As.mk (RdI.ext hrm.s ((((Ext.rf w).al (.cells #[.slice AN m.nodes.length cN, .slice AS m.stack.length cS, .slice AM m.memo.length cM, .bool m.done] 64)).al (.cells #[.int .i64 6, .int .i64 arg] 82)).al (.cells #[.slice none 0 0, .slice none 0 0, .slice none 0 0, .bool false] 64)))
  have HRN := As.mk (RdN.ext hrm.n ((((Ext.rf w).al (.cells #[.slice AN m.nodes.length cN, .slice AS m.stack.length cS, .slice AM m.memo.length cM, .bool m.done] 64)).al (.cells #[.int .i64 6, .int .i64 arg] 82)).al (.cells #[.slice none 0 0, .slice none 0 0, .slice none 0 0, .bool false] 64)))
  have HOK := As.mk hok
  have q1 := hok.nl
  have q2 := hok.sl
  have q3 : m.memo.length ≤ 1000000 := by have := hok.ml; omega
  clear h hrm hok
  go_enter Try.func149, Try.ntmps149
  go_upto_region 1 with fail
  obtain ⟨w1, hw1⟩ : ∃ w1, w1 = ((w.alloc (.cells #[.slice AN m.nodes.length cN, .slice AS m.stack.length cS, .slice AM m.memo.length cM, .bool m.done] 64)).alloc (.cells #[.int .i64 6, .int .i64 arg] 82)).alloc (.cells #[.slice none 0 0, .slice none 0 0, .slice none 0 0, .bool false] 64) := ⟨_, rfl⟩
  rw [← hw1] at HX HO HRM HRN ⊢
  clear hw1
  obtain ⟨g, hg⟩ : ∃ g, g = w.heap.size := ⟨_, rfl⟩
  rw [← hg] at HX HO ⊢
  clear hg
  obtain ⟨a, ha0⟩ : ∃ a, a = topP m 0 := ⟨_, rfl⟩
  obtain ⟨b, hb0⟩ : ∃ b, b = topP m 1 := ⟨_, rfl⟩
  obtain ⟨c, hc0⟩ : ∃ c, c = topP m 2 := ⟨_, rfl⟩
  have HA := As.mk ha0
  have HB := As.mk hb0
  have HC := As.mk hc0
  have hpos : 0 ≤ a := by rw [ha0]; exact ht
  have hsn : 1 ≤ m.stack.length := topP_len ht
  have hneg : b < 0 := by rw [hb0]; exact ht1
  clear ha0 hb0 hc0
  have c0 := MB.c0 HX.out.a.mb; have c1 := MB.c1 HX.out.a.mb; have c2 := MB.c2 HX.out.a.mb; have c3 := MB.c3 HX.out.a.mb
  go_upto_region 2 with (go_at_call 173; refine (stop_c _ _ _ _ _ _ _ _ m 0 w1 HRM.out (by omega)).mono ?_; rw [← HA.out]; rintro e w2 ⟨rfl, hx⟩; have HE2 := As.mk hx; clear hx)
  replace c0 := HE2.out.cellOf c0; replace c1 := HE2.out.cellOf c1; replace c2 := HE2.out.cellOf c2; replace c3 := HE2.out.cellOf c3
  go_upto_region 3 with (go_at_call 173; refine (stop_c _ _ _ _ _ _ _ _ m 1 w2 (HRM.out.ext HE2.out) (by omega)).mono ?_; rw [← HB.out]; rintro e w3 ⟨rfl, hx⟩; have HE3 := As.mk (HE2.out.trans hx); have HF3 := As.mk hx; clear hx)
  replace c0 := HF3.out.cellOf c0; replace c1 := HF3.out.cellOf c1; replace c2 := HF3.out.cellOf c2; replace c3 := HF3.out.cellOf c3
  clear HF3
  go_upto_region 4 with (go_at_call 173; refine (stop_c _ _ _ _ _ _ _ _ m 2 w3 (HRM.out.ext HE3.out) (by omega)).mono ?_; rw [← HC.out]; rintro e w4 ⟨rfl, hx⟩; have HE4 := As.mk (HE3.out.trans hx); clear hx)
  clear c0 c1 c2 c3 HE2 HE3
  have hx4 := HX.out.ext HE4.out
  have ho4 := HE4.out.blk HO.out
  have hrn4 := HRN.out.ext HE4.out
  clear HX HO HRM HRN HE4
  have HX := As.mk hx4
  have HO := As.mk ho4
  have HRN := As.mk hrn4
  clear hx4 ho4 hrn4
  have c0 := MB.c0 HX.out.a.mb; have c1 := MB.c1 HX.out.a.mb; have c2 := MB.c2 HX.out.a.mb; have c3 := MB.c3 HX.out.a.mb
  have o0 : w4.cell? ⟨g + 1, 0, none⟩ = some (.int .i64 6) := by simp [World.cell?, HO.out]
  have o1 : w4.cell? ⟨g + 1, 1, none⟩ = some (.int .i64 arg) := by simp [World.cell?, HO.out]
  have d0 := MB.c0 HX.out.r; have d1 := MB.c1 HX.out.r; have d2 := MB.c2 HX.out.r; have d3 := MB.c3 HX.out.r
  have f0 := MB.fz HX.out.r 0; have f1 := MB.fz HX.out.r 1; have f2 := MB.fz HX.out.r 2; have f3 := MB.fz HX.out.r 3
  go_wp2_with fail
  have ho := HX.out.out
  refine bodyPost_ret (results_cellt rfl _ _ (g + 1 + 1) _ rfl (loadM ho.2.2)) rfl ?_
  exact ⟨_, _, _, _, _, _, _, _, _, _, rfl, ho.2.1, fun _ hm => nomatch hm⟩
set_option maxRecDepth 100000 in
set_option maxHeartbeats 4000000 in
theorem stepTop_15 {B Bd w l vN vS vM m} (h : MW B w l vN vS vM m) (hok : okM Bd m) (hBd : Bd ≤ 1000000) (j : Nat) (hj : j < 20) (ht : 0 ≤ topP m 0) :
    Calls Try.prog 149 #[.agg #[vN, vS, vM, .bool m.done], .agg #[.int .i64 15, .int .i64 j]] w (StepX B (some { m with memo := m.memo.set j (topP m 0) }) w) := by
  obtain ⟨AN, cN, AS, cS, AM, cM, rfl, rfl, rfl, hrm, hcS⟩ := h.rm (by have := hok.nl; omega) (by have := hok.sl; omega) (by have := hok.ml; omega)
  have HX := As.mk (h.box (W := ((w.alloc (.cells #[.slice AN m.nodes.length cN, .slice AS m.stack.length cS, .slice AM m.memo.length cM, .bool m.done] 64)).alloc (.cells #[.int .i64 15, .int .i64 j] 82)).alloc (.cells #[.slice none 0 0, .slice none 0 0, .slice none 0 0, .bool false] 64)) (fun k => k = w.heap.size ∨ k = w.heap.size + 1 ∨ k = w.heap.size + 1 + 1) (g := w.heap.size) (g2 := w.heap.size + 1 + 1) ((((Ext.rf w).al _).al _).al _) (((((Ext.rf _).al _)).al _).blk (al_new _ _)) (by have := al_new ((w.alloc (.cells #[.slice AN m.nodes.length cN, .slice AS m.stack.length cS, .slice AM m.memo.length cM, .bool m.done] 64)).alloc (.cells #[.int .i64 15, .int .i64 j] 82)) (.cells #[.slice none 0 0, .slice none 0 0, .slice none 0 0, .bool false] 64); rw [al_size, al_size] at this; exact this) (.inl rfl) (.inr (.inr rfl)) (by omega) (fun k hk => by rw [al_size, al_size, al_size]; omega))
  have HO := As.mk (show (((w.alloc (.cells #[.slice AN m.nodes.length cN, .slice AS m.stack.length cS, .slice AM m.memo.length cM, .bool m.done] 64)).alloc (.cells #[.int .i64 15, .int .i64 j] 82)).alloc (.cells #[.slice none 0 0, .slice none 0 0, .slice none 0 0, .bool false] 64)).heap[w.heap.size + 1]? = some (.cells #[.int .i64 15, .int .i64 j] 82 (0, 0)) from by have := ((Ext.rf _).al (.cells #[.slice none 0 0, .slice none 0 0, .slice none 0 0, .bool false] 64)).blk (al_new (w.alloc (.cells #[.slice AN m.nodes.length cN, .slice AS m.stack.length cS, .slice AM m.memo.length cM, .bool m.done] 64)) (.cells #[.int .i64 15, .int .i64 j] 82)); rw [al_size] at this; exact this)
  have HRM := As.mk (RdI.ext hrm.s ((((Ext.rf w).al (.cells #[.slice AN m.nodes.length cN, .slice AS m.stack.length cS, .slice AM m.memo.length cM, .bool m.done] 64)).al (.cells #[.int .i64 15, .int .i64 j] 82)).al (.cells #[.slice none 0 0, .slice none 0 0, .slice none 0 0, .bool false] 64)))
  have HRN := As.mk (RdN.ext hrm.n ((((Ext.rf w).al (.cells #[.slice AN m.nodes.length cN, .slice AS m.stack.length cS, .slice AM m.memo.length cM, .bool m.done] 64)).al (.cells #[.int .i64 15, .int .i64 j] 82)).al (.cells #[.slice none 0 0, .slice none 0 0, .slice none 0 0, .bool false] 64)))
  have HOK := As.mk hok
  have q1 := hok.nl
  have q2 := hok.sl
  have q3 : m.memo.length ≤ 1000000 := by have := hok.ml; omega
  clear h hrm hok
  go_enter Try.func149, Try.ntmps149
  go_upto_region 1 with fail
  obtain ⟨w1, hw1⟩ : ∃ w1, w1 = ((w.alloc (.cells #[.slice AN m.nodes.length cN, .slice AS m.stack.length cS, .slice AM m.memo.length cM, .bool m.done] 64)).alloc (.cells #[.int .i64 15, .int .i64 j] 82)).alloc (.cells #[.slice none 0 0, .slice none 0 0, .slice none 0 0, .bool false] 64) := ⟨_, rfl⟩
  rw [← hw1] at HX HO HRM HRN ⊢
  clear hw1
  obtain ⟨g, hg⟩ : ∃ g, g = w.heap.size := ⟨_, rfl⟩
  rw [← hg] at HX HO ⊢
  clear hg
  obtain ⟨a, ha0⟩ : ∃ a, a = topP m 0 := ⟨_, rfl⟩
  obtain ⟨b, hb0⟩ : ∃ b, b = topP m 1 := ⟨_, rfl⟩
  obtain ⟨c, hc0⟩ : ∃ c, c = topP m 2 := ⟨_, rfl⟩
  have HA := As.mk ha0
  have HB := As.mk hb0
  have HC := As.mk hc0
  have hpos : 0 ≤ a := by rw [ha0]; exact ht
  have hsn : 1 ≤ m.stack.length := topP_len ht
  clear ha0 hb0 hc0
  have c0 := MB.c0 HX.out.a.mb; have c1 := MB.c1 HX.out.a.mb; have c2 := MB.c2 HX.out.a.mb; have c3 := MB.c3 HX.out.a.mb
  go_upto_region 2 with (go_at_call 173; refine (stop_c _ _ _ _ _ _ _ _ m 0 w1 HRM.out (by omega)).mono ?_; rw [← HA.out]; rintro e w2 ⟨rfl, hx⟩; have HE2 := As.mk hx; clear hx)
  replace c0 := HE2.out.cellOf c0; replace c1 := HE2.out.cellOf c1; replace c2 := HE2.out.cellOf c2; replace c3 := HE2.out.cellOf c3
  go_upto_region 3 with (go_at_call 173; refine (stop_c _ _ _ _ _ _ _ _ m 1 w2 (HRM.out.ext HE2.out) (by omega)).mono ?_; rw [← HB.out]; rintro e w3 ⟨rfl, hx⟩; have HE3 := As.mk (HE2.out.trans hx); have HF3 := As.mk hx; clear hx)
  replace c0 := HF3.out.cellOf c0; replace c1 := HF3.out.cellOf c1; replace c2 := HF3.out.cellOf c2; replace c3 := HF3.out.cellOf c3
  clear HF3
  go_upto_region 4 with (go_at_call 173; refine (stop_c _ _ _ _ _ _ _ _ m 2 w3 (HRM.out.ext HE3.out) (by omega)).mono ?_; rw [← HC.out]; rintro e w4 ⟨rfl, hx⟩; have HE4 := As.mk (HE3.out.trans hx); clear hx)
  clear c0 c1 c2 c3 HE2 HE3
  have hx4 := HX.out.ext HE4.out
  have ho4 := HE4.out.blk HO.out
  have hrn4 := HRN.out.ext HE4.out
  clear HX HO HRM HRN HE4
  have HX := As.mk hx4
  have HO := As.mk ho4
  have HRN := As.mk hrn4
  clear hx4 ho4 hrn4
  have c0 := MB.c0 HX.out.a.mb; have c1 := MB.c1 HX.out.a.mb; have c2 := MB.c2 HX.out.a.mb; have c3 := MB.c3 HX.out.a.mb
  have o0 : w4.cell? ⟨g + 1, 0, none⟩ = some (.int .i64 15) := by simp [World.cell?, HO.out]
  have o1 : w4.cell? ⟨g + 1, 1, none⟩ = some (.int .i64 j) := by simp [World.cell?, HO.out]
  obtain ⟨gM, cM', hv, hfz, hme, -⟩ := HX.out.a.mem HOK.out.ml
  injection hv with hv1 hv2 hv3
  subst hv1 hv3
  have q4 : (j : Int) < m.memo.length := by omega
  have fM := hfz j
  obtain ⟨z, zM⟩ : ∃ z, w4.cell? ⟨gM, j, none⟩ = some (.int .i64 z) := ⟨_, hme j (by omega)⟩
  clear hv2 hfz hme
  go_upto_region 29 with fail
  have hx5 := HX.out.to (HX.out.a.put j a) (Fr.set _ _ (HX.out.a.lo gM (.inr (.inr (.inr (.inl rfl))))))
  clear fM zM c0 c1 c2 c3 o0 o1
  have HX5 := As.mk hx5
  clear hx5
  generalize (w4.setCell ⟨gM, j, none⟩ (.int .i64 a)) = w5 at HX5 ⊢
  have d0 := MB.c0 HX5.out.r; have d1 := MB.c1 HX5.out.r; have d2 := MB.c2 HX5.out.r; have d3 := MB.c3 HX5.out.r
  have f0 := MB.fz HX5.out.r 0; have f1 := MB.fz HX5.out.r 1; have f2 := MB.fz HX5.out.r 2; have f3 := MB.fz HX5.out.r 3
  have c0 := MB.c0 HX5.out.a.mb; have c1 := MB.c1 HX5.out.a.mb; have c2 := MB.c2 HX5.out.a.mb; have c3 := MB.c3 HX5.out.a.mb
  go_wp2_with fail
  have ho := HX5.out.out
  refine bodyPost_ret (results_cellt rfl _ _ (g + 1 + 1) _ rfl (loadM ho.2.2)) rfl ?_
  refine ⟨_, _, _, _, _, _, _, _, _, _, rfl, ho.2.1, fun m' hm => ?_⟩
  rw [← HA.out] at hm
  injection hm with hm
  subst hm
  exact ⟨rfl, _, ho.1⟩
set_option maxRecDepth 100000 in
set_option maxHeartbeats 4000000 in
theorem stepTop_19 {B Bd w l vN vS vM m} (h : MW B w l vN vS vM m) (hok : okM Bd m) (hBd : Bd ≤ 1000000) (arg : Int) (ht : 0 ≤ topP m 0) :
    Calls Try.prog 149 #[.agg #[vN, vS, vM, .bool m.done], .agg #[.int .i64 19, .int .i64 arg]] w (StepX B (doneP m) w) := by
  obtain ⟨AN, cN, AS, cS, AM, cM, rfl, rfl, rfl, hrm, hcS⟩ := h.rm (by have := hok.nl; omega) (by have := hok.sl; omega) (by have := hok.ml; omega)
  have HX := As.mk (h.box (W := ((w.alloc (.cells #[.slice AN m.nodes.length cN, .slice AS m.stack.length cS, .slice AM m.memo.length cM, .bool m.done] 64)).alloc (.cells #[.int .i64 19, .int .i64 arg] 82)).alloc (.cells #[.slice none 0 0, .slice none 0 0, .slice none 0 0, .bool false] 64)) (fun k => k = w.heap.size ∨ k = w.heap.size + 1 ∨ k = w.heap.size + 1 + 1) (g := w.heap.size) (g2 := w.heap.size + 1 + 1) ((((Ext.rf w).al _).al _).al _) (((((Ext.rf _).al _)).al _).blk (al_new _ _)) (by have := al_new ((w.alloc (.cells #[.slice AN m.nodes.length cN, .slice AS m.stack.length cS, .slice AM m.memo.length cM, .bool m.done] 64)).alloc (.cells #[.int .i64 19, .int .i64 arg] 82)) (.cells #[.slice none 0 0, .slice none 0 0, .slice none 0 0, .bool false] 64); rw [al_size, al_size] at this; exact this) (.inl rfl) (.inr (.inr rfl)) (by omega) (fun k hk => by rw [al_size, al_size, al_size]; omega))
  have HO := As.mk (show (((w.alloc (.cells #[.slice AN m.nodes.length cN, .slice AS m.stack.length cS, .slice AM m.memo.length cM, .bool m.done] 64)).alloc (.cells #[.int .i64 19, .int .i64 arg] 82)).alloc (.cells #[.slice none 0 0, .slice none 0 0, .slice none 0 0, .bool false] 64)).heap[w.heap.size + 1]? = some (.cells #[.int .i64 19, .int .i64 arg] 82 (0, 0)) from by have := ((Ext.rf _).al (.cells #[.slice none 0 0, .slice none 0 0, .slice none 0 0, .bool false] 64)).blk (al_new (w.alloc (.cells #[.slice AN m.nodes.length cN, .slice AS m.stack.length cS, .slice AM m.memo.length cM, .bool m.done] 64)) (.cells #[.int .i64 19, .int .i64 arg] 82)); rw [al_size] at this; exact this)
  have HRM := As.mk (RdI.ext hrm.s ((((Ext.rf w).al (.cells #[.slice AN m.nodes.length cN, .slice AS m.stack.length cS, .slice AM m.memo.length cM, .bool m.done] 64)).al (.cells #[.int .i64 19, .int .i64 arg] 82)).al (.cells #[.slice none 0 0, .slice none 0 0, .slice none 0 0, .bool false] 64)))
  have HRN := As.mk (RdN.ext hrm.n ((((Ext.rf w).al (.cells #[.slice AN m.nodes.length cN, .slice AS m.stack.length cS, .slice AM m.memo.length cM, .bool m.done] 64)).al (.cells #[.int .i64 19, .int .i64 arg] 82)).al (.cells #[.slice none 0 0, .slice none 0 0, .slice none 0 0, .bool false] 64)))
  have HOK := As.mk hok
  have q1 := hok.nl
  have q2 := hok.sl
  have q3 : m.memo.length ≤ 1000000 := by have := hok.ml; omega
  clear h hrm hok
  go_enter Try.func149, Try.ntmps149
  go_upto_region 1 with fail
  obtain ⟨w1, hw1⟩ : ∃ w1, w1 = ((w.alloc (.cells #[.slice AN m.nodes.length cN, .slice AS m.stack.length cS, .slice AM m.memo.length cM, .bool m.done] 64)).alloc (.cells #[.int .i64 19, .int .i64 arg] 82)).alloc (.cells #[.slice none 0 0, .slice none 0 0, .slice none 0 0, .bool false] 64) := ⟨_, rfl⟩
  rw [← hw1] at HX HO HRM HRN ⊢
  clear hw1
  obtain ⟨g, hg⟩ : ∃ g, g = w.heap.size := ⟨_, rfl⟩
  rw [← hg] at HX HO ⊢
  clear hg
  obtain ⟨a, ha0⟩ : ∃ a, a = topP m 0 := ⟨_, rfl⟩
  obtain ⟨b, hb0⟩ : ∃ b, b = topP m 1 := ⟨_, rfl⟩
  obtain ⟨c, hc0⟩ : ∃ c, c = topP m 2 := ⟨_, rfl⟩
  have HA := As.mk ha0
  have HB := As.mk hb0
  have HC := As.mk hc0
  have hpos : 0 ≤ a := by rw [ha0]; exact ht
  have hsn : 1 ≤ m.stack.length := topP_len ht
  clear ha0 hb0 hc0
  have c0 := MB.c0 HX.out.a.mb; have c1 := MB.c1 HX.out.a.mb; have c2 := MB.c2 HX.out.a.mb; have c3 := MB.c3 HX.out.a.mb
  go_upto_region 2 with (go_at_call 173; refine (stop_c _ _ _ _ _ _ _ _ m 0 w1 HRM.out (by omega)).mono ?_; rw [← HA.out]; rintro e w2 ⟨rfl, hx⟩; have HE2 := As.mk hx; clear hx)
  replace c0 := HE2.out.cellOf c0; replace c1 := HE2.out.cellOf c1; replace c2 := HE2.out.cellOf c2; replace c3 := HE2.out.cellOf c3
  go_upto_region 3 with (go_at_call 173; refine (stop_c _ _ _ _ _ _ _ _ m 1 w2 (HRM.out.ext HE2.out) (by omega)).mono ?_; rw [← HB.out]; rintro e w3 ⟨rfl, hx⟩; have HE3 := As.mk (HE2.out.trans hx); have HF3 := As.mk hx; clear hx)
  replace c0 := HF3.out.cellOf c0; replace c1 := HF3.out.cellOf c1; replace c2 := HF3.out.cellOf c2; replace c3 := HF3.out.cellOf c3
  clear HF3
  go_upto_region 4 with (go_at_call 173; refine (stop_c _ _ _ _ _ _ _ _ m 2 w3 (HRM.out.ext HE3.out) (by omega)).mono ?_; rw [← HC.out]; rintro e w4 ⟨rfl, hx⟩; have HE4 := As.mk (HE3.out.trans hx); clear hx)
  clear c0 c1 c2 c3 HE2 HE3
  have hx4 := HX.out.ext HE4.out
  have ho4 := HE4.out.blk HO.out
  have hrn4 := HRN.out.ext HE4.out
  clear HX HO HRM HRN HE4
  have HX := As.mk hx4
  have HO := As.mk ho4
  have HRN := As.mk hrn4
  clear hx4 ho4 hrn4
  have c0 := MB.c0 HX.out.a.mb; have c1 := MB.c1 HX.out.a.mb; have c2 := MB.c2 HX.out.a.mb; have c3 := MB.c3 HX.out.a.mb
  have o0 : w4.cell? ⟨g + 1, 0, none⟩ = some (.int .i64 19) := by simp [World.cell?, HO.out]
  have o1 : w4.cell? ⟨g + 1, 1, none⟩ = some (.int .i64 arg) := by simp [World.cell?, HO.out]
  have b3 := MB.fz HX.out.a.mb 3
  go_upto_region 33 with fail
  have hx5 := HX.out.to (HX.out.a.fin true) (Fr.set _ _ (.inl rfl))
  clear b3 c0 c1 c2 c3 o0 o1
  have HX5 := As.mk hx5
  clear hx5
  generalize (w4.setCell ⟨g, 3, none⟩ (.bool true)) = w5 at HX5 ⊢
  have d0 := MB.c0 HX5.out.r; have d1 := MB.c1 HX5.out.r; have d2 := MB.c2 HX5.out.r; have d3 := MB.c3 HX5.out.r
  have f0 := MB.fz HX5.out.r 0; have f1 := MB.fz HX5.out.r 1; have f2 := MB.fz HX5.out.r 2; have f3 := MB.fz HX5.out.r 3
  have c0 := MB.c0 HX5.out.a.mb; have c1 := MB.c1 HX5.out.a.mb; have c2 := MB.c2 HX5.out.a.mb; have c3 := MB.c3 HX5.out.a.mb
  have hS := And.intro c0 (And.intro c1 (And.intro c2 c3))
  refine region_perm (fun w' => w'.cell? ⟨g, 0, none⟩ = some (.slice AN m.nodes.length cN) ∧ w'.cell? ⟨g, 1, none⟩ = some (.slice AS m.stack.length cS) ∧ w'.cell? ⟨g, 2, none⟩ = some (.slice AM m.memo.length cM) ∧ w'.cell? ⟨g, 3, none⟩ = some (.bool true)) [] [(0, 1), (1, 0), (2, 1), (3, 0), (4, 0), (5, 2), (6, 0)] (by kernel_rfl) (by kernel_rfl) rfl (by kernel_rfl) (fun _ _ _ _ h => h) ?_
  repeat (first | refine wpP.c0 (h := ?_) | refine wpP.c1 (w := w5.drew) hS (h := ?_))
  refine wpP.ev (h := fun Kv hKv => ?_)
  go_wp2_with fail
  have hf4 := Fr.set4 (S := fun k => k = g + 1 + 1) (w := w5) (g := g + 1 + 1) rfl (.slice AN m.nodes.length cN) (.slice AS m.stack.length cS) (.slice AM m.memo.length cM) (.bool true)
  refine hKv.out _ _ ⟨(Ext.rf _).dr.cellOf (hf4.cell c0 (by show ¬ g = g + 1 + 1; omega)), (Ext.rf _).dr.cellOf (hf4.cell c1 (by show ¬ g = g + 1 + 1; omega)), (Ext.rf _).dr.cellOf (hf4.cell c2 (by show ¬ g = g + 1 + 1; omega)), (Ext.rf _).dr.cellOf (hf4.cell c3 (by show ¬ g = g + 1 + 1; omega))⟩ ?_
  clear hf4
  repeat (first | refine wpP.c0 (h := ?_))
  refine wpP.done ?_
  clear hKv Kv hS
  go_wp2_with fail
  have ho := HX5.out.out
  refine bodyPost_ret (results_cellt rfl _ _ (g + 1 + 1) _ rfl (loadM ((Ext.rf _).dr.blk ho.2.2))) rfl ?_
  have HD : (doneP m).isSome = ((m.stack.length : Int) == 1) := by
    unfold doneP
    by_cases hl : m.stack.length = 1
    · rw [if_pos hl]; simp [hl]
    · have h2 : ((m.stack.length : Int) == 1) = false := by rw [beq_eq_false_iff_ne]; omega
      rw [if_neg hl, h2]; rfl
  unfold StepX
  rw [HD]
  refine ⟨_, _, _, _, _, _, _, _, _, _, rfl, ho.2.1.trans (Fr.ofExt ((Ext.rf _).dr)), fun m' hm => ?_⟩
  unfold doneP at hm
  split at hm
  · injection hm with hm
    subst hm
    exact ⟨rfl, _, ho.1.ext ((Ext.rf _).dr)⟩
  · exact nomatch hm
set_option maxRecDepth 100000 in
set_option maxHeartbeats 4000000 in
theorem stepTop_8 {B Bd w l vN vS vM m} (h : MW B w l vN vS vM m) (hok : okM Bd m) (hBd : Bd ≤ 1000000) (arg : Int) (ht : 0 ≤ topP m 0) (x : Nat) (hb : topP m 1 = x) (hx : x < m.nodes.length) (hk : (nd m x).kind = 3) :
    Calls Try.prog 149 #[.agg #[vN, vS, vM, .bool m.done], .agg #[.int .i64 8, .int .i64 arg]] w (StepX B (some (drop (setKids m x ((nd m x).kids ++ [topP m 0])) 1)) w) := by
  obtain ⟨AN, cN, AS, cS, AM, cM, rfl, rfl, rfl, hrm, hcS⟩ := h.rm (by have := hok.nl; omega) (by have := hok.sl; omega) (by have := hok.ml; omega)
  have HX := As.mk (h.box (W := ((w.alloc (.cells #[.slice AN m.nodes.length cN, .slice AS m.stack.length cS, .slice AM m.memo.length cM, .bool m.done] 64)).alloc (.cells #[.int .i64 8, .int .i64 arg] 82)).alloc (.cells #[.slice none 0 0, .slice none 0 0, .slice none 0 0, .bool false] 64)) (fun k => k = w.heap.size ∨ k = w.heap.size + 1 ∨ k = w.heap.size + 1 + 1) (g := w.heap.size) (g2 := w.heap.size + 1 + 1) ((((Ext.rf w).al _).al _).al _) (((((Ext.rf _).al _)).al _).blk (al_new _ _)) (by have := al_new ((w.alloc (.cells #[.slice AN m.nodes.length cN, .slice AS m.stack.length cS, .slice AM m.memo.length cM, .bool m.done] 64)).alloc (.cells #[.int .i64 8, .int .i64 arg] 82)) (.cells #[.slice none 0 0, .slice none 0 0, .slice none 0 0, .bool false] 64); rw [al_size, al_size] at this; exact this) (.inl rfl) (.inr (.inr rfl)) (by omega) (fun k hk => by rw [al_size, al_size, al_size]; omega))
  have HO := As.mk (show (((w.alloc (.cells #[.slice AN m.nodes.length cN, .slice AS m.stack.length cS, .slice AM m.memo.length cM, .bool m.done] 64)).alloc (.cells #[.int .i64 8, .int .i64 arg] 82)).alloc (.cells #[.slice none 0 0, .slice none 0 0, .slice none 0 0, .bool false] 64)).heap[w.heap.size + 1]? = some (.cells #[.int .i64 8, .int .i64 arg] 82 (0, 0)) from by have := ((Ext.rf _).al (.cells #[.slice none 0 0, .slice none 0 0, .slice none 0 0, .bool false] 64)).blk (al_new (w.alloc (.cells #[.slice AN m.nodes.length cN, .slice AS m.stack.length cS, .slice AM m.memo.length cM, .bool m.done] 64)) (.cells #[.int .i64 8, .int .i64 arg] 82)); rw [al_size] at this; exact this)
  have HRM := As.mk (RdI.ext hrm.s ((((Ext.rf w).al (.cells #[.slice AN m.nodes.length cN, .slice AS m.stack.length cS, .slice AM m.memo.length cM, .bool m.done] 64)).al (.cells #[.int .i64 8, .int .i64 arg] 82)).al (.cells #[.slice none 0 0, .slice none 0 0, .slice none 0 0, .bool false] 64)))
  have HRN := As.mk (RdN.ext hrm.n ((((Ext.rf w).al (.cells #[.slice AN m.nodes.length cN, .slice AS m.stack.length cS, .slice AM m.memo.length cM, .bool m.done] 64)).al (.cells #[.int .i64 8, .int .i64 arg] 82)).al (.cells #[.slice none 0 0, .slice none 0 0, .slice none 0 0, .bool false] 64)))
  have HOK := As.mk hok
  obtain ⟨gN, cN', hv, _, _⟩ := HX.out.a.hd (by omega) (by have := hok.nl; omega)
  injection hv with hv1 hv2 hv3
  subst hv1 hv3
  have hll : m.nodes.length = l.length := by rw [← h.ns, List.length_map]
  have hdl : x < l.length := by omega
  have hld : l[x].1 = m.nodes[x] := by
    have : (l.map Prod.fst)[x]'(by rw [List.length_map]; exact hdl) = m.nodes[x] := by simp only [h.ns]
    rwa [List.getElem_map] at this
  obtain ⟨kids, hkids⟩ : ∃ kids, kids = m.nodes[x].kids := ⟨_, rfl⟩
  have hkb : kids.length ≤ 1000000 := by rw [hkids]; exact Nat.le_trans (hok.ki _ (List.getElem_mem hx)).1 hBd
  have HL1 := As.mk (show l[x].1.kids = kids by rw [hld, hkids])
  have hnd : nd m x = m.nodes[x] := by
    unfold nd
    rw [Int.toNat_natCast, List.getD_eq_getElem?_getD, List.getElem?_eq_getElem hx]; rfl
  have HKD := As.mk (show kids = (nd m x).kids by rw [hnd, hkids])
  clear hll hld hkids hnd
  have q1 := hok.nl
  have q2 := hok.sl
  have q3 : m.memo.length ≤ 1000000 := by have := hok.ml; omega
  clear h hrm hok
  go_enter Try.func149, Try.ntmps149
  go_upto_region 1 with fail
  obtain ⟨w1, hw1⟩ : ∃ w1, w1 = ((w.alloc (.cells #[.slice (some ⟨gN, 0, none⟩) m.nodes.length cN, .slice AS m.stack.length cS, .slice AM m.memo.length cM, .bool m.done] 64)).alloc (.cells #[.int .i64 8, .int .i64 arg] 82)).alloc (.cells #[.slice none 0 0, .slice none 0 0, .slice none 0 0, .bool false] 64) := ⟨_, rfl⟩
  rw [← hw1] at HX HO HRM HRN ⊢
  clear hw1
  obtain ⟨g, hg⟩ : ∃ g, g = w.heap.size := ⟨_, rfl⟩
  rw [← hg] at HX HO ⊢
  clear hg
  obtain ⟨a, ha0⟩ : ∃ a, a = topP m 0 := ⟨_, rfl⟩
  have hb0 : (x : Int) = topP m 1 := hb.symm
  obtain ⟨c, hc0⟩ : ∃ c, c = topP m 2 := ⟨_, rfl⟩
  have HA := As.mk ha0
  have HB := As.mk hb0
  have HC := As.mk hc0
  have hpos : 0 ≤ a := by rw [ha0]; exact ht
  have hsn : 1 ≤ m.stack.length := topP_len ht
  have hsn2 : 2 ≤ m.stack.length := topP_len (by rw [hb]; exact Int.natCast_nonneg x)
  have HKP := As.mk (show kindP m x = 3 by unfold kindP; rw [if_neg (by omega), hk])
  have q4 : (x : Int) < m.nodes.length := by omega
  have q5 : (0 : Int) ≤ x := by omega
  clear hk hb
  clear ha0 hb0 hc0
  have c0 := MB.c0 HX.out.a.mb; have c1 := MB.c1 HX.out.a.mb; have c2 := MB.c2 HX.out.a.mb; have c3 := MB.c3 HX.out.a.mb
  go_upto_region 2 with (go_at_call 173; refine (stop_c _ _ _ _ _ _ _ _ m 0 w1 HRM.out (by omega)).mono ?_; rw [← HA.out]; rintro e w2 ⟨rfl, hx⟩; have HE2 := As.mk hx; clear hx)
  replace c0 := HE2.out.cellOf c0; replace c1 := HE2.out.cellOf c1; replace c2 := HE2.out.cellOf c2; replace c3 := HE2.out.cellOf c3
  go_upto_region 3 with (go_at_call 173; refine (stop_c _ _ _ _ _ _ _ _ m 1 w2 (HRM.out.ext HE2.out) (by omega)).mono ?_; rw [← HB.out]; rintro e w3 ⟨rfl, hx⟩; have HE3 := As.mk (HE2.out.trans hx); have HF3 := As.mk hx; clear hx)
  replace c0 := HF3.out.cellOf c0; replace c1 := HF3.out.cellOf c1; replace c2 := HF3.out.cellOf c2; replace c3 := HF3.out.cellOf c3
  clear HF3
  go_upto_region 4 with (go_at_call 173; refine (stop_c _ _ _ _ _ _ _ _ m 2 w3 (HRM.out.ext HE3.out) (by omega)).mono ?_; rw [← HC.out]; rintro e w4 ⟨rfl, hx⟩; have HE4 := As.mk (HE3.out.trans hx); clear hx)
  clear c0 c1 c2 c3 HE2 HE3
  have hx4 := HX.out.ext HE4.out
  have ho4 := HE4.out.blk HO.out
  have hrn4 := HRN.out.ext HE4.out
  clear HX HO HRM HRN HE4
  have HX := As.mk hx4
  have HO := As.mk ho4
  have HRN := As.mk hrn4
  clear hx4 ho4 hrn4
  have c0 := MB.c0 HX.out.a.mb; have c1 := MB.c1 HX.out.a.mb; have c2 := MB.c2 HX.out.a.mb; have c3 := MB.c3 HX.out.a.mb
  have o0 : w4.cell? ⟨g + 1, 0, none⟩ = some (.int .i64 8) := by simp [World.cell?, HO.out]
  have o1 : w4.cell? ⟨g + 1, 1, none⟩ = some (.int .i64 arg) := by simp [World.cell?, HO.out]
  go_upto_region 16 with (go_at_call 174; refine (skindOf_c _ _ _ _ _ _ _ _ m x w4 HRN.out (by omega)).mono ?_; rw [HKP.out]; rintro e w5 ⟨rfl, hx5⟩; have HE5 := As.mk hx5; clear hx5)
  have hx5 := HX.out.ext HE5.out
  clear c0 c1 c2 c3 o0 o1 HX HO HRN
  have HX := As.mk hx5
  clear hx5 HE5
  have c0 := MB.c0 HX.out.a.mb; have c1 := MB.c1 HX.out.a.mb; have c2 := MB.c2 HX.out.a.mb; have c3 := MB.c3 HX.out.a.mb
  obtain ⟨hk2, K, cK, hkk, hkc, hkr⟩ := HX.out.a.kid x hdl
  rw [HL1.out] at hkk hkc hkr
  rw [hkk] at hk2
  have HKK := As.mk hkk
  clear hkk hkr
  have hIK : IR w5 (.slice K kids.length cK) kids := by
    have := (HX.out.a.nr.2 _ (List.getElem_mem hdl)).1
    rwa [HKK.out, HL1.out] at this
  have HIK := As.mk hIK
  clear hIK c1 c2 c3
  refine region_perm (fun w' => w'.cell? ⟨g, 0, none⟩ = some (.slice (some ⟨gN, 0, none⟩) m.nodes.length cN) ∧ w'.cell? ⟨gN, x * 3 + 2, none⟩ = some (.slice K kids.length cK)) [14] [(0, 0), (1, 1), (2, 0), (3, 0), (4, 1), (5, 0), (6, 0), (7, 0), (8, 1), (9, 0), (10, 2), (11, 2), (12, 0), (13, 0), (14, 3)] (by kernel_rfl) (by kernel_rfl) rfl (by kernel_rfl) (fun _ _ _ _ h => h) ?_
  have hS := And.intro c0 hk2
  repeat (first | refine wpP.c0 (h := ?_) | refine wpP.c1 (w := w5.drew) hS (h := ?_))
  refine wpP.ev (h := fun Kv hKv => ?_)
  go_wp2_with fail
  have hX6 : Ext w5 (w5.drew.alloc (.cells #[.int .i64 a] 3)) := ((Ext.rf w5).dr).al _
  refine hKv.out _ _ ⟨hX6.cellOf c0, hX6.cellOf hk2⟩ ?_
  clear hKv Kv hX6 hS
  refine wpP.ev (h := fun Kv hKv => ?_)
  obtain ⟨w6, hw6⟩ : ∃ w6, w6 = (w5.alloc (.cells #[.int .i64 a] 3)).drew := ⟨_, rfl⟩
  have hX6 : Ext w5 w6 := by rw [hw6]; exact ((Ext.rf _).al _).dr
  have hr6 : RdI w6 (some ⟨w5.heap.size, 0, none⟩) [a] := by rw [hw6]; exact (rd_one w5 a).ext ((Ext.rf _).dr)
  rw [← hw6]
  clear hw6
  have HX6 := As.mk hX6
  have HR6 := As.mk hr6
  clear hX6 hr6
  go_wp2_with ((at_builtin; refine app_intsA rfl _ _ rfl (.slice K kids.length cK) kids (some ⟨w5.heap.size, 0, none⟩) 1 1 [a] rfl rfl rfl HR6.out (HIK.out.ext HX6.out) (by omega) ?_; intro A3 e3 w7 hap; have HAP := As.mk hap; clear hap))
  have HX4 := As.mk (HX.out.ext HX6.out)
  have hap : AppS l[x].2 l[x].1.kids (l[x].1.kids ++ [a]) w6 A3 e3 w7 := by rw [HL1.out, HKK.out]; exact HAP.out
  have hgr := HX4.out.a.grow x hdl [a] A3 e3 hap (by rw [HL1.out]; simp; omega)
  have hm4 := HX4.out.a.app l[x] (List.getElem_mem hdl) hap.2.1 hap.2.2.2
  have e0 := MB.c0 hm4.mb
  have x4 := (hm4.kid x hdl).1
  rw [HKK.out] at x4
  have z4 := own_fz hm4.nr.1 (x * 3 + 2)
  have hx5 := HX4.out.to hgr.1 (HX4.out.foot hgr.2)
  have hl2 : (kids ++ [a]).length = kids.length + 1 := by simp
  rw [HL1.out, hl2] at hx5
  refine hKv.out _ _ ⟨e0, x4⟩ ?_
  clear hKv Kv
  have HX5 := As.mk hx5
  clear hgr hm4 hx5 hap c0 hk2 hl2
  repeat (first | refine wpP.c0 (h := ?_))
  refine wpP.last (h := fun Kv hKv => ?_)
  go_wp2_with fail
  refine hKv.out _ _ (wpP.done ?_)
  clear hKv Kv e0 x4 z4 HX HX4
  generalize (w7.setCell ⟨gN, x * 3 + 2, none⟩ (.slice A3 (kids.length + 1) e3)) = w8 at HX5 ⊢
  have d0 := MB.c0 HX5.out.r; have d1 := MB.c1 HX5.out.r; have d2 := MB.c2 HX5.out.r; have d3 := MB.c3 HX5.out.r
  have f0 := MB.fz HX5.out.r 0; have f1 := MB.fz HX5.out.r 1; have f2 := MB.fz HX5.out.r 2; have f3 := MB.fz HX5.out.r 3
  have c0 := MB.c0 HX5.out.a.mb; have c1 := MB.c1 HX5.out.a.mb; have c2 := MB.c2 HX5.out.a.mb; have c3 := MB.c3 HX5.out.a.mb
  go_wp2_with (go_at_call 172; refine (sdrop_c HX5.out.mw 1 (by show 1 ≤ m.stack.length; omega) (by rw [setKids_len]; omega) (by show m.stack.length ≤ _; omega) (by show m.memo.length ≤ _; omega)).mono ?_; rintro e w9 hr; obtain ⟨l9, B1, n1, e1, B2, n2, e2, B3, n3, e3, rfl, hv, hf⟩ := machS_of hr; have HV9 := As.mk hv; have HF9 := As.mk hf; have hb := hf.blk HX5.out.r (fun e => e.2 HX5.out.x2); have d0 := MB.c0 hb; have d1 := MB.c1 hb; have d2 := MB.c2 hb; have d3 := MB.c3 hb; have f0 := MB.fz hb 0; have f1 := MB.fz hb 1; have f2 := MB.fz hb 2; have f3 := MB.fz hb 3; clear hr hv hf hb)
  have ho := HX5.out.res HV9.out HF9.out
  refine bodyPost_ret (results_cellt rfl _ _ (g + 1 + 1) _ rfl (loadM ho.2.2)) rfl ?_
  refine ⟨_, _, _, _, _, _, _, _, _, _, rfl, ho.2.1, fun m' hm => ?_⟩
  rw [← HA.out] at hm
  rw [← HKD.out] at hm
  injection hm with hm
  subst hm
  exact ⟨rfl, _, ho.1⟩
set_option maxRecDepth 100000 in
set_option maxHeartbeats 4000000 in
theorem stepTop_8n {B Bd w l vN vS vM m} (h : MW B w l vN vS vM m) (hok : okM Bd m) (hBd : Bd ≤ 1000000) (arg : Int) (ht : 0 ≤ topP m 0) (hk : kindP m (topP m 1) ≠ 3) :
    Calls Try.prog 149 #[.agg #[vN, vS, vM, .bool m.done], .agg #[.int .i64 8, .int .i64 arg]] w (StepX B (none) w) := by
  obtain ⟨AN, cN, AS, cS, AM, cM, rfl, rfl, rfl, hrm, hcS⟩ := h.rm (by have := hok.nl; omega) (by have := hok.sl; omega) (by have := hok.ml; omega)
  have HX := As.mk (h.box (W := ((w.alloc (.cells #[.slice AN m.nodes.length cN, .slice AS m.stack.length cS, .slice AM m.memo.length cM, .bool m.done] 64)).alloc (.cells #[.int .i64 8, .int .i64 arg] 82)).alloc (.cells #[.slice none 0 0, .slice none 0 0, .slice none 0 0, .bool false] 64)) (fun k => k = w.heap.size ∨ k = w.heap.size + 1 ∨ k = w.heap.size + 1 + 1) (g := w.heap.size) (g2 := w.heap.size + 1 + 1) ((((Ext.rf w).al _).al _).al _) (((((Ext.rf _).al _)).al _).blk (al_new _ _)) (by have := al_new ((w.alloc (.cells #[.slice AN m.nodes.length cN, .slice AS m.stack.length cS, .slice AM m.memo.length cM, .bool m.done] 64)).alloc (.cells #[.int .i64 8, .int .i64 arg] 82)) (.cells #[.slice none 0 0, .slice none 0 0, .slice none 0 0, .bool false] 64); rw [al_size, al_size] at this; exact this) (.inl rfl) (.inr (.inr rfl)) (by omega) (fun k hk => by rw [al_size, al_size, al_size]; omega))
  have HO := As.mk (show (((w.alloc (.cells #[.slice AN m.nodes.length cN, .slice AS m.stack.length cS, .slice AM m.memo.length cM, .bool m.done] 64)).alloc (.cells #[.int .i64 8, .int .i64 arg] 82)).alloc (.cells #[.slice none 0 0, .slice none 0 0, .slice none 0 0, .bool false] 64)).heap[w.heap.size + 1]? = some (.cells #[.int .i64 8, .int .i64 arg] 82 (0, 0)) from by have := ((Ext.rf _).al (.cells #[.slice none 0 0, .slice none 0 0, .slice none 0 0, .bool false] 64)).blk (al_new (w.alloc (.cells #[.slice AN m.nodes.length cN, .slice AS m.stack.length cS, .slice AM m.memo.length cM, .bool m.done] 64)) (.cells #[.int .i64 8, .int .i64 arg] 82)); rw [al_size] at this; exact this)
  have HRM := As.mk (RdI.ext hrm.s ((((Ext.rf w).al (.cells #[.slice AN m.nodes.length cN, .slice AS m.stack.length cS, .slice AM m.memo.length cM, .bool m.done] 64)).al (.cells #[.int .i64 8, .int .i64 arg] 82)).al (.cells #[.slice none 0 0, .slice none 0 0, .slice none 0 0, .bool false] 64)))
  have HRN := As.mk (RdN.ext hrm.n ((((Ext.rf w).al (.cells #[.slice AN m.nodes.length cN, .slice AS m.stack.length cS, .slice AM m.memo.length cM, .bool m.done] 64)).al (.cells #[.int .i64 8, .int .i64 arg] 82)).al (.cells #[.slice none 0 0, .slice none 0 0, .slice none 0 0, .bool false] 64)))
  have HOK := As.mk hok
  have q1 := hok.nl
  have q2 := hok.sl
  have q3 : m.memo.length ≤ 1000000 := by have := hok.ml; omega
  clear h hrm hok
  go_enter Try.func149, Try.ntmps149
  go_upto_region 1 with fail
  obtain ⟨w1, hw1⟩ : ∃ w1, w1 = ((w.alloc (.cells #[.slice AN m.nodes.length cN, .slice AS m.stack.length cS, .slice AM m.memo.length cM, .bool m.done] 64)).alloc (.cells #[.int .i64 8, .int .i64 arg] 82)).alloc (.cells #[.slice none 0 0, .slice none 0 0, .slice none 0 0, .bool false] 64) := ⟨_, rfl⟩
  rw [← hw1] at HX HO HRM HRN ⊢
  clear hw1
  obtain ⟨g, hg⟩ : ∃ g, g = w.heap.size := ⟨_, rfl⟩
  rw [← hg] at HX HO ⊢
  clear hg
  obtain ⟨a, ha0⟩ : ∃ a, a = topP m 0 := ⟨_, rfl⟩
  obtain ⟨b, hb0⟩ : ∃ b, b = topP m 1 := ⟨_, rfl⟩
  obtain ⟨c, hc0⟩ : ∃ c, c = topP m 2 := ⟨_, rfl⟩
  have HA := As.mk ha0
  have HB := As.mk hb0
  have HC := As.mk hc0
  have hpos : 0 ≤ a := by rw [ha0]; exact ht
  have hsn : 1 ≤ m.stack.length := topP_len ht
  have HLB := As.mk (show b < m.nodes.length by rw [hb0]; exact topP_lm HOK.out 1)
  rw [← hb0] at hk
  obtain ⟨kb, hkb⟩ : ∃ kb, kb = kindP m b := ⟨_, rfl⟩
  rw [← hkb] at hk
  have HKB := As.mk hkb.symm
  clear hkb
  clear ha0 hb0 hc0
  have c0 := MB.c0 HX.out.a.mb; have c1 := MB.c1 HX.out.a.mb; have c2 := MB.c2 HX.out.a.mb; have c3 := MB.c3 HX.out.a.mb
  go_upto_region 2 with (go_at_call 173; refine (stop_c _ _ _ _ _ _ _ _ m 0 w1 HRM.out (by omega)).mono ?_; rw [← HA.out]; rintro e w2 ⟨rfl, hx⟩; have HE2 := As.mk hx; clear hx)
  replace c0 := HE2.out.cellOf c0; replace c1 := HE2.out.cellOf c1; replace c2 := HE2.out.cellOf c2; replace c3 := HE2.out.cellOf c3
  go_upto_region 3 with (go_at_call 173; refine (stop_c _ _ _ _ _ _ _ _ m 1 w2 (HRM.out.ext HE2.out) (by omega)).mono ?_; rw [← HB.out]; rintro e w3 ⟨rfl, hx⟩; have HE3 := As.mk (HE2.out.trans hx); have HF3 := As.mk hx; clear hx)
  replace c0 := HF3.out.cellOf c0; replace c1 := HF3.out.cellOf c1; replace c2 := HF3.out.cellOf c2; replace c3 := HF3.out.cellOf c3
  clear HF3
  go_upto_region 4 with (go_at_call 173; refine (stop_c _ _ _ _ _ _ _ _ m 2 w3 (HRM.out.ext HE3.out) (by omega)).mono ?_; rw [← HC.out]; rintro e w4 ⟨rfl, hx⟩; have HE4 := As.mk (HE3.out.trans hx); clear hx)
  clear c0 c1 c2 c3 HE2 HE3
  have hx4 := HX.out.ext HE4.out
  have ho4 := HE4.out.blk HO.out
  have hrn4 := HRN.out.ext HE4.out
  clear HX HO HRM HRN HE4
  have HX := As.mk hx4
  have HO := As.mk ho4
  have HRN := As.mk hrn4
  clear hx4 ho4 hrn4
  have c0 := MB.c0 HX.out.a.mb; have c1 := MB.c1 HX.out.a.mb; have c2 := MB.c2 HX.out.a.mb; have c3 := MB.c3 HX.out.a.mb
  have o0 : w4.cell? ⟨g + 1, 0, none⟩ = some (.int .i64 8) := by simp [World.cell?, HO.out]
  have o1 : w4.cell? ⟨g + 1, 1, none⟩ = some (.int .i64 arg) := by simp [World.cell?, HO.out]
  go_wp2_with (go_at_call 174; refine (skindOf_c _ _ _ _ _ _ _ _ m b w4 HRN.out HLB.out).mono ?_; rw [HKB.out]; rintro e w5 ⟨rfl, hx5⟩; have HE5 := As.mk hx5; clear hx5; have HX5 := As.mk (HX.out.ext HE5.out); have d0 := MB.c0 HX5.out.r; have d1 := MB.c1 HX5.out.r; have d2 := MB.c2 HX5.out.r; have d3 := MB.c3 HX5.out.r; have f0 := MB.fz HX5.out.r 0; have f1 := MB.fz HX5.out.r 1; have f2 := MB.fz HX5.out.r 2; have f3 := MB.fz HX5.out.r 3; have c0 := MB.c0 HX5.out.a.mb; have c1 := MB.c1 HX5.out.a.mb; have c2 := MB.c2 HX5.out.a.mb; have c3 := MB.c3 HX5.out.a.mb)
  have ho := HX5.out.out
  refine bodyPost_ret (results_cellt rfl _ _ (g + 1 + 1) _ rfl (loadM ho.2.2)) rfl ?_
  exact ⟨_, _, _, _, _, _, _, _, _, _, rfl, ho.2.1, fun _ hm => nomatch hm⟩
set_option maxRecDepth 100000 in
set_option maxHeartbeats 4000000 in
theorem stepTop_14n {B Bd w l vN vS vM m} (h : MW B w l vN vS vM m) (hok : okM Bd m) (hBd : Bd ≤ 1000000) (arg : Int) (ht : 0 ≤ topP m 0) (hk : kindP m (topP m 1) ≠ 5) :
    Calls Try.prog 149 #[.agg #[vN, vS, vM, .bool m.done], .agg #[.int .i64 14, .int .i64 arg]] w (StepX B (none) w) := by
  obtain ⟨AN, cN, AS, cS, AM, cM, rfl, rfl, rfl, hrm, hcS⟩ := h.rm (by have := hok.nl; omega) (by have := hok.sl; omega) (by have := hok.ml; omega)
  have HX := As.mk (h.box (W := ((w.alloc (.cells #[.slice AN m.nodes.length cN, .slice AS m.stack.length cS, .slice AM m.memo.length cM, .bool m.done] 64)).alloc (.cells #[.int .i64 14, .int .i64 arg] 82)).alloc (.cells #[.slice none 0 0, .slice none 0 0, .slice none 0 0, .bool false] 64)) (fun k => k = w.heap.size ∨ k = w.heap.size + 1 ∨ k = w.heap.size + 1 + 1) (g := w.heap.size) (g2 := w.heap.size + 1 + 1) ((((Ext.rf w).al _).al _).al _) (((((Ext.rf _).al _)).al _).blk (al_new _ _)) (by have := al_new ((w.alloc (.cells #[.slice AN m.nodes.length cN, .slice AS m.stack.length cS, .slice AM m.memo.length cM, .bool m.done] 64)).alloc (.cells #[.int .i64 14, .int .i64 arg] 82)) (.cells #[.slice none 0 0, .slice none 0 0, .slice none 0 0, .bool false] 64); rw [al_size, al_size] at this; exact this) (.inl rfl) (.inr (.inr rfl)) (by omega) (fun k hk => by rw [al_size, al_size, al_size]; omega))
  have HO := As.mk (show (((w.alloc (.cells #[.slice AN m.nodes.length cN, .slice AS m.stack.length cS, .slice AM m.memo.length cM, .bool m.done] 64)).alloc (.cells #[.int .i64 14, .int .i64 arg] 82)).alloc (.cells #[.slice none 0 0, .slice none 0 0, .slice none 0 0, .bool false] 64)).heap[w.heap.size + 1]? = some (.cells #[.int .i64 14, .int .i64 arg] 82 (0, 0)) from by have := ((Ext.rf _).al (.cells #[.slice none 0 0, .slice none 0 0, .slice none 0 0, .bool false] 64)).blk (al_new (w.alloc (.cells #[.slice AN m.nodes.length cN, .slice AS m.stack.length cS, .slice AM m.memo.length cM, .bool m.done] 64)) (.cells #[.int .i64 14, .int .i64 arg] 82)); rw [al_size] at this; exact this)
  have HRM := As.mk (RdI.ext hrm.s ((((Ext.rf w).al (.cells #[.slice AN m.nodes.length cN, .slice AS m.stack.length cS, .slice AM m.memo.length cM, .bool m.done] 64)).al (.cells #[.int .i64 14, .int .i64 arg] 82)).al (.cells #[.slice none 0 0, .slice none 0 0, .slice none 0 0, .bool false] 64)))
  have HRN := As.mk (RdN.ext hrm.n ((((Ext.rf w).al (.cells #[.slice AN m.nodes.length cN, .slice AS m.stack.length cS, .slice AM m.memo.length cM, .bool m.done] 64)).al (.cells #[.int .i64 14, .int .i64 arg] 82)).al (.cells #[.slice none 0 0, .slice none 0 0, .slice none 0 0, .bool false] 64)))
  have HOK := As.mk hok
  have q1 := hok.nl
  have q2 := hok.sl
  have q3 : m.memo.length ≤ 1000000 := by have := hok.ml; omega
  clear h hrm hok
  go_enter Try.func149, Try.ntmps149
  go_upto_region 1 with fail
  obtain ⟨w1, hw1⟩ : ∃ w1, w1 = ((w.alloc (.cells #[.slice AN m.nodes.length cN, .slice AS m.stack.length cS, .slice AM m.memo.length cM, .bool m.done] 64)).alloc (.cells #[.int .i64 14, .int .i64 arg] 82)).alloc (.cells #[.slice none 0 0, .slice none 0 0, .slice none 0 0, .bool false] 64) := ⟨_, rfl⟩
  rw [← hw1] at HX HO HRM HRN ⊢
  clear hw1
  obtain ⟨g, hg⟩ : ∃ g, g = w.heap.size := ⟨_, rfl⟩
  rw [← hg] at HX HO ⊢
  clear hg
  obtain ⟨a, ha0⟩ : ∃ a, a = topP m 0 := ⟨_, rfl⟩
  obtain ⟨b, hb0⟩ : ∃ b, b = topP m 1 := ⟨_, rfl⟩
  obtain ⟨c, hc0⟩ : ∃ c, c = topP m 2 := ⟨_, rfl⟩
  have HA := As.mk ha0
  have HB := As.mk hb0
  have HC := As.mk hc0
  have hpos : 0 ≤ a := by rw [ha0]; exact ht
  have hsn : 1 ≤ m.stack.length := topP_len ht
  have HLB := As.mk (show b < m.nodes.length by rw [hb0]; exact topP_lm HOK.out 1)
  rw [← hb0] at hk
  obtain ⟨kb, hkb⟩ : ∃ kb, kb = kindP m b := ⟨_, rfl⟩
  rw [← hkb] at hk
  have HKB := As.mk hkb.symm
  clear hkb
  clear ha0 hb0 hc0
  have c0 := MB.c0 HX.out.a.mb; have c1 := MB.c1 HX.out.a.mb; have c2 := MB.c2 HX.out.a.mb; have c3 := MB.c3 HX.out.a.mb
  go_upto_region 2 with (go_at_call 173; refine (stop_c _ _ _ _ _ _ _ _ m 0 w1 HRM.out (by omega)).mono ?_; rw [← HA.out]; rintro e w2 ⟨rfl, hx⟩; have HE2 := As.mk hx; clear hx)
  replace c0 := HE2.out.cellOf c0; replace c1 := HE2.out.cellOf c1; replace c2 := HE2.out.cellOf c2; replace c3 := HE2.out.cellOf c3
  go_upto_region 3 with (go_at_call 173; refine (stop_c _ _ _ _ _ _ _ _ m 1 w2 (HRM.out.ext HE2.out) (by omega)).mono ?_; rw [← HB.out]; rintro e w3 ⟨rfl, hx⟩; have HE3 := As.mk (HE2.out.trans hx); have HF3 := As.mk hx; clear hx)
  replace c0 := HF3.out.cellOf c0; replace c1 := HF3.out.cellOf c1; replace c2 := HF3.out.cellOf c2; replace c3 := HF3.out.cellOf c3
  clear HF3
  go_upto_region 4 with (go_at_call 173; refine (stop_c _ _ _ _ _ _ _ _ m 2 w3 (HRM.out.ext HE3.out) (by omega)).mono ?_; rw [← HC.out]; rintro e w4 ⟨rfl, hx⟩; have HE4 := As.mk (HE3.out.trans hx); clear hx)
  clear c0 c1 c2 c3 HE2 HE3
  have hx4 := HX.out.ext HE4.out
  have ho4 := HE4.out.blk HO.out
  have hrn4 := HRN.out.ext HE4.out
  clear HX HO HRM HRN HE4
  have HX := As.mk hx4
  have HO := As.mk ho4
  have HRN := As.mk hrn4
  clear hx4 ho4 hrn4
  have c0 := MB.c0 HX.out.a.mb; have c1 := MB.c1 HX.out.a.mb; have c2 := MB.c2 HX.out.a.mb; have c3 := MB.c3 HX.out.a.mb
  have o0 : w4.cell? ⟨g + 1, 0, none⟩ = some (.int .i64 14) := by simp [World.cell?, HO.out]
  have o1 : w4.cell? ⟨g + 1, 1, none⟩ = some (.int .i64 arg) := by simp [World.cell?, HO.out]
  go_wp2_with (go_at_call 174; refine (skindOf_c _ _ _ _ _ _ _ _ m b w4 HRN.out HLB.out).mono ?_; rw [HKB.out]; rintro e w5 ⟨rfl, hx5⟩; have HE5 := As.mk hx5; clear hx5; have HX5 := As.mk (HX.out.ext HE5.out); have d0 := MB.c0 HX5.out.r; have d1 := MB.c1 HX5.out.r; have d2 := MB.c2 HX5.out.r; have d3 := MB.c3 HX5.out.r; have f0 := MB.fz HX5.out.r 0; have f1 := MB.fz HX5.out.r 1; have f2 := MB.fz HX5.out.r 2; have f3 := MB.fz HX5.out.r 3; have c0 := MB.c0 HX5.out.a.mb; have c1 := MB.c1 HX5.out.a.mb; have c2 := MB.c2 HX5.out.a.mb; have c3 := MB.c3 HX5.out.a.mb)
  have ho := HX5.out.out
  refine bodyPost_ret (results_cellt rfl _ _ (g + 1 + 1) _ rfl (loadM ho.2.2)) rfl ?_
  exact ⟨_, _, _, _, _, _, _, _, _, _, rfl, ho.2.1, fun _ hm => nomatch hm⟩
set_option maxRecDepth 100000 in
set_option maxHeartbeats 4000000 in
theorem stepTop_14m {B Bd w l vN vS vM m} (h : MW B w l vN vS vM m) (hok : okM Bd m) (hBd : Bd ≤ 1000000) (arg : Int) (ht : 0 ≤ topP m 0) (x : Nat) (hb : topP m 1 = x) (hx : x < m.nodes.length) (hk : (nd m x).kind = 5) (hne : (nd m x).kids ≠ []) :
    Calls Try.prog 149 #[.agg #[vN, vS, vM, .bool m.done], .agg #[.int .i64 14, .int .i64 arg]] w (StepX B (none) w) := by
  obtain ⟨AN, cN, AS, cS, AM, cM, rfl, rfl, rfl, hrm, hcS⟩ := h.rm (by have := hok.nl; omega) (by have := hok.sl; omega) (by have := hok.ml; omega)
  have HX := As.mk (h.box (W := ((w.alloc (.cells #[.slice AN m.nodes.length cN, .slice AS m.stack.length cS, .slice AM m.memo.length cM, .bool m.done] 64)).alloc (.cells #[.int .i64 14, .int .i64 arg] 82)).alloc (.cells #[.slice none 0 0, .slice none 0 0, .slice none 0 0, .bool false] 64)) (fun k => k = w.heap.size ∨ k = w.heap.size + 1 ∨ k = w.heap.size + 1 + 1) (g := w.heap.size) (g2 := w.heap.size + 1 + 1) ((((Ext.rf w).al _).al _).al _) (((((Ext.rf _).al _)).al _).blk (al_new _ _)) (by have := al_new ((w.alloc (.cells #[.slice AN m.nodes.length cN, .slice AS m.stack.length cS, .slice AM m.memo.length cM, .bool m.done] 64)).alloc (.cells #[.int .i64 14, .int .i64 arg] 82)) (.cells #[.slice none 0 0, .slice none 0 0, .slice none 0 0, .bool false] 64); rw [al_size, al_size] at this; exact this) (.inl rfl) (.inr (.inr rfl)) (by omega) (fun k hk => by rw [al_size, al_size, al_size]; omega))
  have HO := As.mk (show (((w.alloc (.cells #[.slice AN m.nodes.length cN, .slice AS m.stack.length cS, .slice AM m.memo.length cM, .bool m.done] 64)).alloc (.cells #[.int .i64 14, .int .i64 arg] 82)).alloc (.cells #[.slice none 0 0, .slice none 0 0, .slice none 0 0, .bool false] 64)).heap[w.heap.size + 1]? = some (.cells #[.int .i64 14, .int .i64 arg] 82 (0, 0)) from by have := ((Ext.rf _).al (.cells #[.slice none 0 0, .slice none 0 0, .slice none 0 0, .bool false] 64)).blk (al_new (w.alloc (.cells #[.slice AN m.nodes.length cN, .slice AS m.stack.length cS, .slice AM m.memo.length cM, .bool m.done] 64)) (.cells #[.int .i64 14, .int .i64 arg] 82)); rw [al_size] at this; exact this)
  have HRM := As.mk (RdI.ext hrm.s ((((Ext.rf w).al (.cells #[.slice AN m.nodes.length cN, .slice AS m.stack.length cS, .slice AM m.memo.length cM, .bool m.done] 64)).al (.cells #[.int .i64 14, .int .i64 arg] 82)).al (.cells #[.slice none 0 0, .slice none 0 0, .slice none 0 0, .bool false] 64)))
  have HRN := As.mk (RdN.ext hrm.n ((((Ext.rf w).al (.cells #[.slice AN m.nodes.length cN, .slice AS m.stack.length cS, .slice AM m.memo.length cM, .bool m.done] 64)).al (.cells #[.int .i64 14, .int .i64 arg] 82)).al (.cells #[.slice none 0 0, .slice none 0 0, .slice none 0 0, .bool false] 64)))
  have HOK := As.mk hok
  obtain ⟨gN, cN', hv, _, _⟩ := HX.out.a.hd (by omega) (by have := hok.nl; omega)
  injection hv with hv1 hv2 hv3
  subst hv1 hv3
  have hll : m.nodes.length = l.length := by rw [← h.ns, List.length_map]
  have hdl : x < l.length := by omega
  have hld : l[x].1 = m.nodes[x] := by
    have : (l.map Prod.fst)[x]'(by rw [List.length_map]; exact hdl) = m.nodes[x] := by simp only [h.ns]
    rwa [List.getElem_map] at this
  obtain ⟨kids, hkids⟩ : ∃ kids, kids = m.nodes[x].kids := ⟨_, rfl⟩
  have hkb : kids.length ≤ 1000000 := by rw [hkids]; exact Nat.le_trans (hok.ki _ (List.getElem_mem hx)).1 hBd
  have HL1 := As.mk (show l[x].1.kids = kids by rw [hld, hkids])
  have hnd : nd m x = m.nodes[x] := by
    unfold nd
    rw [Int.toNat_natCast, List.getD_eq_getElem?_getD, List.getElem?_eq_getElem hx]; rfl
  have HKD := As.mk (show kids = (nd m x).kids by rw [hnd, hkids])
  clear hll hld hkids hnd
  have q1 := hok.nl
  have q2 := hok.sl
  have q3 : m.memo.length ≤ 1000000 := by have := hok.ml; omega
  clear h hrm hok
  go_enter Try.func149, Try.ntmps149
  go_upto_region 1 with fail
  obtain ⟨w1, hw1⟩ : ∃ w1, w1 = ((w.alloc (.cells #[.slice (some ⟨gN, 0, none⟩) m.nodes.length cN, .slice AS m.stack.length cS, .slice AM m.memo.length cM, .bool m.done] 64)).alloc (.cells #[.int .i64 14, .int .i64 arg] 82)).alloc (.cells #[.slice none 0 0, .slice none 0 0, .slice none 0 0, .bool false] 64) := ⟨_, rfl⟩
  rw [← hw1] at HX HO HRM HRN ⊢
  clear hw1
  obtain ⟨g, hg⟩ : ∃ g, g = w.heap.size := ⟨_, rfl⟩
  rw [← hg] at HX HO ⊢
  clear hg
  obtain ⟨a, ha0⟩ : ∃ a, a = topP m 0 := ⟨_, rfl⟩
  have hb0 : (x : Int) = topP m 1 := hb.symm
  obtain ⟨c, hc0⟩ : ∃ c, c = topP m 2 := ⟨_, rfl⟩
  have HA := As.mk ha0
  have HB := As.mk hb0
  have HC := As.mk hc0
  have hpos : 0 ≤ a := by rw [ha0]; exact ht
  have hsn : 1 ≤ m.stack.length := topP_len ht
  have hsn2 : 2 ≤ m.stack.length := topP_len (by rw [hb]; exact Int.natCast_nonneg x)
  have HKP := As.mk (show kindP m x = 5 by unfold kindP; rw [if_neg (by omega), hk])
  have q4 : (x : Int) < m.nodes.length := by omega
  have q5 : (0 : Int) ≤ x := by omega
  clear hk hb
  clear ha0 hb0 hc0
  have c0 := MB.c0 HX.out.a.mb; have c1 := MB.c1 HX.out.a.mb; have c2 := MB.c2 HX.out.a.mb; have c3 := MB.c3 HX.out.a.mb
  go_upto_region 2 with (go_at_call 173; refine (stop_c _ _ _ _ _ _ _ _ m 0 w1 HRM.out (by omega)).mono ?_; rw [← HA.out]; rintro e w2 ⟨rfl, hx⟩; have HE2 := As.mk hx; clear hx)
  replace c0 := HE2.out.cellOf c0; replace c1 := HE2.out.cellOf c1; replace c2 := HE2.out.cellOf c2; replace c3 := HE2.out.cellOf c3
  go_upto_region 3 with (go_at_call 173; refine (stop_c _ _ _ _ _ _ _ _ m 1 w2 (HRM.out.ext HE2.out) (by omega)).mono ?_; rw [← HB.out]; rintro e w3 ⟨rfl, hx⟩; have HE3 := As.mk (HE2.out.trans hx); have HF3 := As.mk hx; clear hx)
  replace c0 := HF3.out.cellOf c0; replace c1 := HF3.out.cellOf c1; replace c2 := HF3.out.cellOf c2; replace c3 := HF3.out.cellOf c3
  clear HF3
  go_upto_region 4 with (go_at_call 173; refine (stop_c _ _ _ _ _ _ _ _ m 2 w3 (HRM.out.ext HE3.out) (by omega)).mono ?_; rw [← HC.out]; rintro e w4 ⟨rfl, hx⟩; have HE4 := As.mk (HE3.out.trans hx); clear hx)
  clear c0 c1 c2 c3 HE2 HE3
  have hx4 := HX.out.ext HE4.out
  have ho4 := HE4.out.blk HO.out
  have hrn4 := HRN.out.ext HE4.out
  clear HX HO HRM HRN HE4
  have HX := As.mk hx4
  have HO := As.mk ho4
  have HRN := As.mk hrn4
  clear hx4 ho4 hrn4
  have c0 := MB.c0 HX.out.a.mb; have c1 := MB.c1 HX.out.a.mb; have c2 := MB.c2 HX.out.a.mb; have c3 := MB.c3 HX.out.a.mb
  have o0 : w4.cell? ⟨g + 1, 0, none⟩ = some (.int .i64 14) := by simp [World.cell?, HO.out]
  have o1 : w4.cell? ⟨g + 1, 1, none⟩ = some (.int .i64 arg) := by simp [World.cell?, HO.out]
  obtain ⟨hk2, K, cK, hkk, -, -⟩ := HX.out.a.kid x hdl
  rw [HL1.out] at hkk
  rw [hkk] at hk2
  have hz : (0 : Int) < kids.length := by
    have : 0 < kids.length := List.length_pos_iff.2 (by rw [HKD.out]; exact hne)
    omega
  clear hkk hne
  go_wp2_with (go_at_call 174; refine (skindOf_c _ _ _ _ _ _ _ _ m x w4 HRN.out (by omega)).mono ?_; rw [HKP.out]; rintro e w5 ⟨rfl, hx5⟩; have HE5 := As.mk hx5; clear hx5; have HX5 := As.mk (HX.out.ext HE5.out); have k5 := HE5.out.cellOf hk2; have d0 := MB.c0 HX5.out.r; have d1 := MB.c1 HX5.out.r; have d2 := MB.c2 HX5.out.r; have d3 := MB.c3 HX5.out.r; have f0 := MB.fz HX5.out.r 0; have f1 := MB.fz HX5.out.r 1; have f2 := MB.fz HX5.out.r 2; have f3 := MB.fz HX5.out.r 3; have c0 := MB.c0 HX5.out.a.mb; have c1 := MB.c1 HX5.out.a.mb; have c2 := MB.c2 HX5.out.a.mb; have c3 := MB.c3 HX5.out.a.mb)
  have ho := HX5.out.out
  refine bodyPost_ret (results_cellt rfl _ _ (g + 1 + 1) _ rfl (loadM ho.2.2)) rfl ?_
  exact ⟨_, _, _, _, _, _, _, _, _, _, rfl, ho.2.1, fun _ hm => nomatch hm⟩
set_option maxRecDepth 100000 in
set_option maxHeartbeats 4000000 in
theorem stepTop_14 {B Bd w l vN vS vM m} (h : MW B w l vN vS vM m) (hok : okM Bd m) (hBd : Bd ≤ 1000000) (arg : Int) (ht : 0 ≤ topP m 0) (x : Nat) (hb : topP m 1 = x) (hx : x < m.nodes.length) (hk : (nd m x).kind = 5) (hne : (nd m x).kids = []) :
    Calls Try.prog 149 #[.agg #[vN, vS, vM, .bool m.done], .agg #[.int .i64 14, .int .i64 arg]] w (StepX B (some (drop (setKids m x [topP m 0]) 1)) w) := by
  obtain ⟨AN, cN, AS, cS, AM, cM, rfl, rfl, rfl, hrm, hcS⟩ := h.rm (by have := hok.nl; omega) (by have := hok.sl; omega) (by have := hok.ml; omega)
  have HX := As.mk (h.box (W := ((w.alloc (.cells #[.slice AN m.nodes.length cN, .slice AS m.stack.length cS, .slice AM m.memo.length cM, .bool m.done] 64)).alloc (.cells #[.int .i64 14, .int .i64 arg] 82)).alloc (.cells #[.slice none 0 0, .slice none 0 0, .slice none 0 0, .bool false] 64)) (fun k => k = w.heap.size ∨ k = w.heap.size + 1 ∨ k = w.heap.size + 1 + 1) (g := w.heap.size) (g2 := w.heap.size + 1 + 1) ((((Ext.rf w).al _).al _).al _) (((((Ext.rf _).al _)).al _).blk (al_new _ _)) (by have := al_new ((w.alloc (.cells #[.slice AN m.nodes.length cN, .slice AS m.stack.length cS, .slice AM m.memo.length cM, .bool m.done] 64)).alloc (.cells #[.int .i64 14, .int .i64 arg] 82)) (.cells #[.slice none 0 0, .slice none 0 0, .slice none 0 0, .bool false] 64); rw [al_size, al_size] at this; exact this) (.inl rfl) (.inr (.inr rfl)) (by omega) (fun k hk => by rw [al_size, al_size, al_size]; omega))
  have HO := As.mk (show (((w.alloc (.cells #[.slice AN m.nodes.length cN, .slice AS m.stack.length cS, .slice AM m.memo.length cM, .bool m.done] 64)).alloc (.cells #[.int .i64 14, .int .i64 arg] 82)).alloc (.cells #[.slice none 0 0, .slice none 0 0, .slice none 0 0, .bool false] 64)).heap[w.heap.size + 1]? = some (.cells #[.int .i64 14, .int .i64 arg] 82 (0, 0)) from by have := ((Ext.rf _).al (.cells #[.slice none 0 0, .slice none 0 0, .slice none 0 0, .bool false] 64)).blk (al_new (w.alloc (.cells #[.slice AN m.nodes.length cN, .slice AS m.stack.length cS, .slice AM m.memo.length cM, .bool m.done] 64)) (.cells #[.int .i64 14, .int .i64 arg] 82)); rw [al_size] at this; exact this)
  have HRM := As.mk (RdI.ext hrm.s ((((Ext.rf w).al (.cells #[.slice AN m.nodes.length cN, .slice AS m.stack.length cS, .slice AM m.memo.length cM, .bool m.done] 64)).al (.cells #[.int .i64 14, .int .i64 arg] 82)).al (.cells #[.slice none 0 0, .slice none 0 0, .slice none 0 0, .bool false] 64)))
  have HRN := As.mk (RdN.ext hrm.n ((((Ext.rf w).al (.cells #[.slice AN m.nodes.length cN, .slice AS m.stack.length cS, .slice AM m.memo.length cM, .bool m.done] 64)).al (.cells #[.int .i64 14, .int .i64 arg] 82)).al (.cells #[.slice none 0 0, .slice none 0 0, .slice none 0 0, .bool false] 64)))
  have HOK := As.mk hok
  obtain ⟨gN, cN', hv, _, _⟩ := HX.out.a.hd (by omega) (by have := hok.nl; omega)
  injection hv with hv1 hv2 hv3
  subst hv1 hv3
  have hll : m.nodes.length = l.length := by rw [← h.ns, List.length_map]
  have hdl : x < l.length := by omega
  have hld : l[x].1 = m.nodes[x] := by
    have : (l.map Prod.fst)[x]'(by rw [List.length_map]; exact hdl) = m.nodes[x] := by simp only [h.ns]
    rwa [List.getElem_map] at this
  obtain ⟨kids, hkids⟩ : ∃ kids, kids = m.nodes[x].kids := ⟨_, rfl⟩
  have hkb : kids.length ≤ 1000000 := by rw [hkids]; exact Nat.le_trans (hok.ki _ (List.getElem_mem hx)).1 hBd
  have HL1 := As.mk (show l[x].1.kids = kids by rw [hld, hkids])
  have hnd : nd m x = m.nodes[x] := by
    unfold nd
    rw [Int.toNat_natCast, List.getD_eq_getElem?_getD, List.getElem?_eq_getElem hx]; rfl
  have HKD := As.mk (show kids = (nd m x).kids by rw [hnd, hkids])
  clear hll hld hkids hnd
  have q1 := hok.nl
  have q2 := hok.sl
  have q3 : m.memo.length ≤ 1000000 := by have := hok.ml; omega
  clear h hrm hok
  go_enter Try.func149, Try.ntmps149
  go_upto_region 1 with fail
  obtain ⟨w1, hw1⟩ : ∃ w1, w1 = ((w.alloc (.cells #[.slice (some ⟨gN, 0, none⟩) m.nodes.length cN, .slice AS m.stack.length cS, .slice AM m.memo.length cM, .bool m.done] 64)).alloc (.cells #[.int .i64 14, .int .i64 arg] 82)).alloc (.cells #[.slice none 0 0, .slice none 0 0, .slice none 0 0, .bool false] 64) := ⟨_, rfl⟩
  rw [← hw1] at HX HO HRM HRN ⊢
  clear hw1
  obtain ⟨g, hg⟩ : ∃ g, g = w.heap.size := ⟨_, rfl⟩
  rw [← hg] at HX HO ⊢
  clear hg
  obtain ⟨a, ha0⟩ : ∃ a, a = topP m 0 := ⟨_, rfl⟩
  have hb0 : (x : Int) = topP m 1 := hb.symm
  obtain ⟨c, hc0⟩ : ∃ c, c = topP m 2 := ⟨_, rfl⟩
  have HA := As.mk ha0
  have HB := As.mk hb0
  have HC := As.mk hc0
  have hpos : 0 ≤ a := by rw [ha0]; exact ht
  have hsn : 1 ≤ m.stack.length := topP_len ht
  have hsn2 : 2 ≤ m.stack.length := topP_len (by rw [hb]; exact Int.natCast_nonneg x)
  have HKP := As.mk (show kindP m x = 5 by unfold kindP; rw [if_neg (by omega), hk])
  have q4 : (x : Int) < m.nodes.length := by omega
  have q5 : (0 : Int) ≤ x := by omega
  clear hk hb
  clear ha0 hb0 hc0
  have c0 := MB.c0 HX.out.a.mb; have c1 := MB.c1 HX.out.a.mb; have c2 := MB.c2 HX.out.a.mb; have c3 := MB.c3 HX.out.a.mb
  go_upto_region 2 with (go_at_call 173; refine (stop_c _ _ _ _ _ _ _ _ m 0 w1 HRM.out (by omega)).mono ?_; rw [← HA.out]; rintro e w2 ⟨rfl, hx⟩; have HE2 := As.mk hx; clear hx)
  replace c0 := HE2.out.cellOf c0; replace c1 := HE2.out.cellOf c1; replace c2 := HE2.out.cellOf c2; replace c3 := HE2.out.cellOf c3
  go_upto_region 3 with (go_at_call 173; refine (stop_c _ _ _ _ _ _ _ _ m 1 w2 (HRM.out.ext HE2.out) (by omega)).mono ?_; rw [← HB.out]; rintro e w3 ⟨rfl, hx⟩; have HE3 := As.mk (HE2.out.trans hx); have HF3 := As.mk hx; clear hx)
  replace c0 := HF3.out.cellOf c0; replace c1 := HF3.out.cellOf c1; replace c2 := HF3.out.cellOf c2; replace c3 := HF3.out.cellOf c3
  clear HF3
  go_upto_region 4 with (go_at_call 173; refine (stop_c _ _ _ _ _ _ _ _ m 2 w3 (HRM.out.ext HE3.out) (by omega)).mono ?_; rw [← HC.out]; rintro e w4 ⟨rfl, hx⟩; have HE4 := As.mk (HE3.out.trans hx); clear hx)
  clear c0 c1 c2 c3 HE2 HE3
  have hx4 := HX.out.ext HE4.out
  have ho4 := HE4.out.blk HO.out
  have hrn4 := HRN.out.ext HE4.out
  clear HX HO HRM HRN HE4
  have HX := As.mk hx4
  have HO := As.mk ho4
  have HRN := As.mk hrn4
  clear hx4 ho4 hrn4
  have c0 := MB.c0 HX.out.a.mb; have c1 := MB.c1 HX.out.a.mb; have c2 := MB.c2 HX.out.a.mb; have c3 := MB.c3 HX.out.a.mb
  have o0 : w4.cell? ⟨g + 1, 0, none⟩ = some (.int .i64 14) := by simp [World.cell?, HO.out]
  have o1 : w4.cell? ⟨g + 1, 1, none⟩ = some (.int .i64 arg) := by simp [World.cell?, HO.out]
  obtain ⟨hk2, K, cK, hkk, -, -⟩ := HX.out.a.kid x hdl
  rw [HL1.out] at hkk
  rw [hkk] at hk2
  have hkn : kids = [] := by rw [HKD.out, hne]
  subst hkn
  simp only [List.length_nil] at hk2
  clear hkk hne
  go_upto_region 25 with (go_at_call 174; refine (skindOf_c _ _ _ _ _ _ _ _ m x w4 HRN.out (by omega)).mono ?_; rw [HKP.out]; rintro e w5 ⟨rfl, hx5⟩; have HE5 := As.mk hx5; clear hx5; have HX5 := As.mk (HX.out.ext HE5.out); have k5 := HE5.out.cellOf hk2; have d0 := MB.c0 HX5.out.r; have d1 := MB.c1 HX5.out.r; have d2 := MB.c2 HX5.out.r; have d3 := MB.c3 HX5.out.r; have f0 := MB.fz HX5.out.r 0; have f1 := MB.fz HX5.out.r 1; have f2 := MB.fz HX5.out.r 2; have f3 := MB.fz HX5.out.r 3; have c0 := MB.c0 HX5.out.a.mb; have c1 := MB.c1 HX5.out.a.mb; have c2 := MB.c2 HX5.out.a.mb; have c3 := MB.c3 HX5.out.a.mb)
  have hX6 : Ext w5 (w5.alloc (.cells #[.int .i64 a] 3)) := (Ext.rf _).al _
  have g0 := hX6.cellOf c0
  have k6 := hX6.cellOf k5
  have z4 := own_fz (HX5.out.a.ext hX6).nr.1 (x * 3 + 2)
  have hown : ∀ k, (Value.slice (some ⟨w5.heap.size, 0, none⟩) 1 1).ownBlock = some k → w5.heap.size = k := fun k hk => by simpa [Value.ownBlock] using hk
  have hap : ∀ v : Value, (∀ k, v.ownBlock = some k → k < w5.heap.size) → Apart v (.slice (some ⟨w5.heap.size, 0, none⟩) 1 1) := fun v hlt k hk hk' => by have := hlt k hk; have := hown k hk'; omega
  have hkd := (HX5.out.a.ext hX6).kids x hdl _ [a] (ir_one w5 a) (by simp) (fun k hk => HX5.out.a.up k (by rw [hown k hk]; exact Nat.le_refl _)) (hap _ (fun k hk => HX5.out.a.foot_lt k (.inr (.inr (.inl hk))))).symm (hap _ (fun k hk => HX5.out.a.foot_lt k (.inr (.inr (.inr (.inl hk)))))).symm (fun j hj _ => hap _ (fun k hk => HX5.out.a.foot_lt k (.inr (.inr (.inr (.inr ⟨_, List.getElem_mem hj, hk⟩))))))
  have hx7 := (HX5.out.ext hX6).to hkd (Fr.set _ _ (HX5.out.a.lo gN (.inr (.inl rfl))))
  clear hkd hX6 hown hap
  have HX7 := As.mk hx7
  clear hx7
  go_upto_region 26 with fail
  clear g0 k5 k6 z4 c0 c1 c2 c3 d0 d1 d2 d3 f0 f1 f2 f3 hk2 HX HX5 HE5 o0 o1 HO HRN
  generalize ((w5.alloc (.cells #[.int .i64 a] 3)).setCell ⟨gN, x * 3 + 2, none⟩ (.slice (some ⟨w5.heap.size, 0, none⟩) 1 1)) = w8 at HX7 ⊢
  have HX5 := As.mk HX7.out
  have d0 := MB.c0 HX5.out.r; have d1 := MB.c1 HX5.out.r; have d2 := MB.c2 HX5.out.r; have d3 := MB.c3 HX5.out.r
  have f0 := MB.fz HX5.out.r 0; have f1 := MB.fz HX5.out.r 1; have f2 := MB.fz HX5.out.r 2; have f3 := MB.fz HX5.out.r 3
  have c0 := MB.c0 HX5.out.a.mb; have c1 := MB.c1 HX5.out.a.mb; have c2 := MB.c2 HX5.out.a.mb; have c3 := MB.c3 HX5.out.a.mb
  go_wp2_with (go_at_call 172; refine (sdrop_c HX5.out.mw 1 (by show 1 ≤ m.stack.length; omega) (by rw [setKids_len]; omega) (by show m.stack.length ≤ _; omega) (by show m.memo.length ≤ _; omega)).mono ?_; rintro e w9 hr; obtain ⟨l9, B1, n1, e1, B2, n2, e2, B3, n3, e3, rfl, hv, hf⟩ := machS_of hr; have HV9 := As.mk hv; have HF9 := As.mk hf; have hb := hf.blk HX5.out.r (fun e => e.2 HX5.out.x2); have d0 := MB.c0 hb; have d1 := MB.c1 hb; have d2 := MB.c2 hb; have d3 := MB.c3 hb; have f0 := MB.fz hb 0; have f1 := MB.fz hb 1; have f2 := MB.fz hb 2; have f3 := MB.fz hb 3; clear hr hv hf hb)
  have ho := HX5.out.res HV9.out HF9.out
  refine bodyPost_ret (results_cellt rfl _ _ (g + 1 + 1) _ rfl (loadM ho.2.2)) rfl ?_
  refine ⟨_, _, _, _, _, _, _, _, _, _, rfl, ho.2.1, fun m' hm => ?_⟩
  rw [← HA.out] at hm
  injection hm with hm
  subst hm
  exact ⟨rfl, _, ho.1⟩
set_option maxRecDepth 100000 in
set_option maxHeartbeats 4000000 in
theorem stepTop_11a {B Bd w l vN vS vM m} (h : MW B w l vN vS vM m) (hok : okM Bd m) (hBd : Bd ≤ 1000000) (arg : Int) (ht : 0 ≤ topP m 0) (hb : topP m 1 < 0) :
    Calls Try.prog 149 #[.agg #[vN, vS, vM, .bool m.done], .agg #[.int .i64 11, .int .i64 arg]] w (StepX B (none) w) := by
  obtain ⟨AN, cN, AS, cS, AM, cM, rfl, rfl, rfl, hrm, hcS⟩ := h.rm (by have := hok.nl; omega) (by have := hok.sl; omega) (by have := hok.ml; omega)
  have HX := As.mk (h.box (W := ((w.alloc (.cells #[.slice AN m.nodes.length cN, .slice AS m.stack.length cS, .slice AM m.memo.length cM, .bool m.done] 64)).alloc (.cells #[.int .i64 11, .int .i64 arg] 82)).alloc (.cells #[.slice none 0 0, .slice none 0 0, .slice none 0 0, .bool false] 64)) (fun k => k = w.heap.size ∨ k = w.heap.size + 1 ∨ k = w.heap.size + 1 + 1) (g := w.heap.size) (g2 := w.heap.size + 1 + 1) ((((Ext.rf w).al _).al _).al _) (((((Ext.rf _).al _)).al _).blk (al_new _ _)) (by have := al_new ((w.alloc (.cells #[.slice AN m.nodes.length cN, .slice AS m.stack.length cS, .slice AM m.memo.length cM, .bool m.done] 64)).alloc (.cells #[.int .i64 11, .int .i64 arg] 82)) (.cells #[.slice none 0 0, .slice none 0 0, .slice none 0 0, .bool false] 64); rw [al_size, al_size] at this; exact this) (.inl rfl) (.inr (.inr rfl)) (by omega) (fun k hk => by rw [al_size, al_size, al_size]; omega))
  have HO := As.mk (show (((w.alloc (.cells #[.slice AN m.nodes.length cN, .slice AS m.stack.length cS, .slice AM m.memo.length cM, .bool m.done] 64)).alloc (.cells #[.int .i64 11, .int .i64 arg] 82)).alloc (.cells #[.slice none 0 0, .slice none 0 0, .slice none 0 0, .bool false] 64)).heap[w.heap.size + 1]? = some (.cells #[.int .i64 11, .int .i64 arg] 82 (0, 0)) from by have := ((Ext.rf _).al (.cells #[.slice none 0 0, .slice none 0 0, .slice none 0 0, .bool false] 64)).blk (al_new (w.alloc (.cells #[.slice AN m.nodes.length cN, .slice AS m.stack.length cS, .slice AM m.memo.length cM, .bool m.done] 64)) (.cells #[.int .i64 11, .int .i64 arg] 82)); rw [al_size] at this; exact this)
  have HRM := As.mk (RdI.ext hrm.s ((((Ext.rf w).al (.cells #[.slice AN m.nodes.length cN, .slice AS m.stack.length cS, .slice AM m.memo.length cM, .bool m.done] 64)).al (.cells #[.int .i64 11, .int .i64 arg] 82)).al (.cells #[.slice none 0 0, .slice none 0 0, .slice none 0 0, .bool false] 64)))
  have HRN := As.mk (RdN.ext hrm.n ((((Ext.rf w).al (.cells #[.slice AN m.nodes.length cN, .slice AS m.stack.length cS, .slice AM m.memo.length cM, .bool m.done] 64)).al (.cells #[.int .i64 11, .int .i64 arg] 82)).al (.cells #[.slice none 0 0, .slice none 0 0, .slice none 0 0, .bool false] 64)))
  have HOK := As.mk hok
  have q1 := hok.nl
  have q2 := hok.sl
  have q3 : m.memo.length ≤ 1000000 := by have := hok.ml; omega
  clear h hrm hok
  go_enter Try.func149, Try.ntmps149
  go_upto_region 1 with fail
  obtain ⟨w1, hw1⟩ : ∃ w1, w1 = ((w.alloc (.cells #[.slice AN m.nodes.length cN, .slice AS m.stack.length cS, .slice AM m.memo.length cM, .bool m.done] 64)).alloc (.cells #[.int .i64 11, .int .i64 arg] 82)).alloc (.cells #[.slice none 0 0, .slice none 0 0, .slice none 0 0, .bool false] 64) := ⟨_, rfl⟩
  rw [← hw1] at HX HO HRM HRN ⊢
  clear hw1
  obtain ⟨g, hg⟩ : ∃ g, g = w.heap.size := ⟨_, rfl⟩
  rw [← hg] at HX HO ⊢
  clear hg
  obtain ⟨a, ha0⟩ : ∃ a, a = topP m 0 := ⟨_, rfl⟩
  obtain ⟨b, hb0⟩ : ∃ b, b = topP m 1 := ⟨_, rfl⟩
  obtain ⟨c, hc0⟩ : ∃ c, c = topP m 2 := ⟨_, rfl⟩
  have HA := As.mk ha0
  have HB := As.mk hb0
  have HC := As.mk hc0
  have hpos : 0 ≤ a := by rw [ha0]; exact ht
  have hsn : 1 ≤ m.stack.length := topP_len ht
  have hneg : b < 0 := by rw [hb0]; exact hb
  clear ha0 hb0 hc0
  have c0 := MB.c0 HX.out.a.mb; have c1 := MB.c1 HX.out.a.mb; have c2 := MB.c2 HX.out.a.mb; have c3 := MB.c3 HX.out.a.mb
  go_upto_region 2 with (go_at_call 173; refine (stop_c _ _ _ _ _ _ _ _ m 0 w1 HRM.out (by omega)).mono ?_; rw [← HA.out]; rintro e w2 ⟨rfl, hx⟩; have HE2 := As.mk hx; clear hx)
  replace c0 := HE2.out.cellOf c0; replace c1 := HE2.out.cellOf c1; replace c2 := HE2.out.cellOf c2; replace c3 := HE2.out.cellOf c3
  go_upto_region 3 with (go_at_call 173; refine (stop_c _ _ _ _ _ _ _ _ m 1 w2 (HRM.out.ext HE2.out) (by omega)).mono ?_; rw [← HB.out]; rintro e w3 ⟨rfl, hx⟩; have HE3 := As.mk (HE2.out.trans hx); have HF3 := As.mk hx; clear hx)
  replace c0 := HF3.out.cellOf c0; replace c1 := HF3.out.cellOf c1; replace c2 := HF3.out.cellOf c2; replace c3 := HF3.out.cellOf c3
  clear HF3
  go_upto_region 4 with (go_at_call 173; refine (stop_c _ _ _ _ _ _ _ _ m 2 w3 (HRM.out.ext HE3.out) (by omega)).mono ?_; rw [← HC.out]; rintro e w4 ⟨rfl, hx⟩; have HE4 := As.mk (HE3.out.trans hx); clear hx)
  clear c0 c1 c2 c3 HE2 HE3
  have hx4 := HX.out.ext HE4.out
  have ho4 := HE4.out.blk HO.out
  have hrn4 := HRN.out.ext HE4.out
  clear HX HO HRM HRN HE4
  have HX := As.mk hx4
  have HO := As.mk ho4
  have HRN := As.mk hrn4
  clear hx4 ho4 hrn4
  have c0 := MB.c0 HX.out.a.mb; have c1 := MB.c1 HX.out.a.mb; have c2 := MB.c2 HX.out.a.mb; have c3 := MB.c3 HX.out.a.mb
  have o0 : w4.cell? ⟨g + 1, 0, none⟩ = some (.int .i64 11) := by simp [World.cell?, HO.out]
  have o1 : w4.cell? ⟨g + 1, 1, none⟩ = some (.int .i64 arg) := by simp [World.cell?, HO.out]
  have d0 := MB.c0 HX.out.r; have d1 := MB.c1 HX.out.r; have d2 := MB.c2 HX.out.r; have d3 := MB.c3 HX.out.r
  have f0 := MB.fz HX.out.r 0; have f1 := MB.fz HX.out.r 1; have f2 := MB.fz HX.out.r 2; have f3 := MB.fz HX.out.r 3
  go_wp2_with fail
  have ho := HX.out.out
  refine bodyPost_ret (results_cellt rfl _ _ (g + 1 + 1) _ rfl (loadM ho.2.2)) rfl ?_
  exact ⟨_, _, _, _, _, _, _, _, _, _, rfl, ho.2.1, fun _ hm => nomatch hm⟩
set_option maxRecDepth 100000 in
set_option maxHeartbeats 4000000 in
theorem stepTop_11b {B Bd w l vN vS vM m} (h : MW B w l vN vS vM m) (hok : okM Bd m) (hBd : Bd ≤ 1000000) (arg : Int) (ht : 0 ≤ topP m 0) (hb : 0 ≤ topP m 1) (hk : kindP m (topP m 2) ≠ 4) :
    Calls Try.prog 149 #[.agg #[vN, vS, vM, .bool m.done], .agg #[.int .i64 11, .int .i64 arg]] w (StepX B (none) w) := by
  obtain ⟨AN, cN, AS, cS, AM, cM, rfl, rfl, rfl, hrm, hcS⟩ := h.rm (by have := hok.nl; omega) (by have := hok.sl; omega) (by have := hok.ml; omega)
  have HX := As.mk (h.box (W := ((w.alloc (.cells #[.slice AN m.nodes.length cN, .slice AS m.stack.length cS, .slice AM m.memo.length cM, .bool m.done] 64)).alloc (.cells #[.int .i64 11, .int .i64 arg] 82)).alloc (.cells #[.slice none 0 0, .slice none 0 0, .slice none 0 0, .bool false] 64)) (fun k => k = w.heap.size ∨ k = w.heap.size + 1 ∨ k = w.heap.size + 1 + 1) (g := w.heap.size) (g2 := w.heap.size + 1 + 1) ((((Ext.rf w).al _).al _).al _) (((((Ext.rf _).al _)).al _).blk (al_new _ _)) (by have := al_new ((w.alloc (.cells #[.slice AN m.nodes.length cN, .slice AS m.stack.length cS, .slice AM m.memo.length cM, .bool m.done] 64)).alloc (.cells #[.int .i64 11, .int .i64 arg] 82)) (.cells #[.slice none 0 0, .slice none 0 0, .slice none 0 0, .bool false] 64); rw [al_size, al_size] at this; exact this) (.inl rfl) (.inr (.inr rfl)) (by omega) (fun k hk => by rw [al_size, al_size, al_size]; omega))
  have HO := As.mk (show (((w.alloc (.cells #[.slice AN m.nodes.length cN, .slice AS m.stack.length cS, .slice AM m.memo.length cM, .bool m.done] 64)).alloc (.cells #[.int .i64 11, .int .i64 arg] 82)).alloc (.cells #[.slice none 0 0, .slice none 0 0, .slice none 0 0, .bool false] 64)).heap[w.heap.size + 1]? = some (.cells #[.int .i64 11, .int .i64 arg] 82 (0, 0)) from by have := ((Ext.rf _).al (.cells #[.slice none 0 0, .slice none 0 0, .slice none 0 0, .bool false] 64)).blk (al_new (w.alloc (.cells #[.slice AN m.nodes.length cN, .slice AS m.stack.length cS, .slice AM m.memo.length cM, .bool m.done] 64)) (.cells #[.int .i64 11, .int .i64 arg] 82)); rw [al_size] at this; exact this)
  have HRM := As.mk (RdI.ext hrm.s ((((Ext.rf w).al (.cells #[.slice AN m.nodes.length cN, .slice AS m.stack.length cS, .slice AM m.memo.length cM, .bool m.done] 64)).al (.cells #[.int .i64 11, .int .i64 arg] 82)).al (.cells #[.slice none 0 0, .slice none 0 0, .slice none 0 0, .bool false] 64)))
  have HRN := As.mk (RdN.ext hrm.n ((((Ext.rf w).al (.cells #[.slice AN m.nodes.length cN, .slice AS m.stack.length cS, .slice AM m.memo.length cM, .bool m.done] 64)).al (.cells #[.int .i64 11, .int .i64 arg] 82)).al (.cells #[.slice none 0 0, .slice none 0 0, .slice none 0 0, .bool false] 64)))
  have HOK := As.mk hok
  have q1 := hok.nl
  have q2 := hok.sl
  have q3 : m.memo.length ≤ 1000000 := by have := hok.ml; omega
  clear h hrm hok
  go_enter Try.func149, Try.ntmps149
  go_upto_region 1 with fail
  obtain ⟨w1, hw1⟩ : ∃ w1, w1 = ((w.alloc (.cells #[.slice AN m.nodes.length cN, .slice AS m.stack.length cS, .slice AM m.memo.length cM, .bool m.done] 64)).alloc (.cells #[.int .i64 11, .int .i64 arg] 82)).alloc (.cells #[.slice none 0 0, .slice none 0 0, .slice none 0 0, .bool false] 64) := ⟨_, rfl⟩
  rw [← hw1] at HX HO HRM HRN ⊢
  clear hw1
  obtain ⟨g, hg⟩ : ∃ g, g = w.heap.size := ⟨_, rfl⟩
  rw [← hg] at HX HO ⊢
  clear hg
  obtain ⟨a, ha0⟩ : ∃ a, a = topP m 0 := ⟨_, rfl⟩
  obtain ⟨b, hb0⟩ : ∃ b, b = topP m 1 := ⟨_, rfl⟩
  obtain ⟨c, hc0⟩ : ∃ c, c = topP m 2 := ⟨_, rfl⟩
  have HA := As.mk ha0
  have HB := As.mk hb0
  have HC := As.mk hc0
  have hpos : 0 ≤ a := by rw [ha0]; exact ht
  have hsn : 1 ≤ m.stack.length := topP_len ht
  have hpb : 0 ≤ b := by rw [hb0]; exact hb
  have HLC := As.mk (show c < m.nodes.length by rw [hc0]; exact topP_lm HOK.out 2)
  rw [← hc0] at hk
  obtain ⟨kb, hkb⟩ : ∃ kb, kb = kindP m c := ⟨_, rfl⟩
  rw [← hkb] at hk
  have HKB := As.mk hkb.symm
  clear hkb
  clear ha0 hb0 hc0
  have c0 := MB.c0 HX.out.a.mb; have c1 := MB.c1 HX.out.a.mb; have c2 := MB.c2 HX.out.a.mb; have c3 := MB.c3 HX.out.a.mb
  go_upto_region 2 with (go_at_call 173; refine (stop_c _ _ _ _ _ _ _ _ m 0 w1 HRM.out (by omega)).mono ?_; rw [← HA.out]; rintro e w2 ⟨rfl, hx⟩; have HE2 := As.mk hx; clear hx)
  replace c0 := HE2.out.cellOf c0; replace c1 := HE2.out.cellOf c1; replace c2 := HE2.out.cellOf c2; replace c3 := HE2.out.cellOf c3
  go_upto_region 3 with (go_at_call 173; refine (stop_c _ _ _ _ _ _ _ _ m 1 w2 (HRM.out.ext HE2.out) (by omega)).mono ?_; rw [← HB.out]; rintro e w3 ⟨rfl, hx⟩; have HE3 := As.mk (HE2.out.trans hx); have HF3 := As.mk hx; clear hx)
  replace c0 := HF3.out.cellOf c0; replace c1 := HF3.out.cellOf c1; replace c2 := HF3.out.cellOf c2; replace c3 := HF3.out.cellOf c3
  clear HF3
  go_upto_region 4 with (go_at_call 173; refine (stop_c _ _ _ _ _ _ _ _ m 2 w3 (HRM.out.ext HE3.out) (by omega)).mono ?_; rw [← HC.out]; rintro e w4 ⟨rfl, hx⟩; have HE4 := As.mk (HE3.out.trans hx); clear hx)
  clear c0 c1 c2 c3 HE2 HE3
  have hx4 := HX.out.ext HE4.out
  have ho4 := HE4.out.blk HO.out
  have hrn4 := HRN.out.ext HE4.out
  clear HX HO HRM HRN HE4
  have HX := As.mk hx4
  have HO := As.mk ho4
  have HRN := As.mk hrn4
  clear hx4 ho4 hrn4
  have c0 := MB.c0 HX.out.a.mb; have c1 := MB.c1 HX.out.a.mb; have c2 := MB.c2 HX.out.a.mb; have c3 := MB.c3 HX.out.a.mb
  have o0 : w4.cell? ⟨g + 1, 0, none⟩ = some (.int .i64 11) := by simp [World.cell?, HO.out]
  have o1 : w4.cell? ⟨g + 1, 1, none⟩ = some (.int .i64 arg) := by simp [World.cell?, HO.out]
  go_wp2_with (go_at_call 174; refine (skindOf_c _ _ _ _ _ _ _ _ m c w4 HRN.out HLC.out).mono ?_; rw [HKB.out]; rintro e w5 ⟨rfl, hx5⟩; have HE5 := As.mk hx5; clear hx5; have HX5 := As.mk (HX.out.ext HE5.out); have d0 := MB.c0 HX5.out.r; have d1 := MB.c1 HX5.out.r; have d2 := MB.c2 HX5.out.r; have d3 := MB.c3 HX5.out.r; have f0 := MB.fz HX5.out.r 0; have f1 := MB.fz HX5.out.r 1; have f2 := MB.fz HX5.out.r 2; have f3 := MB.fz HX5.out.r 3; have c0 := MB.c0 HX5.out.a.mb; have c1 := MB.c1 HX5.out.a.mb; have c2 := MB.c2 HX5.out.a.mb; have c3 := MB.c3 HX5.out.a.mb)
  have ho := HX5.out.out
  refine bodyPost_ret (results_cellt rfl _ _ (g + 1 + 1) _ rfl (loadM ho.2.2)) rfl ?_
  exact ⟨_, _, _, _, _, _, _, _, _, _, rfl, ho.2.1, fun _ hm => nomatch hm⟩
set_option maxRecDepth 100000 in
set_option maxHeartbeats 4000000 in
theorem stepTop_11c {B Bd w l vN vS vM m} (h : MW B w l vN vS vM m) (hok : okM Bd m) (hBd : Bd ≤ 1000000) (arg : Int) (ht : 0 ≤ topP m 0) (x y : Nat) (hb : topP m 1 = y) (hy : y < m.nodes.length) (hc : topP m 2 = x) (hx : x < m.nodes.length) (hk : (nd m x).kind = 4) (hyk : ¬ (m.nodes[y].kind = 0 ∨ m.nodes[y].kind = 1)) :
    Calls Try.prog 149 #[.agg #[vN, vS, vM, .bool m.done], .agg #[.int .i64 11, .int .i64 arg]] w (StepX B (none) w) := by
  obtain ⟨AN, cN, AS, cS, AM, cM, rfl, rfl, rfl, hrm, hcS⟩ := h.rm (by have := hok.nl; omega) (by have := hok.sl; omega) (by have := hok.ml; omega)
  have HX := As.mk (h.box (W := ((w.alloc (.cells #[.slice AN m.nodes.length cN, .slice AS m.stack.length cS, .slice AM m.memo.length cM, .bool m.done] 64)).alloc (.cells #[.int .i64 11, .int .i64 arg] 82)).alloc (.cells #[.slice none 0 0, .slice none 0 0, .slice none 0 0, .bool false] 64)) (fun k => k = w.heap.size ∨ k = w.heap.size + 1 ∨ k = w.heap.size + 1 + 1) (g := w.heap.size) (g2 := w.heap.size + 1 + 1) ((((Ext.rf w).al _).al _).al _) (((((Ext.rf _).al _)).al _).blk (al_new _ _)) (by have := al_new ((w.alloc (.cells #[.slice AN m.nodes.length cN, .slice AS m.stack.length cS, .slice AM m.memo.length cM, .bool m.done] 64)).alloc (.cells #[.int .i64 11, .int .i64 arg] 82)) (.cells #[.slice none 0 0, .slice none 0 0, .slice none 0 0, .bool false] 64); rw [al_size, al_size] at this; exact this) (.inl rfl) (.inr (.inr rfl)) (by omega) (fun k hk => by rw [al_size, al_size, al_size]; omega))
  have HO := As.mk (show (((w.alloc (.cells #[.slice AN m.nodes.length cN, .slice AS m.stack.length cS, .slice AM m.memo.length cM, .bool m.done] 64)).alloc (.cells #[.int .i64 11, .int .i64 arg] 82)).alloc (.cells #[.slice none 0 0, .slice none 0 0, .slice none 0 0, .bool false] 64)).heap[w.heap.size + 1]? = some (.cells #[.int .i64 11, .int .i64 arg] 82 (0, 0)) from by have := ((Ext.rf _).al (.cells #[.slice none 0 0, .slice none 0 0, .slice none 0 0, .bool false] 64)).blk (al_new (w.alloc (.cells #[.slice AN m.nodes.length cN, .slice AS m.stack.length cS, .slice AM m.memo.length cM, .bool m.done] 64)) (.cells #[.int .i64 11, .int .i64 arg] 82)); rw [al_size] at this; exact this)
  have HRM := As.mk (RdI.ext hrm.s ((((Ext.rf w).al (.cells #[.slice AN m.nodes.length cN, .slice AS m.stack.length cS, .slice AM m.memo.length cM, .bool m.done] 64)).al (.cells #[.int .i64 11, .int .i64 arg] 82)).al (.cells #[.slice none 0 0, .slice none 0 0, .slice none 0 0, .bool false] 64)))
  have HRN := As.mk (RdN.ext hrm.n ((((Ext.rf w).al (.cells #[.slice AN m.nodes.length cN, .slice AS m.stack.length cS, .slice AM m.memo.length cM, .bool m.done] 64)).al (.cells #[.int .i64 11, .int .i64 arg] 82)).al (.cells #[.slice none 0 0, .slice none 0 0, .slice none 0 0, .bool false] 64)))
  have HOK := As.mk hok
  obtain ⟨gN, cN', hv, _, _⟩ := HX.out.a.hd (by omega) (by have := hok.nl; omega)
  injection hv with hv1 hv2 hv3
  subst hv1 hv3
  have q1 := hok.nl
  have q2 := hok.sl
  have q3 : m.memo.length ≤ 1000000 := by have := hok.ml; omega
  clear h hrm hok
  go_enter Try.func149, Try.ntmps149
  go_upto_region 1 with fail
  obtain ⟨w1, hw1⟩ : ∃ w1, w1 = ((w.alloc (.cells #[.slice (some ⟨gN, 0, none⟩) m.nodes.length cN, .slice AS m.stack.length cS, .slice AM m.memo.length cM, .bool m.done] 64)).alloc (.cells #[.int .i64 11, .int .i64 arg] 82)).alloc (.cells #[.slice none 0 0, .slice none 0 0, .slice none 0 0, .bool false] 64) := ⟨_, rfl⟩
  rw [← hw1] at HX HO HRM HRN ⊢
  clear hw1
  obtain ⟨g, hg⟩ : ∃ g, g = w.heap.size := ⟨_, rfl⟩
  rw [← hg] at HX HO ⊢
  clear hg
  obtain ⟨a, ha0⟩ : ∃ a, a = topP m 0 := ⟨_, rfl⟩
  have hb0 : (y : Int) = topP m 1 := hb.symm
  have hc0 : (x : Int) = topP m 2 := hc.symm
  have HA := As.mk ha0
  have HB := As.mk hb0
  have HC := As.mk hc0
  have hpos : 0 ≤ a := by rw [ha0]; exact ht
  have hsn : 1 ≤ m.stack.length := topP_len ht
  have hsn3 : 3 ≤ m.stack.length := topP_len (by rw [hc]; exact Int.natCast_nonneg x)
  have HKP := As.mk (show kindP m x = 4 by unfold kindP; rw [if_neg (by omega), hk])
  have q4 : (x : Int) < m.nodes.length := by omega
  have q5 : (0 : Int) ≤ x := by omega
  have q6 : (y : Int) < m.nodes.length := by omega
  have q7 : (0 : Int) ≤ y := by omega
  clear hb hc
  clear ha0 hb0 hc0
  have c0 := MB.c0 HX.out.a.mb; have c1 := MB.c1 HX.out.a.mb; have c2 := MB.c2 HX.out.a.mb; have c3 := MB.c3 HX.out.a.mb
  go_upto_region 2 with (go_at_call 173; refine (stop_c _ _ _ _ _ _ _ _ m 0 w1 HRM.out (by omega)).mono ?_; rw [← HA.out]; rintro e w2 ⟨rfl, hx⟩; have HE2 := As.mk hx; clear hx)
  replace c0 := HE2.out.cellOf c0; replace c1 := HE2.out.cellOf c1; replace c2 := HE2.out.cellOf c2; replace c3 := HE2.out.cellOf c3
  go_upto_region 3 with (go_at_call 173; refine (stop_c _ _ _ _ _ _ _ _ m 1 w2 (HRM.out.ext HE2.out) (by omega)).mono ?_; rw [← HB.out]; rintro e w3 ⟨rfl, hx⟩; have HE3 := As.mk (HE2.out.trans hx); have HF3 := As.mk hx; clear hx)
  replace c0 := HF3.out.cellOf c0; replace c1 := HF3.out.cellOf c1; replace c2 := HF3.out.cellOf c2; replace c3 := HF3.out.cellOf c3
  clear HF3
  go_upto_region 4 with (go_at_call 173; refine (stop_c _ _ _ _ _ _ _ _ m 2 w3 (HRM.out.ext HE3.out) (by omega)).mono ?_; rw [← HC.out]; rintro e w4 ⟨rfl, hx⟩; have HE4 := As.mk (HE3.out.trans hx); clear hx)
  clear c0 c1 c2 c3 HE2 HE3
  have hx4 := HX.out.ext HE4.out
  have ho4 := HE4.out.blk HO.out
  have hrn4 := HRN.out.ext HE4.out
  clear HX HO HRM HRN HE4
  have HX := As.mk hx4
  have HO := As.mk ho4
  have HRN := As.mk hrn4
  clear hx4 ho4 hrn4
  have c0 := MB.c0 HX.out.a.mb; have c1 := MB.c1 HX.out.a.mb; have c2 := MB.c2 HX.out.a.mb; have c3 := MB.c3 HX.out.a.mb
  have o0 : w4.cell? ⟨g + 1, 0, none⟩ = some (.int .i64 11) := by simp [World.cell?, HO.out]
  have o1 : w4.cell? ⟨g + 1, 1, none⟩ = some (.int .i64 arg) := by simp [World.cell?, HO.out]
  obtain ⟨KY, cY, y0, y1, y2, -, -⟩ := RdN.cells HRN.out y hy
  obtain ⟨yk, hyk0⟩ : ∃ yk, yk = m.nodes[y].kind := ⟨_, rfl⟩
  obtain ⟨yv, hyv0⟩ : ∃ yv, yv = m.nodes[y].val := ⟨_, rfl⟩
  obtain ⟨yn, hyn0⟩ : ∃ yn, yn = m.nodes[y].kids.length := ⟨_, rfl⟩
  rw [← hyk0] at y0 hyk; rw [← hyv0] at y1; rw [← hyn0] at y2
  have HCK := As.mk (show decide (yk = 0 ∨ yk = 1) = false by simpa using hyk)
  clear hyk0 hyv0 hyn0 hyk
  go_wp2_with (first | (go_at_call 174; refine (skindOf_c _ _ _ _ _ _ _ _ m x w4 HRN.out (by omega)).mono ?_; rw [HKP.out]; rintro e w5 ⟨rfl, hx5⟩; have HE5 := As.mk hx5; clear hx5; have h0 := HE5.out.cellOf c0; have z0 := HE5.out.cellOf y0; have z1 := HE5.out.cellOf y1; have z2 := HE5.out.cellOf y2) | (go_at_call 145; refine (sisKey_c _ _ _ _).mono ?_; rw [HCK.out]; rintro e w6 ⟨rfl, hx6⟩; have HE6 := As.mk (HE5.out.trans hx6); clear hx6; have HX5 := As.mk (HX.out.ext HE6.out); have d0 := MB.c0 HX5.out.r; have d1 := MB.c1 HX5.out.r; have d2 := MB.c2 HX5.out.r; have d3 := MB.c3 HX5.out.r; have f0 := MB.fz HX5.out.r 0; have f1 := MB.fz HX5.out.r 1; have f2 := MB.fz HX5.out.r 2; have f3 := MB.fz HX5.out.r 3; have c0 := MB.c0 HX5.out.a.mb; have c1 := MB.c1 HX5.out.a.mb; have c2 := MB.c2 HX5.out.a.mb; have c3 := MB.c3 HX5.out.a.mb))
  have ho := HX5.out.out
  refine bodyPost_ret (results_cellt rfl _ _ (g + 1 + 1) _ rfl (loadM ho.2.2)) rfl ?_
  exact ⟨_, _, _, _, _, _, _, _, _, _, rfl, ho.2.1, fun _ hm => nomatch hm⟩
set_option maxRecDepth 100000 in
set_option maxHeartbeats 4000000 in
theorem stepTop_11 {B Bd w l vN vS vM m} (h : MW B w l vN vS vM m) (hok : okM Bd m) (hBd : Bd ≤ 1000000) (arg : Int) (ht : 0 ≤ topP m 0) (x y : Nat) (hb : topP m 1 = y) (hy : y < m.nodes.length) (hc : topP m 2 = x) (hx : x < m.nodes.length) (hk : (nd m x).kind = 4) (hyk : (m.nodes[y].kind = 0 ∨ m.nodes[y].kind = 1)) :
    Calls Try.prog 149 #[.agg #[vN, vS, vM, .bool m.done], .agg #[.int .i64 11, .int .i64 arg]] w (StepX B (some (drop (setKids m x (put1 m.nodes (nd m x).kids y (topP m 0))) 2)) w) := by
  obtain ⟨AN, cN, AS, cS, AM, cM, rfl, rfl, rfl, hrm, hcS⟩ := h.rm (by have := hok.nl; omega) (by have := hok.sl; omega) (by have := hok.ml; omega)
  have HX := As.mk (h.box (W := ((w.alloc (.cells #[.slice AN m.nodes.length cN, .slice AS m.stack.length cS, .slice AM m.memo.length cM, .bool m.done] 64)).alloc (.cells #[.int .i64 11, .int .i64 arg] 82)).alloc (.cells #[.slice none 0 0, .slice none 0 0, .slice none 0 0, .bool false] 64)) (fun k => k = w.heap.size ∨ k = w.heap.size + 1 ∨ k = w.heap.size + 1 + 1) (g := w.heap.size) (g2 := w.heap.size + 1 + 1) ((((Ext.rf w).al _).al _).al _) (((((Ext.rf _).al _)).al _).blk (al_new _ _)) (by have := al_new ((w.alloc (.cells #[.slice AN m.nodes.length cN, .slice AS m.stack.length cS, .slice AM m.memo.length cM, .bool m.done] 64)).alloc (.cells #[.int .i64 11, .int .i64 arg] 82)) (.cells #[.slice none 0 0, .slice none 0 0, .slice none 0 0, .bool false] 64); rw [al_size, al_size] at this; exact this) (.inl rfl) (.inr (.inr rfl)) (by omega) (fun k hk => by rw [al_size, al_size, al_size]; omega))
  have HO := As.mk (show (((w.alloc (.cells #[.slice AN m.nodes.length cN, .slice AS m.stack.length cS, .slice AM m.memo.length cM, .bool m.done] 64)).alloc (.cells #[.int .i64 11, .int .i64 arg] 82)).alloc (.cells #[.slice none 0 0, .slice none 0 0, .slice none 0 0, .bool false] 64)).heap[w.heap.size + 1]? = some (.cells #[.int .i64 11, .int .i64 arg] 82 (0, 0)) from by have := ((Ext.rf _).al (.cells #[.slice none 0 0, .slice none 0 0, .slice none 0 0, .bool false] 64)).blk (al_new (w.alloc (.cells #[.slice AN m.nodes.length cN, .slice AS m.stack.length cS, .slice AM m.memo.length cM, .bool m.done] 64)) (.cells #[.int .i64 11, .int .i64 arg] 82)); rw [al_size] at this; exact this)
  have HRM := As.mk (RdI.ext hrm.s ((((Ext.rf w).al (.cells #[.slice AN m.nodes.length cN, .slice AS m.stack.length cS, .slice AM m.memo.length cM, .bool m.done] 64)).al (.cells #[.int .i64 11, .int .i64 arg] 82)).al (.cells #[.slice none 0 0, .slice none 0 0, .slice none 0 0, .bool false] 64)))
  have HRN := As.mk (RdN.ext hrm.n ((((Ext.rf w).al (.cells #[.slice AN m.nodes.length cN, .slice AS m.stack.length cS, .slice AM m.memo.length cM, .bool m.done] 64)).al (.cells #[.int .i64 11, .int .i64 arg] 82)).al (.cells #[.slice none 0 0, .slice none 0 0, .slice none 0 0, .bool false] 64)))
  have HOK := As.mk hok
  obtain ⟨gN, cN', hv, _, _⟩ := HX.out.a.hd (by omega) (by have := hok.nl; omega)
  injection hv with hv1 hv2 hv3
  subst hv1 hv3
  obtain ⟨kids, hkids⟩ : ∃ kids, kids = m.nodes[x].kids := ⟨_, rfl⟩
  have hkb : kids.length ≤ 1000000 := by rw [hkids]; exact Nat.le_trans (hok.ki _ (List.getElem_mem hx)).1 hBd
  have hnd : nd m x = m.nodes[x] := by
    unfold nd
    rw [Int.toNat_natCast, List.getD_eq_getElem?_getD, List.getElem?_eq_getElem hx]; rfl
  have HKI := As.mk (show (∀ z ∈ kids, 0 ≤ z ∧ z < m.nodes.length) ∧ kids.length % 2 = 0 by rw [hkids]; have := hok.ki _ (List.getElem_mem hx); exact ⟨this.2.1, this.2.2 (by rw [← hnd]; exact hk)⟩)
  have HKD := As.mk hkids.symm
  clear hkids
  have q1 := hok.nl
  have q2 := hok.sl
  have q3 : m.memo.length ≤ 1000000 := by have := hok.ml; omega
  clear h hrm hok
  go_enter Try.func149, Try.ntmps149
  go_upto_region 1 with fail
  obtain ⟨w1, hw1⟩ : ∃ w1, w1 = ((w.alloc (.cells #[.slice (some ⟨gN, 0, none⟩) m.nodes.length cN, .slice AS m.stack.length cS, .slice AM m.memo.length cM, .bool m.done] 64)).alloc (.cells #[.int .i64 11, .int .i64 arg] 82)).alloc (.cells #[.slice none 0 0, .slice none 0 0, .slice none 0 0, .bool false] 64) := ⟨_, rfl⟩
  rw [← hw1] at HX HO HRM HRN ⊢
  clear hw1
  obtain ⟨g, hg⟩ : ∃ g, g = w.heap.size := ⟨_, rfl⟩
  rw [← hg] at HX HO ⊢
  clear hg
  obtain ⟨a, ha0⟩ : ∃ a, a = topP m 0 := ⟨_, rfl⟩
  have hb0 : (y : Int) = topP m 1 := hb.symm
  have hc0 : (x : Int) = topP m 2 := hc.symm
  have HA := As.mk ha0
  have HB := As.mk hb0
  have HC := As.mk hc0
  have hpos : 0 ≤ a := by rw [ha0]; exact ht
  have hsn : 1 ≤ m.stack.length := topP_len ht
  have hsn3 : 3 ≤ m.stack.length := topP_len (by rw [hc]; exact Int.natCast_nonneg x)
  have HKP := As.mk (show kindP m x = 4 by unfold kindP; rw [if_neg (by omega), hk])
  have q4 : (x : Int) < m.nodes.length := by omega
  have q5 : (0 : Int) ≤ x := by omega
  have q6 : (y : Int) < m.nodes.length := by omega
  have q7 : (0 : Int) ≤ y := by omega
  have HND := As.mk hnd
  clear hb hc hnd
  clear ha0 hb0 hc0
  have c0 := MB.c0 HX.out.a.mb; have c1 := MB.c1 HX.out.a.mb; have c2 := MB.c2 HX.out.a.mb; have c3 := MB.c3 HX.out.a.mb
  go_upto_region 2 with (go_at_call 173; refine (stop_c _ _ _ _ _ _ _ _ m 0 w1 HRM.out (by omega)).mono ?_; rw [← HA.out]; rintro e w2 ⟨rfl, hx⟩; have HE2 := As.mk hx; clear hx)
  replace c0 := HE2.out.cellOf c0; replace c1 := HE2.out.cellOf c1; replace c2 := HE2.out.cellOf c2; replace c3 := HE2.out.cellOf c3
  go_upto_region 3 with (go_at_call 173; refine (stop_c _ _ _ _ _ _ _ _ m 1 w2 (HRM.out.ext HE2.out) (by omega)).mono ?_; rw [← HB.out]; rintro e w3 ⟨rfl, hx⟩; have HE3 := As.mk (HE2.out.trans hx); have HF3 := As.mk hx; clear hx)
  replace c0 := HF3.out.cellOf c0; replace c1 := HF3.out.cellOf c1; replace c2 := HF3.out.cellOf c2; replace c3 := HF3.out.cellOf c3
  clear HF3
  go_upto_region 4 with (go_at_call 173; refine (stop_c _ _ _ _ _ _ _ _ m 2 w3 (HRM.out.ext HE3.out) (by omega)).mono ?_; rw [← HC.out]; rintro e w4 ⟨rfl, hx⟩; have HE4 := As.mk (HE3.out.trans hx); clear hx)
  clear c0 c1 c2 c3 HE2 HE3
  have hx4 := HX.out.ext HE4.out
  have ho4 := HE4.out.blk HO.out
  have hrn4 := HRN.out.ext HE4.out
  clear HX HO HRM HRN HE4
  have HX := As.mk hx4
  have HO := As.mk ho4
  have HRN := As.mk hrn4
  clear hx4 ho4 hrn4
  have c0 := MB.c0 HX.out.a.mb; have c1 := MB.c1 HX.out.a.mb; have c2 := MB.c2 HX.out.a.mb; have c3 := MB.c3 HX.out.a.mb
  have o0 : w4.cell? ⟨g + 1, 0, none⟩ = some (.int .i64 11) := by simp [World.cell?, HO.out]
  have o1 : w4.cell? ⟨g + 1, 1, none⟩ = some (.int .i64 arg) := by simp [World.cell?, HO.out]
  obtain ⟨KY, cY, y0, y1, y2, -, -⟩ := RdN.cells HRN.out y hy
  obtain ⟨yk, hyk0⟩ : ∃ yk, yk = m.nodes[y].kind := ⟨_, rfl⟩
  obtain ⟨yv, hyv0⟩ : ∃ yv, yv = m.nodes[y].val := ⟨_, rfl⟩
  obtain ⟨yn, hyn0⟩ : ∃ yn, yn = m.nodes[y].kids.length := ⟨_, rfl⟩
  rw [← hyk0] at y0 hyk; rw [← hyv0] at y1; rw [← hyn0] at y2
  have HCK := As.mk (show decide (yk = 0 ∨ yk = 1) = true by simpa using hyk)
  clear hyk0 hyv0 hyn0 hyk
  go_upto_region 21 with (first | (go_at_call 174; refine (skindOf_c _ _ _ _ _ _ _ _ m x w4 HRN.out (by omega)).mono ?_; rw [HKP.out]; rintro e w5 ⟨rfl, hx5⟩; have HE5 := As.mk hx5; clear hx5; have h0 := HE5.out.cellOf c0; have z0 := HE5.out.cellOf y0; have z1 := HE5.out.cellOf y1; have z2 := HE5.out.cellOf y2) | (go_at_call 145; refine (sisKey_c _ _ _ _).mono ?_; rw [HCK.out]; rintro e w6 ⟨rfl, hx6⟩; have HE6 := As.mk (HE5.out.trans hx6); clear hx6; have HX5 := As.mk (HX.out.ext HE6.out); have d0 := MB.c0 HX5.out.r; have d1 := MB.c1 HX5.out.r; have d2 := MB.c2 HX5.out.r; have d3 := MB.c3 HX5.out.r; have f0 := MB.fz HX5.out.r 0; have f1 := MB.fz HX5.out.r 1; have f2 := MB.fz HX5.out.r 2; have f3 := MB.fz HX5.out.r 3; have c0 := MB.c0 HX5.out.a.mb; have c1 := MB.c1 HX5.out.a.mb; have c2 := MB.c2 HX5.out.a.mb; have c3 := MB.c3 HX5.out.a.mb))
  go_wp2_with (first | (go_at_call 176; refine (sputItem_c HX5.out.mw x y a kids hx HKD.out hy HKI.out.1 HKI.out.2 (by omega) (by omega) (by omega) (by omega)).mono ?_; rintro e w7 hr; obtain ⟨l7, B1, n1, e1, B2, n2, e2, B3, n3, e3, rfl, hv, hf⟩ := machS_of hr; have HV7 := As.mk hv; have HF7 := As.mk hf; clear hr hv hf) | (go_at_call 172; refine (sdrop_c HV7.out 2 (by show 2 ≤ m.stack.length; omega) (by rw [setKids_len]; omega) (by show m.stack.length ≤ _; omega) (by show m.memo.length ≤ _; omega)).mono ?_; rintro e w9 hr; obtain ⟨l9, B4, n4, e4, B5, n5, e5, B6, n6, e6, rfl, hv, hf⟩ := machS_of hr; have HV9 := As.mk hv; have HF9 := As.mk (HF7.out.trans hf); have hb := HF9.out.blk HX5.out.r (fun e => e.2 HX5.out.x2); have d0 := MB.c0 hb; have d1 := MB.c1 hb; have d2 := MB.c2 hb; have d3 := MB.c3 hb; have f0 := MB.fz hb 0; have f1 := MB.fz hb 1; have f2 := MB.fz hb 2; have f3 := MB.fz hb 3; clear hr hv hf hb))
  have hkk : kids = (nd m x).kids := by rw [HND.out]; exact HKD.out.symm
  have ho := HX5.out.res HV9.out HF9.out
  refine bodyPost_ret (results_cellt rfl _ _ (g + 1 + 1) _ rfl (loadM ho.2.2)) rfl ?_
  refine ⟨_, _, _, _, _, _, _, _, _, _, rfl, ho.2.1, fun m' hm => ?_⟩
  rw [← HA.out, ← hkk] at hm
  injection hm with hm
  subst hm
  exact ⟨rfl, _, ho.1⟩
end Go.Proofs.Ytcodbpjaamggeaa.C
