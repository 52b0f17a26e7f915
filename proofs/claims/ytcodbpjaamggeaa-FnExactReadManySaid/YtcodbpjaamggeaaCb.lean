/- The methods of the machine: their contracts. More methods of the machine. The dictionaries of the machine. -/
import Derived.Test.YtcodbpjaamggeaaCa
import Derived.Test.YtcodbpjaamggeaaWr
set_option linter.unusedVariables false
set_option linter.unusedSimpArgs false
namespace Go.Proofs.Ytcodbpjaamggeaa.C
open Go.RowKit Go.Proofs.Ytcodbpjaamggeaa.W Go.Proofs.Ytcodbpjaamggeaa.P

/-- The machine's own cells. -/
abbrev MB (w : World) (g : Nat) (vN vS vM : Value) (d : Bool) : Prop := w.heap[g]? = some (.cells #[vN, vS, vM, .bool d] 64 (0, 0))
theorem MB.c0 {w : World} {g : Nat} {vN vS vM : Value} {d : Bool} (h : MB w g vN vS vM d) : w.cell? ⟨g, 0, none⟩ = some vN := by simp [World.cell?, h]
theorem MB.c1 {w : World} {g : Nat} {vN vS vM : Value} {d : Bool} (h : MB w g vN vS vM d) : w.cell? ⟨g, 1, none⟩ = some vS := by simp [World.cell?, h]
theorem MB.c2 {w : World} {g : Nat} {vN vS vM : Value} {d : Bool} (h : MB w g vN vS vM d) : w.cell? ⟨g, 2, none⟩ = some vM := by simp [World.cell?, h]
theorem MB.c3 {w : World} {g : Nat} {vN vS vM : Value} {d : Bool} (h : MB w g vN vS vM d) : w.cell? ⟨g, 3, none⟩ = some (.bool d) := by simp [World.cell?, h]
theorem MB.fz {w : World} {g : Nat} {vN vS vM : Value} {d : Bool} (h : MB w g vN vS vM d) (j : Nat) : w.frozen? ⟨g, j, none⟩ = false := by simp [World.frozen?, h]

theorem nodes_c (g : Nat) (vN vM : Value) (d : Bool) (A : Option Addr) (c : Nat) (s : List Int) (w : World) (hg : MB w g vN (.slice A s.length c) vM d) (hr : RdI w A s) :
    Calls Try.prog 153 #[.pointer (some ⟨g, 0, none⟩)] w fun e w' => e = .returned (.int .i64 (topN s)) ∧ ∃ n, w' = w.drewN n := by
  have hlen := hr.1
  have H := As.mk hr; clear hr
  have c1 := hg.c1
  have HG := As.mk hg; clear hg
  go_enter Try.func153, Try.ntmps153
  go_wp2
  go_loopw [3] (fun i wr => ∃ k : Nat, k ≤ s.length ∧ i = .int .i64 k ∧ As (k ≤ topN s) ∧ As (∃ n, wr = w.drewN n)) (fun i _ => s.length - (intOf i).toNat)
  case atStart => exact ⟨0, Nat.zero_le _, rfl, ⟨Nat.zero_le _⟩, ⟨0, rfl⟩⟩
  case round =>
    obtain ⟨k, hk, rfl, hn, ⟨nw, rfl⟩⟩ := hrel
    by_cases hlt : k < s.length
    · obtain ⟨ad, rfl, h1⟩ := H.out.2 (s.length - 1 - k) (by omega)
      have hx : ((s.length : Int) - 1 - (k : Int)).toNat = s.length - 1 - k := by omega
      rcases bcase ((0 : Int) ≤ s[s.length - 1 - k]) with h0 | h0
      · go_wp2_with fail
        go_quiet (fail)
        go_wp2
        go_roundw
        case rel => exact ⟨k + 1, by omega, by go_num, ⟨topN_step s k hn.out hlt h0⟩, ⟨_, by first | rfl | exact World.drewN_drewN ..⟩⟩
        case measure => simp [intOf]; omega
      · go_wp2_with fail
        go_quiet (fail)
        go_wp2
        go_ret
        exact ⟨ret_int (by rw [topN_end s k hn.out hlt (by simpa using h0)]), _, by first | rfl | exact World.drewN_drewN ..⟩
    · go_wp2_with fail
      go_quiet (fail)
      go_wp2
      go_ret
      exact ⟨ret_int (by have := topN_le s; have := hn.out; congr 1; omega), _, by first | rfl | exact World.drewN_drewN ..⟩

/-- The stack has grown, or a cell of the machine's has turned; no other row. -/
theorem MB.set {w : World} {g : Nat} {vN vS vM : Value} {d : Bool} (h : MB w g vN vS vM d) : (∀ u, MB (w.setCell ⟨g, 0, none⟩ u) g u vS vM d) ∧ (∀ u, MB (w.setCell ⟨g, 1, none⟩ u) g vN u vM d) ∧ (∀ b, MB (w.setCell ⟨g, 3, none⟩ (.bool b)) g vN vS vM b) := by
  have h' : w.heap[g]? = _ := h
  refine ⟨fun u => ?_, fun u => ?_, fun u => ?_⟩ <;> simp [MB, World.setCell, Array.getElem?_modify, h']
theorem IR.setG {w : World} {v : Value} {l : List Int} (h : IR w v l) {g : Nat} {vN vS vM : Value} {d : Bool} (hg : MB w g vN vS vM d) (j : Nat) (u : Value) : IR (w.setCell ⟨g, j, none⟩ u) v l :=
  h.keep (fun k hk => Below.heap_setCell _ _ _ _ (fun e => own_ne_blk h hg (by decide) (by rw [hk, e])))
theorem NR.setG {w : World} {v : Value} {l : List (Nd × Value)} (h : NR w v l) {g : Nat} {vN vS vM : Value} {d : Bool} (hg : MB w g vN vS vM d) (j : Nat) (u : Value) : NR (w.setCell ⟨g, j, none⟩ u) v l :=
  h.keep (fun k hk => Below.heap_setCell _ _ _ _ (fun e => hk.elim (fun hk => own_ne_blk h.1 hg (by decide) (by rw [hk, e])) (fun ⟨p, hp, hk⟩ => own_ne_blk (h.2 p hp).1 hg (by decide) (by rw [hk, e]))))
def PushPost (g : Nat) (vN vS vM : Value) (d : Bool) (s : List Int) (w w' : World) : Prop := ∃ vS', MB w' g vN vS' vM d ∧ IR w' vS' s ∧ Fr (fun k => k = g ∨ vS.ownBlock = some k) w w' ∧ FreshOr vS vS' w

theorem push_c (g : Nat) (vN vS vM : Value) (d : Bool) (s : List Int) (i : Int) (w : World) (hg : MB w g vN vS vM d) (hS : IR w vS s) (hl : s.length ≤ 1000000) :
    Calls Try.prog 155 #[.pointer (some ⟨g, 0, none⟩), .int .i64 i] w fun e w' => e = .returned (.bool (decide (s.length + 1 ≤ 300))) ∧ PushPost g vN vS vM d (s ++ [i]) w w' := by
  have c1 := hg.c1
  have f1 := hg.fz 1
  have HG := As.mk hg; clear hg
  have HS := As.mk hS; clear hS
  go_enter Try.func155, Try.ntmps155
  go_wp2_with ((at_builtin; refine app_int rfl _ _ rfl vS s i rfl rfl HS.out (by omega) ?_; intro gS cS w1 hap; have hg1 : MB w1 g vN vS vM d := hap.2.1.blk HG.out (fun e => own_ne_blk HS.out HG.out (by decide) e); have e1 := hg1.c1; have e2 := hg1.fz 1; have HP := As.mk hap; have HG1 := As.mk hg1; clear hap hg1))
  go_ret
  exact ⟨ret_bool (by simp; omega), _, HG1.out.set.2.1 _, IR.setG (by simpa using HP.out.1) HG1.out _ _, (HP.out.2.1.mono (fun _ h => .inr h)).trans (Fr.set _ _ (.inl rfl)), HP.out.2.2.1.elim (fun h => .inl (by rw [h]; rfl)) (fun h => .inr ⟨_, rfl, h⟩)⟩

/-- One more node, and it is pushed. -/
def MakePost (g : Nat) (vN vS vM : Value) (d : Bool) (l : List (Nd × Value)) (n : Nd) (s : List Int) (w w' : World) : Prop := ∃ vN' vS' vK, MB w' g vN' vS' vM d ∧ NR w' vN' (l ++ [(n, vK)]) ∧ IR w' vS' s ∧
  Fr (fun k => k = g ∨ vN.ownBlock = some k ∨ vS.ownBlock = some k) w w' ∧ FreshOr vN vN' w ∧ FreshOr vS vS' w ∧ Fresh vK w
theorem ifoI : ∃ i, Try.prog.info? 3 = some i ∧ i.size = 1 := by
  obtain ⟨i, h, h2⟩ := Option.map_eq_some_iff.1 infoI
  exact ⟨i, h, by simp only [Prod.mk.injEq] at h2; exact h2.2.1⟩
def TakePost (g : Nat) (vN : Value) (vM : Value) (d : Bool) (A : Option Addr) (c : Nat) (s : List Int) (n : Nat) (w : World) (e : Ending) (w' : World) : Prop :=
  ∃ A' c', e = .returned (.slice A' n c') ∧ n ≤ c' ∧ MB w' g vN (.slice A (s.length - n) c) vM d ∧ IR w' (.slice A' n c') (s.drop (s.length - n)) ∧ Fr (fun k => k = g) w w' ∧ Fresh (.slice A' n c') w
theorem take_c (g : Nat) (vN vM : Value) (d : Bool) (A : Option Addr) (c : Nat) (s : List Int) (n : Int) (w : World) (hg : MB w g vN (.slice A s.length c) vM d) (hr : RdI w A s) (h0 : 0 ≤ n) (hn : n ≤ s.length) (hc : s.length ≤ c) :
    Calls Try.prog 157 #[.pointer (some ⟨g, 0, none⟩), .int .i64 n] w (TakePost g vN vM d A c s n.toNat w) := by
  obtain ⟨m, rfl⟩ := Int.eq_ofNat_of_zero_le h0
  have hlen := hr.1
  have hmm : m ≤ s.length := by omega
  have c1 := hg.c1
  have f1 := hg.fz 1
  obtain ⟨inf, hi, hsz⟩ := ifoI
  have hsub : ((s.length : Int) - (m : Int)).toNat = s.length - m := by omega
  obtain ⟨A1, s1, s2, _⟩ := slice_from (P := Try.prog) 32 3 (by kernel_rfl) hi hsz A c s ((s.length : Int) - (m : Int)) (by omega) (by omega) hc
  have s3 := slice_to (P := Try.prog) 32 3 (by kernel_rfl) hi hsz A s.length c ((s.length : Int) - (m : Int)) (by omega) (by omega) hc
  rw [hsub] at s1 s2 s3
  have hl2 : s.length - (s.length - m) = (s.drop (s.length - m)).length := List.length_drop.symm
  rw [hl2] at s1
  obtain ⟨dl, hdl⟩ : ∃ dl, dl = s.drop (s.length - m) := ⟨_, rfl⟩
  rw [← hdl] at s1 s2 hl2
  have HD := As.mk hdl; clear hdl
  have HR := As.mk hr
  have HA := As.mk s2
  have HG := As.mk hg; clear hg hr s2 hi hsz hsub
  have HL := As.mk hl2; clear hl2
  go_enter Try.func157, Try.ntmps157
  go_wp2_with ((go_at_call 133; refine (clone_c _ _ _ _ (HA.out _ HR.out)).mono ?_; rintro e w1 ⟨A', c', rfl, hI, he, hf⟩; have hg1 : MB w1 g vN (.slice A s.length c) vM d := he.blk HG.out; have c1' := hg1.c1; have f1' := hg1.fz 1; have HI := As.mk hI; have HE := As.mk he; have HF := As.mk hf; have HG1 := As.mk hg1; clear hI he hf hg1))
  go_ret
  have hm' : m = dl.length := by have := HL.out; omega
  have hc' : dl.length ≤ c' := by
    obtain ⟨A2, c2, h1, h2, _⟩ := own_form HI.out
    injection h1 with _ _ h1
    omega
  subst hm'
  refine ⟨A', c', by simp, by simpa using hc', HG1.out.set.2.1 _, ?_, (Fr.ofExt HE.out).trans (Fr.set _ _ rfl), by simpa using HF.out⟩
  have := IR.setG HI.out HG1.out 1 (.slice A (s.length - dl.length) c)
  simp only [Int.toNat_natCast]
  rw [← HD.out]
  exact this

/-- A node more: kids' rows are apart from the stack's. -/
def MkPost (g : Nat) (vN vS vM : Value) (d : Bool) (l : List (Nd × Value)) (n : Nd) (s : List Int) (w : World) (e : Ending) (w' : World) : Prop :=
  e = .returned (.bool (decide (l.length + 1 ≤ 300) && decide (s.length + 1 ≤ 300))) ∧ ∃ vN' vS' vK, MB w' g vN' vS' vM d ∧ NR w' vN' (l ++ [(n, vK)]) ∧ (l.length + 1 ≤ 300 → IR w' vS' (s ++ [(l.length : Int)])) ∧
    Fr (fun k => k = g ∨ vN.ownBlock = some k ∨ vS.ownBlock = some k) w w' ∧ FreshOr vN vN' w ∧ FreshOr vS vS' w ∧ Fresh vK w ∧ (∀ k, vK.ownBlock = some k → vS'.ownBlock ≠ some k) ∧ NR w' vN l
set_option maxRecDepth 100000 in
theorem make_c (g : Nat) (vN vS vM : Value) (d : Bool) (l : List (Nd × Value)) (s : List Int) (kind val : Int) (K : Option Addr) (cK : Nat) (kids : List Int) (w : World) (hg : MB w g vN vS vM d) (hN : NR w vN l) (hS : IR w vS s) (hK : RdI w K kids)
    (hln : l.length ≤ 1000000) (hls : s.length ≤ 1000000) (hkl : kids.length ≤ 1000000) (hd : ∀ p ∈ l, ∀ k, p.2.ownBlock = some k → vS.ownBlock ≠ some k) :
    Calls Try.prog 154 #[.pointer (some ⟨g, 0, none⟩), .int .i64 kind, .int .i64 val, .slice K kids.length cK] w (MkPost g vN vS vM d l ⟨kind, val, kids⟩ s w) := by
  have c0 := hg.c0
  have f0 := hg.fz 0
  have HG := As.mk hg
  have HN := As.mk hN
  have HS := As.mk hS
  have HK := As.mk hK
  have HD := As.mk hd
  clear hg hN hS hK hd
  go_enter Try.func154, Try.ntmps154
  go_wp2_with fail
  refine region_perm (fun w' => w'.cell? ⟨g, 0, none⟩ = some vN) [14] [(0, 0), (1, 0), (2, 0), (3, 0), (4, 1), (5, 0), (6, 0), (7, 0), (8, 2), (9, 0), (10, 2), (11, 2), (12, 0), (13, 0), (14, 3)] (by kernel_rfl) (by kernel_rfl) rfl (by kernel_rfl) (fun _ _ _ _ h => h) ?_
  have hS0 : w.drew.cell? ⟨g, 0, none⟩ = some vN := HG.out.c0
  repeat (first | refine wpP.c0 (h := ?_) | refine wpP.c1 hS0 (h := ?_))
  refine wpP.ev (h := fun Kv hKv => ?_)
  go_wp2_with ((go_at_call 133; refine (clone_c _ _ _ _ (HK.out.ext ((Ext.rf w).dr))).mono ?_; rintro e w1 ⟨A', c', rfl, hI, he, hf⟩; have HI := As.mk hI; have HE : As (Ext w w1) := ⟨((Ext.rf w).dr).trans he⟩; have HF : As (Fresh (.slice A' kids.length c') w) := ⟨hf⟩; clear hI he hf))
  refine hKv.out _ _ (HE.out.cellOf HG.out.c0) ?_
  clear hKv Kv
  repeat (first | refine wpP.c0 (h := ?_) | refine wpP.c1 hS0 (h := ?_))
  refine wpP.ev (h := fun Kv hKv => ?_)
  go_wp2_with fail
  refine hKv.out _ _ ((HE.out.al _).cellOf HG.out.c0) ?_
  clear hKv Kv
  have hN1 := own_keep HN.out.1 (fun k hk => HE.out.block k (own_lt HN.out.1 hk))
  refine wpP.ev (h := fun Kv hKv => ?_)
  go_wp2_with ((at_builtin; refine app_node rfl _ _ rfl vN l ⟨kind, val, kids⟩ A' kids.length c' rfl rfl hN1 (by omega) ?_; intro gN cN w2 hap; have hg2 : MB w2 g vN vS vM d := hap.2.1.blk (HE.out.blk HG.out) (fun e => own_ne_blk HN.out.1 HG.out (by decide) e); have HG2 := As.mk hg2; have HP := As.mk hap; clear hap hg2))
  refine hKv.out _ _ HG2.out.c0 ?_
  clear hKv Kv
  repeat (first | refine wpP.c0 (h := ?_) | refine wpP.c1 hS0 (h := ?_))
  refine wpP.last (h := fun Kv hKv => ?_)
  have e2 := HG2.out.c0
  have f2 := HG2.out.fz 0
  go_wp2_with fail
  refine hKv.out _ _ (wpP.done ?_)
  clear hKv Kv e2 f2
  have hgt := World.block_lt_of_cell? w _ HG.out.c0
  have hg3 := HG2.out.set.1 (.slice (some ⟨gN, 0, none⟩) (l.length + 1) cN)
  have hF1 : Fr (fun k => vN.ownBlock = some k) w w2 := (Fr.ofExt HE.out).trans HP.out.2.1
  have hS3 : IR (w2.setCell ⟨g, 0, none⟩ (.slice (some ⟨gN, 0, none⟩) (l.length + 1) cN)) vS s := IR.setG (HS.out.fr hF1 (fun k hk => own_ne_type HS.out HN.out.1 (by decide) hk)) HG2.out _ _
  have hK2 : IR w2 (.slice A' kids.length c') kids := HI.out.fr HP.out.2.1 (fun k hk => own_ne_type HI.out hN1 (by decide) hk)
  have hold2 : ∀ p ∈ l, IR w2 p.2 p.1.kids ∧ p.1.kids.length ≤ 1000000000000 := fun p hp => ⟨(HN.out.2 p hp).1.fr hF1 (fun k hk => own_ne_type (HN.out.2 p hp).1 HN.out.1 (by decide) hk), (HN.out.2 p hp).2⟩
  have hN3 : NR (w2.setCell ⟨g, 0, none⟩ (.slice (some ⟨gN, 0, none⟩) (l.length + 1) cN)) (.slice (some ⟨gN, 0, none⟩) (l.length + 1) cN) (l ++ [(⟨kind, val, kids⟩, .slice A' kids.length c')]) :=
    NR.setG ⟨by simpa using HP.out.1, fun p hp => by
      rcases List.mem_append.1 hp with hp | hp
      · exact hold2 p hp
      · rw [List.mem_singleton] at hp; subst hp; exact ⟨hK2, by simp; omega⟩⟩ HG2.out _ _
  have hO3 : NR (w2.setCell ⟨g, 0, none⟩ (.slice (some ⟨gN, 0, none⟩) (l.length + 1) cN)) vN l := NR.setG ⟨HP.out.2.2.2.2, hold2⟩ HG2.out _ _
  have hF3 : Fr (fun k => k = g ∨ vN.ownBlock = some k) w (w2.setCell ⟨g, 0, none⟩ (.slice (some ⟨gN, 0, none⟩) (l.length + 1) cN)) := (hF1.mono (fun _ h => .inr h)).trans (Fr.set _ _ (.inl rfl))
  have hfN : FreshOr vN (.slice (some ⟨gN, 0, none⟩) (l.length + 1) cN) w := HP.out.2.2.1.elim (fun h => .inl h.symm) (fun h => .inr ⟨_, rfl, Nat.le_trans HE.out.size h⟩)
  have HF1 := As.mk hF1
  clear hF1 hS0 HI HE hN1 HG2 HP hK2 hold2 c0 f0
  generalize hw3 : (w2.setCell ⟨g, 0, none⟩ (.slice (some ⟨gN, 0, none⟩) (l.length + 1) cN)) = w3 at hg3 hS3 hN3 hO3 hF3 ⊢
  clear hw3 HF1 w2
  have c0 := hg3.c0
  have HG3 := As.mk hg3; have HS3 := As.mk hS3; have HN3 := As.mk hN3; have HO3 := As.mk hO3; have HF3 := As.mk hF3; have HFN := As.mk hfN
  clear hg3 hS3 hN3 hO3 hF3 hfN
  rcases bcase ((l.length : Int) + 1 ≤ 300) with hb | hb
  · go_wp2_with ((go_at_call 155; refine (push_c g _ vS vM d s _ _ HG3.out HS3.out (by omega)).mono ?_; rintro e w4 ⟨rfl, vS', hP⟩; have HP := As.mk hP; clear hP))
    go_ret
    obtain ⟨hg4, hS4, hF4, hfS⟩ := HP.out
    have hnk : ∀ k, (Value.slice A' kids.length c').ownBlock = some k → vS.ownBlock ≠ some k := fun k hk hs => by
      have h1 := HF.out k hk
      have h2 := own_lt HS.out hs
      omega
    have nI : ∀ {v : Value} {l : List Int}, IR w3 v l → (∀ k, v.ownBlock = some k → vS.ownBlock ≠ some k) → ∀ k, v.ownBlock = some k → ¬ (k = g ∨ vS.ownBlock = some k) :=
      fun h hd k hk hs => hs.elim (fun e => own_ne_blk h HG3.out (by decide) (by rw [hk, e])) (hd k hk)
    have nN : ∀ {v : Value} {l : List (Nd × Value)}, NR w3 v l → ∀ k, v.ownBlock = some k → ¬ (k = g ∨ vS.ownBlock = some k) :=
      fun h k hk hs => hs.elim (fun e => own_ne_blk h.1 HG3.out (by decide) (by rw [hk, e])) (fun e => own_ne_type h.1 HS3.out (by decide) hk e)
    refine ⟨ret_bool (by have : l.length + 1 ≤ 300 := by omega
                         simp [this]), _, vS', _, hg4, HN3.out.fr hF4 (nN HN3.out) (fun p hp => ?_), fun _ => hS4, (HF3.out.mono (fun k h => h.imp id .inl)).then hF4 (fun k h => .inl (h.imp id .inr)), HFN.out, hfS.le HF3.out.size, HF.out,
        fun k hk => hfS.ne (own_lt (HN3.out.2 _ (List.mem_append_right _ (List.mem_singleton.2 rfl))).1 hk) (hnk k hk), HO3.out.fr hF4 (nN HO3.out) (fun p hp => nI (HO3.out.2 p hp).1 (HD.out p hp))⟩
    rcases List.mem_append.1 hp with hp | hp
    · exact nI (HO3.out.2 p hp).1 (HD.out p hp)
    · rw [List.mem_singleton] at hp; subst hp
      exact nI (HN3.out.2 _ (List.mem_append_right _ (List.mem_singleton.2 rfl))).1 hnk
  · go_wp2
    go_ret
    refine ⟨ret_bool (by have : ¬ l.length + 1 ≤ 300 := by simp at hb; omega
                         simp [this]), _, vS, _, HG3.out, HN3.out, fun h => by simp at hb; omega, HF3.out.mono (fun k h => h.imp id .inl), HFN.out, FreshOr.rf _ _, HF.out, fun k hk hs => by
      have h1 := HF.out k hk
      have h2 := own_lt HS.out hs
      omega, HO3.out⟩
end Go.Proofs.Ytcodbpjaamggeaa.C
namespace Go.Proofs.Ytcodbpjaamggeaa.C
open Go.RowKit Go.Proofs.Ytcodbpjaamggeaa.W Go.Proofs.Ytcodbpjaamggeaa.P

theorem top_c0 (g : Nat) (vN vM : Value) (d : Bool) (A : Option Addr) (c : Nat) (s : List Int) (kind : Int) (w : World) (hg : MB w g vN (.slice A s.length c) vM d) (hr : RdI w A s) (h0 : topN s = 0) :
    Calls Try.prog 158 #[.pointer (some ⟨g, 0, none⟩), .int .i64 kind] w fun e w' => e = .returned (.tuple #[.pointer none, .bool false]) ∧ ∃ n, w' = w.drewN n := by
  have HR := As.mk hr; have HG := As.mk hg; have H0 := As.mk h0
  clear hr hg h0
  go_enter Try.func158, Try.ntmps158
  go_wp2_with ((go_at_call 153; refine (nodes_c g vN vM d A c s _ HG.out HR.out).mono ?_; rw [H0.out]; rintro e w1 ⟨rfl, nq, rfl⟩))
  go_ret2
  exact ⟨rfl, nq, rfl⟩
theorem top_c1 (g : Nat) (vM : Value) (d : Bool) (A : Option Addr) (c : Nat) (s : List Int) (ad : Addr) (cN : Nat) (nodes : List Nd) (x : Nat) (kind : Int) (w : World) (hg : MB w g (.slice (some ad) nodes.length cN) (.slice A s.length c) vM d) (hr : RdI w A s) (hN : RdN w (some ad) nodes)
    (h0 : 0 < topN s) (hx : st s 0 = x) (hxl : x < nodes.length) :
    Calls Try.prog 158 #[.pointer (some ⟨g, 0, none⟩), .int .i64 kind] w fun e w' => e = .returned (.tuple #[.pointer (some (ad.add (x * 3))), .bool (nodes[x].kind == kind)]) ∧ ∃ n, w' = w.drewN n := by
  have c0 := hg.c0
  have c1 := hg.c1
  have hlen := hr.1
  have hlenN := hN.1
  have hs0 : 0 < s.length := Nat.lt_of_lt_of_le h0 (topN_le s)
  obtain ⟨aS, rfl, hc⟩ := hr.2 (s.length - 1) (by omega)
  have hsx : s[s.length - 1] = (x : Int) := by rw [← hx, st_at _ _ hs0]; rfl
  rw [hsx] at hc
  obtain ⟨ad', K, cK, had, k0, k1, k2, _⟩ := hN.2 x hxl
  cases had
  clear k1 k2
  have hsub : ((s.length : Int) - 1).toNat = s.length - 1 := by omega
  have HR := As.mk hr; have HG := As.mk hg; have HX := As.mk hx; have HSX := As.mk hsx
  have hne : ((topN s : Int) == 0) = false := by simp; omega
  have H0 := As.mk h0
  clear hr hg hN hx hsx h0
  have q1 : (0 : Int) ≤ x := by omega
  have q2 : (x : Int) < nodes.length := by omega
  go_enter Try.func158, Try.ntmps158
  go_wp2_with ((go_at_call 153; refine (nodes_c g _ vM d _ c s _ HG.out HR.out).mono ?_; rintro e w1 ⟨rfl, nq, rfl⟩))
  go_quiet (fail)
  go_wp2
  go_quiet (fail)
  go_wp2
  go_ret2
  exact ⟨rfl, _, by rw [World.drewN_drewN, World.drewN_drewN]⟩

def AbovePost (g : Nat) (vN vM : Value) (d : Bool) (A : Option Addr) (c : Nat) (s : List Int) (w : World) (e : Ending) (w' : World) : Prop :=
  ∃ A' c', e = .returned (.tuple #[.slice A' (s.drop (s.length - topN s)).length c', .bool true]) ∧ (s.drop (s.length - topN s)).length ≤ c' ∧ MB w' g vN (.slice A (s.length - (topN s + 1)) c) vM d ∧ RdI w' A' (s.drop (s.length - topN s)) ∧ Fr (fun k => k = g) w w' ∧ (∃ ad, A' = some ad ∧ w.heap.size ≤ ad.block)
theorem above_c0 (g : Nat) (vN vM : Value) (d : Bool) (A : Option Addr) (c : Nat) (s : List Int) (w : World) (hg : MB w g vN (.slice A s.length c) vM d) (hr : RdI w A s) (h0 : topN s = s.length) :
    Calls Try.prog 156 #[.pointer (some ⟨g, 0, none⟩)] w fun e w' => e = .returned (.tuple #[.slice none 0 0, .bool false]) ∧ ∃ n, w' = w.drewN n := by
  have c1 := hg.c1
  have hlen := hr.1
  have HR := As.mk hr; have HG := As.mk hg; have H0 := As.mk h0
  clear hr hg h0
  go_enter Try.func156, Try.ntmps156
  go_wp2_with ((go_at_call 153; refine (nodes_c g vN vM d A c s _ HG.out HR.out).mono ?_; rw [H0.out]; rintro e w1 ⟨rfl, nq, rfl⟩))
  go_ret2
  exact ⟨rfl, nq, rfl⟩
theorem above_c1 (g : Nat) (vN vM : Value) (d : Bool) (A : Option Addr) (c : Nat) (s : List Int) (w : World) (hg : MB w g vN (.slice A s.length c) vM d) (hr : RdI w A s) (hc : s.length ≤ c) (h0 : topN s ≠ s.length) :
    Calls Try.prog 156 #[.pointer (some ⟨g, 0, none⟩)] w (AbovePost g vN vM d A c s w) := by
  have c1 := hg.c1
  have hlen := hr.1
  have hle := topN_le s
  obtain ⟨n, hn⟩ : ∃ n, n = topN s := ⟨_, rfl⟩
  have hne : ((n : Int) == s.length) = false := by simp; omega
  have HR := As.mk hr; have HG := As.mk hg
  have HN := As.mk hn
  have hlt : n + 1 ≤ s.length := by omega
  clear hr hg h0 hle hn
  obtain ⟨inf, hi, hsz⟩ := ifoI
  have htn : ((n : Int) + 1).toNat = n + 1 := by omega
  go_enter Try.func156, Try.ntmps156
  go_wp2_with (first | (go_at_call 153; refine (nodes_c g vN vM d A c s _ HG.out HR.out).mono ?_; rw [← HN.out]; rintro e w1 ⟨rfl, nq, rfl⟩) | (go_at_call 157; refine (take_c g vN vM d A c s _ _ (show MB (w.drewN nq) g vN (.slice A s.length c) vM d from HG.out) (HR.out.dN nq) (by omega) (by omega) hc).mono ?_; rw [htn]; rintro e w2 ⟨A', c', rfl, hle', hg', hI, hf, hfr⟩; have hdl : n + 1 = (s.drop (s.length - (n + 1))).length := (by simp; omega); obtain ⟨A2, s1, s2, s3⟩ := slice_from (P := Try.prog) 32 3 (by kernel_rfl) hi hsz A' c' (s.drop (s.length - (n + 1))) 1 (by omega) (by omega) (by omega); rw [← hdl] at s1; have HX := As.mk (And.intro hg' (And.intro hI (And.intro hf (And.intro hfr (And.intro s2 (And.intro hdl s3)))))); clear hg' hI hf hfr s2 hdl s3))
  go_ret2
  obtain ⟨hg', hI, hf, hfr, s2, hdl, s3⟩ := HX.out
  have h1 : 1 ≤ n + 1 := by omega
  have hl : s.drop (s.length - n) = (s.drop (s.length - (n + 1))).drop (Int.toNat 1) := by rw [List.drop_drop, show Int.toNat 1 = 1 from rfl, show s.length - (n + 1) + 1 = s.length - n by omega]
  have hll : (s.drop (s.length - n)).length = n := by rw [List.length_drop]; omega
  have hI' : IR w2 (.slice A' (s.drop (s.length - (n + 1))).length c') (s.drop (s.length - (n + 1))) := by rw [← hdl]; exact hI
  obtain ⟨A3, c3, h2, h3, h4⟩ := IR.rd hI' (by rw [List.length_drop]; omega)
  injection h2 with h5 h6 h7
  subst h5
  unfold AbovePost
  rw [← HN.out, hll]
  refine ⟨A2, c' - 1, rfl, by omega, hg', ?_, (Fr.ofExt ((Ext.rf w).dN nq)).then hf (fun i h => .inl h), ?_⟩
  · rw [hl]; exact s2 _ h4
  · obtain ⟨A4, c4, h8, _, h9⟩ := own_form hI
    injection h8 with h8
    subst h8
    cases hA : A' with
    | none => rw [hA] at h4; obtain ⟨ad, hb, _⟩ := h4.2 0 (by omega); exact nomatch hb
    | some b =>
      obtain ⟨h10, h11, h12⟩ := h9 b hA
      obtain ⟨ad, had, hab⟩ := s3 b.block (by rw [hA]; obtain ⟨b1, b2, b3⟩ := b; cases h10; cases h11; rfl)
      exact ⟨ad, had, by rw [hab]; exact hfr _ h12⟩
end Go.Proofs.Ytcodbpjaamggeaa.C
namespace Go.Proofs.Ytcodbpjaamggeaa.C
open Go.RowKit Go.Proofs.Ytcodbpjaamggeaa.W Go.Proofs.Ytcodbpjaamggeaa.P

def findI : Option Nat → Int
  | none => -1
  | some i => i
theorem findK_end (nodes : List Nd) (kids : List Int) (k v : Int) (f i : Nat) (h : kids.length ≤ i) : findK nodes kids k v f i = none := by
  cases f with
  | zero => rfl
  | succ f => unfold findK; rw [if_neg (by omega)]
theorem findK_at (nodes : List Nd) (kids : List Int) (k v : Int) (f i x : Nat) (h : i < kids.length) (hx : kids[i] = x) (hxl : x < nodes.length) : findK nodes kids k v (f + 1) i = if nodes[x].kind = k ∧ nodes[x].val = v then some i else findK nodes kids k v f (i + 2) := by
  have e1 : kids.getD i 0 = x := by rw [List.getD_eq_getElem?_getD, List.getElem?_eq_getElem h]; simpa using hx
  have e2 : nodes.getD (Int.toNat x) default = nodes[x] := by rw [List.getD_eq_getElem?_getD, Int.toNat_natCast, List.getElem?_eq_getElem hxl]; rfl
  simp only [findK, h, if_true, e1, e2]

theorem bceq (a b : Int) : a = b ∨ (a == b) = false := by by_cases h : a = b <;> simp [h]

theorem findKey_c (A K KK : Option Addr) (cA cK nK cKK : Nat) (nodes : List Nd) (kids : List Int) (kind val : Int) (w : World) (hN : RdN w A nodes) (hK : RdI w K kids) (hin : ∀ x ∈ kids, 0 ≤ x ∧ x < nodes.length) :
    Calls Try.prog 177 #[.slice A nodes.length cA, .slice K kids.length cK, .agg #[.int .i64 kind, .int .i64 val, .slice KK nK cKK]] w fun e w' => e = .returned (.int .i64 (findI (findKey nodes kids kind val))) ∧ Ext w w' := by
  have hlen := hK.1
  have hlenN := hN.1
  have HN := As.mk hN; have HK := As.mk hK; have HI := As.mk hin
  clear hN hK hin
  go_enter Try.func177, Try.ntmps177
  go_wp2
  go_loopw [7, 8] (fun i _ wr => ∃ k f : Nat, k ≤ kids.length + 1 ∧ i = .int .i64 k ∧ As (findKey nodes kids kind val = findK nodes kids kind val f k ∧ kids.length < k + f) ∧ As (Ext w wr) ∧ wr.cell? ⟨w.heap.size, 0, none⟩ = some (.int .i64 kind) ∧ wr.cell? ⟨w.heap.size, 1, none⟩ = some (.int .i64 val)) (fun i _ _ => kids.length + 1 - (intOf i).toNat)
  case atStart => exact ⟨0, kids.length + 1, by omega, rfl, ⟨rfl, by omega⟩, ⟨(Ext.rf w).al _⟩, World.cell?_alloc_new .., World.cell?_alloc_new ..⟩
  case round =>
    obtain ⟨k, f, hk, rfl, hf, he, b0, b1⟩ := hrel
    by_cases hlt : k < kids.length
    · obtain ⟨aK, rfl, h1⟩ := HK.out.2 k hlt
      obtain ⟨x, hx⟩ := Int.eq_ofNat_of_zero_le (HI.out _ (List.getElem_mem hlt)).1
      have hxl : x < nodes.length := by have := (HI.out _ (List.getElem_mem hlt)).2; rw [hx] at this; exact Int.ofNat_lt.1 this
      rw [hx] at h1
      obtain ⟨aN, KN, cN, rfl, k0, k1, k2, _⟩ := HN.out.2 x hxl
      have h1' := he.out.cellOf h1
      have k0' := he.out.cellOf k0
      have k1' := he.out.cellOf k1
      have k2' := he.out.cellOf k2
      have b0' : ∀ o, (wr.alloc o).cell? ⟨w.heap.size, 0, none⟩ = some (.int .i64 kind) := fun o => ((Ext.rf wr).al o).cellOf b0
      have b1' : ∀ o, (wr.alloc o).cell? ⟨w.heap.size, 1, none⟩ = some (.int .i64 val) := fun o => ((Ext.rf wr).al o).cellOf b1
      clear h1 k0 k1 k2
      have q1 : (0 : Int) ≤ x := by omega
      have q2 : (x : Int) < nodes.length := by omega
      have hrelNext : ¬ (nodes[x].kind = kind ∧ nodes[x].val = val) → ∀ o, ∃ k' f' : Nat, k' ≤ kids.length + 1 ∧ Value.int .i64 ((k : Int) + 2) = .int .i64 k' ∧ As (findKey nodes kids kind val = findK nodes kids kind val f' k' ∧ kids.length < k' + f') ∧ As (Ext w (wr.alloc o)) ∧ (wr.alloc o).cell? ⟨w.heap.size, 0, none⟩ = some (.int .i64 kind) ∧ (wr.alloc o).cell? ⟨w.heap.size, 1, none⟩ = some (.int .i64 val) := by
        intro hne o
        obtain ⟨f', rfl⟩ : ∃ f', f = f' + 1 := ⟨f - 1, by have := hf.out.2; omega⟩
        exact ⟨k + 2, f', by omega, by simp, ⟨by rw [hf.out.1, findK_at _ _ _ _ _ _ x hlt hx hxl, if_neg hne], by have := hf.out.2; omega⟩, ⟨he.out.al _⟩, b0' o, b1' o⟩
      rcases bceq nodes[x].kind kind with hm | hm
      · rcases bceq nodes[x].val val with hv | hv
        · go_wp2_with fail
          go_ret
          obtain ⟨f', rfl⟩ : ∃ f', f = f' + 1 := ⟨f - 1, by have := hf.out.2; omega⟩
          exact ⟨ret_int (by rw [hf.out.1, findK_at _ _ _ _ _ _ x hlt hx hxl, if_pos ⟨hm, hv⟩]; rfl), he.out.al _⟩
        · go_wp2_with fail
          go_roundw
          case rel => exact hrelNext (by simp only [beq_eq_false_iff_ne] at hv; exact fun h => hv h.2) _
          case measure => simp [intOf]; omega
      · go_wp2_with fail
        go_roundw
        case rel => exact hrelNext (by simp only [beq_eq_false_iff_ne] at hm; exact fun h => hm h.1) _
        case measure => simp [intOf]; omega
    · go_wp2_with fail
      go_ret
      exact ⟨ret_int (by rw [hf.out.1, findK_end _ _ _ _ _ _ (by omega)]; rfl), he.out⟩
end Go.Proofs.Ytcodbpjaamggeaa.C
