/- ClassesIn, both sides. -/
import Derived.Test.YtcodbpjaamggeaaSb
import Derived.Test.YtcodbpjaamggeaaPg
import Derived.Test.YtcodbpjaamggeaaSa
import Derived.Test.YtcodbpjaamggeaaJb
import Derived.Sort.OwnSortedInts
set_option linter.unusedVariables false
set_option linter.unusedSimpArgs false
namespace Go.Proofs.Ytcodbpjaamggeaa.P
theorem upTo_comp (l : List Int) : ∀ k, k ≤ l.length → Go.Lib.compactUpTo l.toArray k = comp (l.take k)
  | 0, _ => rfl
  | k + 1, hk => by
    have ih := upTo_comp l k (by omega)
    have hkl : k < l.length := by omega
    have e : Go.Lib.compactUpTo l.toArray (k + 1) = Go.Lib.compactUpTo l.toArray k ++ (if Go.Lib.keeps l.toArray k = true then [l[k]] else []) := by
      unfold Go.Lib.compactUpTo
      rw [List.range_succ, List.filter_append, List.map_append]
      congr 1
      by_cases h : Go.Lib.keeps l.toArray k = true
      · simp [h, hkl]
      · simp [h]
    rw [e, ih]
    by_cases h0 : k = 0
    · subst h0
      rw [comp_one l hkl]
      simp [Go.Lib.keeps, comp]
    · rw [comp_next l k (by omega) hkl]
      have hk1 : k - 1 < l.length := by omega
      by_cases h : l[k] = l[k - 1]
      · rw [if_pos h, if_neg (by simp [Go.Lib.keeps, hkl, hk1, h0, h])]; simp
      · rw [if_neg h, if_pos (by simp [Go.Lib.keeps, hkl, hk1, h0]; intro e; exact absurd e (by simpa using h))]
theorem compact_comp (l : List Int) : Go.Lib.compact l = comp l := by
  unfold Go.Lib.compact
  rw [upTo_comp l l.length (Nat.le_refl _), List.take_length]
theorem comp_len (l : List Int) : (comp l).length ≤ l.length := by
  have := comp_le l l.length (Nat.le_refl _)
  rwa [List.take_length] at this
theorem sort_len (l : List Int) : (sortL l).length = l.length := List.length_mergeSort l
end Go.Proofs.Ytcodbpjaamggeaa.P
namespace Go.Proofs.Ytcodbpjaamggeaa.C
open Go.RowKit Go.Proofs.Ytcodbpjaamggeaa.W Go.Proofs.Ytcodbpjaamggeaa.P Go.Sort

theorem ir_blkI {w : World} {g c : Nat} {n : Nat} {l : List Int} (h : IR w (.slice (some ⟨g, 0, none⟩) n c) l) : ∃ cur : Array Value, w.heap[g]? = some (.cells cur 3 (0, 0)) ∧ l.length ≤ c ∧ c ≤ maxLen ∧ cur.size = c * 1 ∧ cur.toList.take l.length = l.map (Value.int .i64) := by
  rcases h.2 with ⟨hv, _⟩ | ⟨g', cap, cur, hv, hg, hh, h1, h2, h3, h4⟩
  · exact nomatch hv
  · injection hv with hv1 hv2 hv3
    injection hv1 with hv1
    injection hv1 with hv1
    subst hv1 hv3
    refine ⟨cur, hh, h1, h2, h3, ?_⟩
    rw [Nat.mul_one] at h4
    exact h4
theorem grown_fr {w w' : World} {g : Nat} (h : w.grownBy w' (some g)) : Fr (fun k => k = g) w w' :=
  ⟨h.os, h.tape, h.output, h.size, fun k hk hn => h.block k hk (fun e => hn (by injection e))⟩
theorem sort_c (g c : Nat) (l : List Int) (w : World) (h : IR w (.slice (some ⟨g, 0, none⟩) l.length c) l) (hl : l.length ≤ 1000000) :
    Calls Try.prog 92 #[.slice (some ⟨g, 0, none⟩) l.length c] w fun e w' => e = .returned (.tuple #[]) ∧ IR w' (.slice (some ⟨g, 0, none⟩) l.length c) (sortL l) ∧ Fr (fun k => k = g) w w' := by
  obtain ⟨cur, hb, h1, h2, h3, h4⟩ := ir_blkI h
  have hlt := (Array.getElem?_eq_some_iff.1 hb).1
  refine (Try.slices_Sort_int g 0 c l w (holds_of_blockI hb h4) hlt (by omega)).mono ?_
  rintro e w' ⟨rfl, n, os, rfl⟩
  refine ⟨rfl, ?_, grown_fr (grownBy_sortedI _)⟩
  have := ownsRow_sortedI (w := w) (base := 0) (g := g) (cap := c) (n := n) (e := 3) (os := os) (cur := cur) (ss := l) (ts := sortL l) (sort_len l) (Nat.zero_le _) hb h1 h2 h3
  unfold IR
  rw [sort_len]
  exact this
theorem compact_c (g c : Nat) (l : List Int) (w : World) (h : IR w (.slice (some ⟨g, 0, none⟩) l.length c) l) (hl : l.length ≤ 1000000) :
    Calls Try.prog 94 #[.slice (some ⟨g, 0, none⟩) l.length c] w fun e w' => e = .returned (.slice (some ⟨g, 0, none⟩) (comp l).length c) ∧ IR w' (.slice (some ⟨g, 0, none⟩) l.length c) (comp l ++ List.replicate (l.length - (comp l).length) 0) ∧ Fr (fun k => k = g) w w' := by
  obtain ⟨cur, hb, h1, h2, h3, h4⟩ := ir_blkI h
  have hcl := comp_len l
  have hts : (comp l ++ List.replicate (l.length - (comp l).length) (0 : Int)).length = l.length := by simp; omega
  refine (Try.slices_Compact_int g 0 c l w (holds_of_blockI hb h4) (by omega) h1).mono ?_
  rintro e w' ⟨rfl, n, rfl⟩
  rw [compact_comp]
  refine ⟨rfl, ?_, ?_⟩
  · have := ownsRow_sortedI (w := w) (base := 0) (g := g) (cap := c) (n := n) (e := 3) (os := #[]) (cur := cur) (ss := l) (ts := comp l ++ List.replicate (l.length - (comp l).length) 0) hts (Nat.zero_le _) hb h1 h2 h3
    unfold IR
    rw [hts]
    rw [grow_empty] at this
    exact this
  · have := grownBy_sortedI (w := w) (g := g) (n := n) (os := #[]) (comp l ++ List.replicate (l.length - (comp l).length) (0 : Int)).toArray
    rw [grow_empty] at this
    exact grown_fr this
theorem clip_c (A : Option Addr) (n c : Nat) (w : World) (hn : n ≤ c) (hc : n ≤ 1000000) :
    Calls Try.prog 93 #[.slice A n c] w fun e w' => e = .returned (.slice A n n) ∧ w = w' := by
  have hs : ∀ W : World, (Instr.slice 32 (.slice A n c) none (some (.int .i64 (n : Int))) (some (.int .i64 (n : Int)))).run Try.prog W = .ok (.slice A n n) W := by
    intro W
    obtain ⟨inf, hi, hsz⟩ := infoI_one
    have hel : Try.prog.elem 32 = 3 := by simp [Program.elem, Try.underlying32]
    have hu : Try.prog.underlying 32 = some (.slice (Try.prog.elem 32)) := by rw [hel]; exact Try.underlying32
    have ha : (A.map fun x => x.add 0) = A := by cases A <;> simp [Addr.add]
    rw [run_slice_hm W 32 A n c hu .i64 .i64 (n : Int) (n : Int) (by omega) (by omega) (by omega), hel]
    simp [sizeOf, typeInfo, hi, hsz, sliced, Result.andThen, ha]
  go_enter Try.func93, Try.ntmps93
  go_wp2_with fail
  go_ret
  exact ⟨rfl, rfl⟩
/-- A row of numbers that lies at the beginning of a row of our own is returned. -/
def OwnV (l : List Int) (w : World) (e : Ending) (w' : World) : Prop := ∃ (A : Option Addr) (c C : Nat) (L : List Int), e = .returned (.slice A l.length c) ∧ IR w' (.slice A L.length C) L ∧ L.take l.length = l ∧ (l.length ≤ L.length ∧ L.length ≤ 1048576) ∧ Ext w w' ∧ Fresh (.slice A L.length C) w
theorem OwnV.nil {w w' : World} (h : Ext w w') : OwnV [] w (.returned (.slice none 0 0)) w' := ⟨none, 0, 0, [], rfl, IR.nil _, rfl, ⟨Nat.le_refl _, by simp⟩, h, by simp [Fresh, Value.ownBlock]⟩
/-- A row of our own that grows. -/
structure RI (w W : World) (v : Value) (l : List Int) : Prop where
  r : IR W v l
  e : Ext w W
  f : Fresh v w
theorem RI.ext {w W W' v l} (h : RI w W v l) (e : Ext W W') : RI w W' v l := ⟨h.r.ext e, h.e.trans e, h.f⟩
theorem RI.lit {w W : World} (e : Ext w W) : RI w (W.alloc (.cells #[] 3)) (.slice (some ⟨W.heap.size, 0, none⟩) 0 0) [] :=
  ⟨World.ownsRow_lit (base := 0) (size := 1) W #[] 0 (Nat.zero_le _) (by simp) rfl, e.al _, fun k hk => by
    have hk2 : W.heap.size = k := by simpa [Value.ownBlock] using hk
    have := e.size
    omega⟩
theorem RI.app {w W W' : World} {v : Value} {l l2 : List Int} {g c : Nat} (h : RI w W v l) (hap : AppI v l l2 W g c W') : RI w W' (.slice (some ⟨g, 0, none⟩) l2.length c) l2 := by
  obtain ⟨a1, a2, a3, _, _⟩ := hap
  have hfr : Fr (fun _ => False) w W' := Fr.then (S := fun _ => False) (Fr.ofExt h.e) a2 (fun k hk => .inr (h.f k hk))
  refine ⟨a1, hfr.ext (fun _ h => h.elim), fun k hk => ?_⟩
  have hk2 : g = k := by simpa [Value.ownBlock] using hk
  subst hk2
  rcases a3 with e | e
  · exact h.f _ e
  · exact Nat.le_trans h.e.size e
set_option maxRecDepth 100000 in
set_option maxHeartbeats 1000000 in
theorem ClassesIn_c (A : Option Addr) (c : Nat) (ops : List Opr) (w : World) (hr : RdO w A ops) :
    Calls Try.prog 40 #[.slice A ops.length c] w (OwnV (classesP ops) w) := by
  have hlen := hr.1
  have HR := As.mk hr
  clear hr
  cases hv : vOps ops with
  | false =>
    have HB : As (classesP ops = []) := ⟨by simp [classesP, hv]⟩
    have HV := As.mk hv
    clear hv
    go_enter Try.func40, Try.ntmps40
    go_wp2_with (go_at_call 76; refine (ValidOps_c _ _ _ _ HR.out).mono ?_; rw [HV.out]; rintro e w1 ⟨rfl, he⟩; have HE := As.mk he; clear he)
    go_ret
    rw [HB.out]
    exact OwnV.nil HE.out
  | true =>
    have hall := vOps_all hv
    have HB : As (classesP ops = comp (sortL (newArgs ops))) := ⟨by simp [classesP, hv, classes_eq ops hall.1]⟩
    have HV := As.mk hv
    have hl3 : ops.length ≤ 300 := hall.2
    clear hv hall
    go_enter Try.func40, Try.ntmps40
    go_upto_region 4 with (go_at_call 76; refine (ValidOps_c _ _ _ _ HR.out).mono ?_; rw [HV.out]; rintro e w1 ⟨rfl, he⟩; have HE := As.mk he; clear he)
    have HI := As.mk (RI.lit HE.out)
    generalize w1.alloc (.cells #[] 3) = w2 at HI ⊢
    generalize w1.heap.size = g0 at HI ⊢
    clear HE
    go_upto_region 5 with fail
    go_loopw [3, 12] (fun o i wr => ∃ k : Nat, k ≤ ops.length ∧ i = .int .i64 k ∧ ∃ g n c', o = .slice (some ⟨g, 0, none⟩) n c' ∧ n ≤ k ∧ As (n = (newArgs (ops.take k)).length) ∧ As (RI w wr (.slice (some ⟨g, 0, none⟩) n c') (newArgs (ops.take k)))) (fun _ i _ => ops.length - (intOf i).toNat)
    case atStart => exact ⟨0, Nat.zero_le _, rfl, _, _, _, rfl, Nat.le_refl _, ⟨rfl⟩, ⟨HI.out⟩⟩
    case round =>
      obtain ⟨k, hk, rfl, g, n, c', rfl, hnk, hn, hri⟩ := hrel
      clear HI
      by_cases hlt : k < ops.length
      · obtain ⟨ad, rfl, m1, m2⟩ := (HR.out.ext hri.out.e).2 k hlt
        obtain ⟨oc, hoc⟩ : ∃ oc, oc = ops[k].code := ⟨_, rfl⟩
        obtain ⟨oa, hoa⟩ : ∃ oa, oa = ops[k].arg := ⟨_, rfl⟩
        rw [← hoc] at m1
        rw [← hoa] at m2
        have hsn := newArgs_snoc ops k hlt
        rw [← hoc, ← hoa] at hsn
        obtain ⟨l, hl⟩ : ∃ l, l = newArgs (ops.take k) := ⟨_, rfl⟩
        rw [← hl] at hsn
        have HS := As.mk hsn
        have HR2 : As (RI w wr (.slice (some ⟨g, 0, none⟩) n c') l) := ⟨by rw [hl]; exact hri.out⟩
        have HN : As (l.length = n) := ⟨by rw [hl]; exact hn.out.symm⟩
        have q1 : (k : Int) < ops.length := by omega
        clear hsn hl hoc hoa hri hn
        rcases bceq' oc 13 with rfl | q13
        · go_wp2_with ((at_builtin; refine app_int rfl _ _ rfl (.slice (some ⟨g, 0, none⟩) n c') l oa rfl rfl ((HR2.out.ext ((Ext.rf _).al _)).r) (by rw [HN.out]; omega) ?_; rw [HN.out]; intro gP cP w3 hap; have HO := As.mk ((HR2.out.ext ((Ext.rf _).al _)).app hap); clear hap))
          go_roundw
          case measure => simp only [intOf]; omega
          case rel =>
            have hl2 : (l ++ [oa]).length = n + 1 := by rw [List.length_append, HN.out]; rfl
            have ho := HO.out
            rw [hl2] at ho
            have e2 : newArgs (ops.take (k + 1)) = l ++ [oa] := by rw [HS.out, if_pos rfl]
            exact ⟨k + 1, by omega, by go_num, gP, n + 1, cP, rfl, by omega, ⟨by rw [e2, hl2]⟩, ⟨by rw [e2]; exact ho⟩⟩
        · go_wp2_with fail
          go_roundw
          case measure => simp only [intOf]; omega
          case rel =>
            have e2 : newArgs (ops.take (k + 1)) = l := by rw [HS.out, if_neg (by simpa using q13)]
            exact ⟨k + 1, by omega, by go_num, g, n, c', rfl, by omega, ⟨by rw [e2]; exact HN.out.symm⟩, ⟨by rw [e2]; exact HR2.out.ext ((Ext.rf _).al _)⟩⟩
      · have hkl : k = ops.length := by omega
        subst hkl
        have hri2 := hri.out
        have hn2 := hn.out
        rw [List.take_length] at hri2 hn2
        obtain ⟨l, hl⟩ : ∃ l, l = newArgs ops := ⟨_, rfl⟩
        rw [← hl] at hri2 hn2 HB
        have HRI := As.mk hri2
        have HN : As (l.length = n) := ⟨hn2.symm⟩
        clear hri hn hri2 hn2 hl
        go_upto_region 11 with (go_at_call 92; refine (show Calls Try.prog 92 #[.slice (some ⟨g, 0, none⟩) n c'] _ _ from by rw [← HN.out]; exact sort_c g c' l _ (by rw [HN.out]; exact HRI.out.r) (by rw [HN.out]; omega)).mono ?_; rw [HN.out]; rintro e w3 ⟨rfl, hi, hf⟩; have HI3 := As.mk hi; have HF3 := As.mk hf; clear hi hf)
        have HSL : As ((sortL l).length = n) := ⟨by rw [sort_len, HN.out]⟩
        have HCL : As ((comp (sortL l)).length ≤ n) := ⟨by have := comp_len (sortL l); rwa [HSL.out] at this⟩
        obtain ⟨q, hq⟩ : ∃ q, q = (comp (sortL l)).length := ⟨_, rfl⟩
        have hqn : q ≤ n := by rw [hq]; exact HCL.out
        have hnc : n ≤ c' := by
          obtain ⟨cur, _, h1, _⟩ := ir_blkI HI3.out
          rwa [HSL.out] at h1
        have HQ := As.mk hq
        clear hq
        go_wp2_with (first | (go_at_call 94; refine (show Calls Try.prog 94 #[.slice (some ⟨g, 0, none⟩) n c'] _ _ from by rw [← HSL.out]; exact compact_c g c' (sortL l) _ (by rw [HSL.out]; exact HI3.out) (by rw [HSL.out]; omega)).mono ?_; rw [HSL.out, ← HQ.out]; rintro e w4 ⟨rfl, hi, hf⟩; have HI4 := As.mk hi; have HF4 := As.mk hf; clear hi hf) | (go_at_call 93; refine (clip_c _ _ _ _ (by omega) (by omega)).mono ?_; rintro e w5 ⟨rfl, rfl⟩))
        go_ret
        have hfg : w.heap.size ≤ g := HRI.out.f g rfl
        have hL : (comp (sortL l) ++ List.replicate (n - q) (0 : Int)).length = n := by rw [List.length_append, ← HQ.out, List.length_replicate]; omega
        rw [HB.out]
        refine ⟨some ⟨g, 0, none⟩, q, c', comp (sortL l) ++ List.replicate (n - q) 0, by rw [← HQ.out]; rfl, by rw [hL]; exact HI4.out, List.take_left' rfl, ⟨by rw [hL, ← HQ.out]; exact hqn, by rw [hL]; omega⟩, ?_, fun k hk => by (have hk2 : g = k := by simpa [Value.ownBlock] using hk); omega⟩
        exact ((Fr.then (S := fun _ => False) (Fr.then (S := fun _ => False) (Fr.ofExt HRI.out.e) HF3.out (fun k hk => .inr (by omega))) HF4.out (fun k hk => .inr (by omega))).ext (fun _ h => h.elim))
theorem hasC_no {ops : List Opr} {c k : Nat} (hk : k < ops.length) (h : hasC (ops.take k) c = false) (hn : ¬ (ops[k].code = 13 ∧ ops[k].arg = c)) : hasC (ops.take (k + 1)) c = false := by
  unfold hasC at *
  rw [List.take_succ_eq_append_getElem hk, List.any_append, h]
  simp
  intro h1 h2
  exact hn ⟨h1, h2⟩
theorem hasC_yes {ops : List Opr} {c k : Nat} (hk : k < ops.length) (h1 : ops[k].code = 13) (h2 : ops[k].arg = c) : hasC ops c = true := by
  unfold hasC
  rw [List.any_eq_true]
  exact ⟨ops[k], List.getElem_mem hk, by simp [h1, h2]⟩
set_option maxRecDepth 100000 in
set_option maxHeartbeats 1000000 in
theorem sClassesIn_c (A : Option Addr) (c : Nat) (ops : List Opr) (w : World) (hr : RdO w A ops) :
    Calls Try.prog 39 #[.slice A ops.length c] w (OwnV (classesP ops) w) := by
  have hlen := hr.1
  have HR := As.mk hr
  clear hr
  cases hv : vOps ops with
  | false =>
    have HB : As (classesP ops = []) := ⟨by simp [classesP, hv]⟩
    have HV := As.mk hv
    clear hv
    go_enter Try.func39, Try.ntmps39
    go_wp2_with (go_at_call 74; refine (validOps_c _ _ _ _ HR.out).mono ?_; rw [HV.out]; rintro e w1 ⟨rfl, he⟩; have HE := As.mk he; clear he)
    go_ret
    rw [HB.out]
    exact OwnV.nil HE.out
  | true =>
    have HB : As (classesP ops = cls ops 10) := ⟨by simp [classesP, hv]⟩
    have HV := As.mk hv
    have hl3 : ops.length ≤ 300 := (vOps_all hv).2
    clear hv
    go_enter Try.func39, Try.ntmps39
    go_upto_region 4 with (go_at_call 74; refine (validOps_c _ _ _ _ HR.out).mono ?_; rw [HV.out]; rintro e w1 ⟨rfl, he⟩; have HE := As.mk he; clear he)
    have HI := As.mk (RI.lit HE.out)
    generalize w1.alloc (.cells #[] 3) = w2 at HI ⊢
    generalize w1.heap.size = g0 at HI ⊢
    clear HE
    go_upto_region 5 with fail
    go_loopw [3, 4] (fun o i wr => ∃ k : Nat, k ≤ 10 ∧ i = .int .i64 k ∧ ∃ g n c', o = .slice (some ⟨g, 0, none⟩) n c' ∧ n ≤ k ∧ As (n = (cls ops k).length) ∧ As (RI w wr (.slice (some ⟨g, 0, none⟩) n c') (cls ops k))) (fun _ i _ => 10 - (intOf i).toNat)
    case atStart => exact ⟨0, Nat.zero_le _, rfl, _, _, _, rfl, Nat.le_refl _, ⟨rfl⟩, ⟨HI.out⟩⟩
    case round =>
      obtain ⟨k, hk, rfl, g, n, c', rfl, hnk, hn, hri⟩ := hrel
      clear HI
      by_cases hlt : k < 10
      · have q1 : (k : Int) ≤ 9 := by omega
        have hsn := cls_snoc ops k
        obtain ⟨l, hl⟩ : ∃ l, l = cls ops k := ⟨_, rfl⟩
        rw [← hl] at hsn
        have HS := As.mk hsn
        have HR2 : As (RI w wr (.slice (some ⟨g, 0, none⟩) n c') l) := ⟨by rw [hl]; exact hri.out⟩
        have HN : As (l.length = n) := ⟨by rw [hl]; exact hn.out.symm⟩
        clear hsn hl hri hn
        go_upto_region 8 with fail
        go_loop [3, 5] (fun o i => ∃ j : Nat, j ≤ ops.length ∧ i = .int .i64 j ∧ o = .slice (some ⟨g, 0, none⟩) n c' ∧ As (hasC (ops.take j) k = false)) (fun _ i => ops.length - (intOf i).toNat)
        case atStart => exact ⟨0, Nat.zero_le _, rfl, rfl, ⟨rfl⟩⟩
        case round =>
          obtain ⟨j, hj, rfl, rfl, hno⟩ := hrel
          by_cases hlj : j < ops.length
          · obtain ⟨ad, rfl, m1, m2⟩ := (HR.out.ext HR2.out.e).2 j hlj
            obtain ⟨oc, hoc⟩ : ∃ oc, oc = ops[j].code := ⟨_, rfl⟩
            obtain ⟨oa, hoa⟩ : ∃ oa, oa = ops[j].arg := ⟨_, rfl⟩
            rw [← hoc] at m1
            rw [← hoa] at m2
            have HOC := As.mk hoc
            have HOA := As.mk hoa
            have q2 : (j : Int) < ops.length := by omega
            clear hoc hoa
            rcases bceq' oc 13 with rfl | q13
            · rcases bceq' oa k with rfl | qk
              · have HY : As (hasC ops k = true) := ⟨hasC_yes hlj HOC.out.symm HOA.out.symm⟩
                go_wp2_with ((at_builtin; refine app_int rfl _ _ rfl (.slice (some ⟨g, 0, none⟩) n c') l k rfl rfl HR2.out.r (by rw [HN.out]; omega) ?_; rw [HN.out]; intro gP cP w3 hap; have HO := As.mk (HR2.out.app hap); clear hap))
                go_roundw
                case measure => simp only [intOf]; omega
                case rel =>
                  have hl2 : (l ++ [(k : Int)]).length = n + 1 := by rw [List.length_append, HN.out]; rfl
                  have ho := HO.out
                  rw [hl2] at ho
                  have e2 : cls ops (k + 1) = l ++ [(k : Int)] := by rw [HS.out, if_pos HY.out]
                  exact ⟨k + 1, by omega, by go_num, gP, n + 1, cP, rfl, by omega, ⟨by rw [e2, hl2]⟩, ⟨by rw [e2]; exact ho⟩⟩
              · have HNX : As (hasC (ops.take (j + 1)) k = false) := ⟨hasC_no hlj hno.out (fun h => by rw [← HOA.out] at h; simp at qk; exact qk h.2)⟩
                go_wp2_with fail
                go_round
                case measure => simp only [intOf]; omega
                case rel => exact ⟨j + 1, by omega, by go_num, rfl, HNX⟩
            · have HNX : As (hasC (ops.take (j + 1)) k = false) := ⟨hasC_no hlj hno.out (fun h => by rw [← HOC.out] at h; simp at q13; exact q13 h.1)⟩
              go_wp2_with fail
              go_round
              case measure => simp only [intOf]; omega
              case rel => exact ⟨j + 1, by omega, by go_num, rfl, HNX⟩
          · have hjl : j = ops.length := by omega
            subst hjl
            have hno2 := hno.out
            rw [List.take_length] at hno2
            have HNO := As.mk hno2
            clear hno hno2 hlj
            go_wp2_with fail
            go_roundw
            case measure => simp only [intOf]; omega
            case rel =>
              have e2 : cls ops (k + 1) = l := by rw [HS.out, if_neg (by rw [HNO.out]; simp)]
              exact ⟨k + 1, by omega, by go_num, g, n, c', rfl, by omega, ⟨by rw [e2]; exact HN.out.symm⟩, ⟨by rw [e2]; exact HR2.out⟩⟩
      · have hk10 : k = 10 := by omega
        subst hk10
        go_wp2_with fail
        go_ret
        rw [HB.out]
        have hn2 := hn.out
        exact ⟨some ⟨g, 0, none⟩, c', c', cls ops 10, by rw [← hn2]; rfl, by rw [← hn2]; exact hri.out.r, List.take_length, ⟨Nat.le_refl _, by rw [← hn2]; omega⟩, hri.out.e, by rw [← hn2]; exact hri.out.f⟩
end Go.Proofs.Ytcodbpjaamggeaa.C
