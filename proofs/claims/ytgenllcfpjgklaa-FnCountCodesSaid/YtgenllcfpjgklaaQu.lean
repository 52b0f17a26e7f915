/- Some orders are drawn. -/
import Derived.Test.YtgenllcfpjgklaaQt
import Derived.Test.YtgenllcfpjgklaaQh
import Derived.Test.YtgenllcfpjgklaaQr
set_option linter.unusedVariables false
set_option linter.unusedSimpArgs false
namespace Go.Proofs.Ytgenllcfpjgklaa.C
open Go.RowKit Go.Proofs.Ytgenllcfpjgklaa.W Go.Proofs.Ytgenllcfpjgklaa.P

theorem set_same {α : Type} (l : List α) (i : Nat) (v : α) (h : l[i]? = some v) : l.set i v = l := by
  apply List.ext_getElem?
  intro j
  rw [List.getElem?_set]
  split
  · rename_i e
    subst e
    have hl : i < l.length := (List.getElem?_eq_some_iff.1 h).1
    rw [if_pos hl, h]
  · rfl
theorem OR.setC {w : World} {ad : Addr} {n c : Nat} {l : List Opr} (h : OR w (.slice (some ad) n c) l) (k : Nat) (hk : k < l.length) (z : Int) :
    OR (w.setCell (ad.add (k * 2)) (.int .i64 z)) (.slice (some ad) n c) (l.set k ⟨z, l[k].arg⟩) := by
  obtain ⟨g, rfl⟩ : ∃ g, ad = ⟨g, 0, none⟩ := by
    rcases h.2 with ⟨hv, _⟩ | ⟨g, cap, cur, hv, _⟩
    · exact nomatch hv
    · injection hv with hv; injection hv with hv; exact ⟨g, hv⟩
  obtain ⟨A', c', hv, _, _⟩ := own_form h
  injection hv with hv1 hv2 hv3
  subst hv1 hv2 hv3
  rw [(add_at g (k * 2) 0).1]
  have hf : World.ownsRow w 0 52 2 (.slice (some ⟨g, 0, none⟩) l.length c) l.length (ocs l) := h
  have := own_set hf (k * 2) (.int .i64 z)
  have e : (ocs l).set (k * 2) (.int .i64 z) = ocs (l.set k ⟨z, l[k].arg⟩) := by
    rw [ocs_set l k hk]
    exact (set_same _ _ _ (by rw [List.getElem?_set_ne (by omega)]; exact (ocs_at l k hk).2)).symm
  rw [e] at this
  unfold OR
  rw [List.length_set]
  exact this
theorem OR.setG {w : World} {ad : Addr} {n c : Nat} {l : List Opr} (h : OR w (.slice (some ad) n c) l) (k : Nat) (hk : k < l.length) (z : Int) :
    OR (w.setCell ⟨(ad.add (k * 2)).block, (ad.add (k * 2)).off + 1, none⟩ (.int .i64 z)) (.slice (some ad) n c) (l.set k ⟨l[k].code, z⟩) := by
  obtain ⟨g, rfl⟩ : ∃ g, ad = ⟨g, 0, none⟩ := by
    rcases h.2 with ⟨hv, _⟩ | ⟨g, cap, cur, hv, _⟩
    · exact nomatch hv
    · injection hv with hv; injection hv with hv; exact ⟨g, hv⟩
  obtain ⟨A', c', hv, _, _⟩ := own_form h
  injection hv with hv1 hv2 hv3
  subst hv1 hv2 hv3
  rw [(add_at g (k * 2) 1).2]
  have hf : World.ownsRow w 0 52 2 (.slice (some ⟨g, 0, none⟩) l.length c) l.length (ocs l) := h
  have := own_set hf (k * 2 + 1) (.int .i64 z)
  have e : (ocs l).set (k * 2 + 1) (.int .i64 z) = ocs (l.set k ⟨l[k].code, z⟩) := by
    rw [ocs_set l k hk]
    congr 1
    exact (set_same _ _ _ (ocs_at l k hk).1).symm
  rw [e] at this
  unfold OR
  rw [List.length_set]
  exact this
theorem ocs_take (l : List Opr) : ∀ m : Nat, ocs (l.take m) = (ocs l).take (m * 2) := by
  induction l with
  | nil => intro m; simp [ocs]
  | cons o l ih =>
    intro m
    cases m with
    | zero => simp [ocs]
    | succ m =>
      rw [List.take_succ_cons, ocs_cons, ocs_cons, ih m, show (m + 1) * 2 = m * 2 + 1 + 1 by omega, List.take_succ_cons, List.take_succ_cons]
theorem OR.take {w : World} {A : Option Addr} {n c : Nat} {l : List Opr} (h : OR w (.slice A n c) l) (hn : n = l.length) (m : Nat) (hm : m ≤ n) : OR w (.slice A m c) (l.take m) := by
  subst hn
  have h1 := own_take h m hm
  have e : (l.take m).length = m := by rw [List.length_take]; omega
  unfold OR
  rw [e, ocs_take]
  exact h1
theorem slice_toOA (A : Option Addr) (n c k : Nat) (hk : k ≤ n) (hc : n ≤ c) : ∀ W : World, (Instr.slice 30 (.slice A n c) none (some (.int .i64 (k : Int))) none).run Try.prog W = .ok (.slice A k c) W := by
  intro W
  have ht : Try.prog.underlying 30 = some (.slice 52) := by kernel_rfl
  obtain ⟨inf, hi, hsz⟩ := Option.map_eq_some_iff.1 infoOb
  have hel : Try.prog.elem 30 = 52 := by simp [Program.elem, ht]
  have hu : Try.prog.underlying 30 = some (.slice (Try.prog.elem 30)) := by rw [hel]; exact ht
  have ha : (A.map fun x => x.add 0) = A := by cases A <;> simp [Addr.add]
  rw [run_slice_h W 30 A n c hu .i64 (k : Int) (by omega) (by omega), hel]
  simp [sizeOf, typeInfo, hi, hsz, sliced, Result.andThen, ha]
theorem OR.cap {w : World} {A : Option Addr} {n c : Nat} {l : List Opr} (h : OR w (.slice A n c) l) (hn : n = l.length) : n ≤ c ∧ (0 < n → ∃ ad, A = some ad) := by
  obtain ⟨A', c', h1, h2, _⟩ := own_form h
  injection h1 with h3 h4 h5
  subst h5
  refine ⟨by omega, fun h0 => ?_⟩
  rcases h.2 with ⟨hv, h6⟩ | ⟨g, cap, cur, hv, _⟩
  · omega
  · injection hv with hv; exact ⟨_, hv⟩
theorem own_cut (A : Option Addr) (m n c : Nat) : (Value.slice A m c).ownBlock = (Value.slice A n c).ownBlock := by cases A <;> rfl
/-- The row while it is changed. -/
def OpQ (w : World) (g p d : Nat) (A : Option Addr) (n c : Nat) (wr : World) : Prop := ∃ l q, n = l.length ∧ n ≤ 30000 ∧ OR wr (.slice A n c) l ∧ (∀ j, (Value.slice A n c).ownBlock = some j → w.heap.size ≤ j) ∧ q ≤ p + d ∧ Rdr wr g q ∧ g < w.heap.size ∧ Fr (fun j => j = g) w wr
theorem OpQ.own_lt {w g p d A n c wr} (h : OpQ w g p d A n c wr) : ∀ j, (Value.slice A n c).ownBlock = some j → g < j := fun j hj => by
  obtain ⟨l, q, _, _, _, h1, _, _, h2, _⟩ := h
  have := h1 j hj; omega
/-- The reader has picked once or more. -/
theorem OpQ.pick {w g p d A n c wr w' q' k} (h : OpQ w g p d A n c wr) (hr : Rdr w' g q') (hf : Fr (fun j => j = g) wr w') (hq : ∀ q, q ≤ p + d → q' ≤ q + k ∨ q' ≤ p + d + k) (hq2 : q' ≤ p + d + k) : OpQ w g p (d + k) A n c w' := by
  obtain ⟨l, q, h1, h2, h3, h4, h5, h6, h7, h8⟩ := h
  exact ⟨l, q', h1, h2, h3.fr hf (fun j hj e => by have := h4 j hj; omega), h4, by omega, hr, h7, h8.trans hf⟩
/-- Some orders come back, in a row of the caller's. -/
def OpsV (w : World) (g p : Nat) (e : Ending) (w' : World) : Prop := ∃ A c l, e = .returned (.slice A l.length c) ∧ OR w' (.slice A l.length c) l ∧ Fresh (.slice A l.length c) w ∧ As (l.length ≤ 30000) ∧ Drew w g p 400 w'
theorem OpQ.out {w g p d A n c wr} (h : OpQ w g p d A n c wr) (hd : d ≤ 400) : OpsV w g p (.returned (.slice A n c)) wr := by
  obtain ⟨l, q, h1, h2, h3, h4, h5, h6, h7, h8⟩ := h
  subst h1
  exact ⟨A, c, l, rfl, h3, h4, ⟨h2⟩, ⟨q, by omega, h6⟩, h8⟩
set_option maxRecDepth 100000 in
set_option maxHeartbeats 4000000 in
theorem someOps_c (w : World) (g p : Nat) (hr : Rdr w g p) (hp : p + 400 ≤ 1000000) :
    Calls Try.prog 70 #[.pointer (some ⟨g, 0, none⟩)] w (OpsV w g p) := by
  have hg := hr.lt
  have hx : Ext w (w.alloc (.cells #[] 52)) := (Ext.rf w).al _
  have HX := As.mk hx
  have HR := As.mk (hr.ext hx)
  clear hx hr
  go_enter Try.func70, Try.ntmps70
  go_upto_region 2 with fail
  generalize (w.alloc (.cells #[] 52)) = w0 at HX HR ⊢
  go_upto_if 7 with (go_at_call 95; refine (pick_c _ _ _ _ HR.out (by omega) (by omega)).mono ?_; rintro e w1 ⟨x, rfl, hx0, hx1, hrd, hf⟩; have HRD := As.mk hrd; have HF := As.mk ((Fr.ofExt HX.out).trans hf); clear hx0 hx1 hrd hf)
  go_cut [3] (fun v wx => ∃ A n c, v = .slice A n c ∧ As (OpQ w g p 330 A n c wx))
  case first =>
    by_cases hx : x = 0
    · subst hx
      go_wp2_with (go_at_call 62; refine (likelyOps_c _ _ _ HRD.out (by omega)).mono ?_; rintro e w2 ⟨A, c, l, rfl, ho, hf, hl, ⟨q, hq, hrd⟩, hfr⟩; have HQ : As (OpQ w g p 330 A l.length c w2) := ⟨l, q, rfl, (by have := hl.out; omega), ho, fun j hj => Nat.le_trans HF.out.size (hf j hj), by omega, hrd, hg, HF.out.trans hfr⟩; clear ho hf hl hq hrd hfr)
      go_meet
      exact ⟨A, l.length, c, rfl, HQ⟩
    · go_upto_region 5 with (first | (go_at_call 105; refine (someGraph_c _ _ _ HRD.out (by omega)).mono ?_; rintro e w2 ⟨A, c, lg, ns, r, q, rfl, hnw, hvg, hq, hrd, hf⟩; have HNW := As.mk hnw; have HVG := As.mk hvg; have HRD2 := As.mk hrd; have HF2 := As.mk (HF.out.trans hf); have HSZ := As.mk (show g < w1.heap.size from HRD.out.lt); clear hnw hvg hrd hf) | (go_at_call 95; refine (pick_c _ _ _ _ HRD2.out (by omega) (by omega)).mono ?_; rintro e w3 ⟨y, rfl, hy0, hy1, hrd, hf⟩; have HRD3 := As.mk hrd; have HF3 := As.mk (HF2.out.trans hf); have HNW3 := As.mk (HNW.out.fr hf (fun j hj e => by have h1 : w1.heap.size ≤ j := HNW.out.lo j hj; have := HSZ.out; omega)); clear hy0 hy1 hrd hf) | (go_at_call 104; refine (written_c HVG.out _ (HNW3.out.rd (by have := HVG.out.hi; omega))).mono ?_; rintro e w4 ⟨A4, c4, l4, rfl, ho, he, hf, hl⟩; have HQ : As (OpQ w g p 200 A4 l4.length c4 w4) := ⟨l4, q + 1, rfl, hl.out, ho, fun j hj => Nat.le_trans HF3.out.size (hf j hj), by omega, HRD3.out.ext he, hg, HF3.out.trans (Fr.ofExt he)⟩; clear ho he hf hl))
      obtain ⟨n4, hn4⟩ : ∃ n4, n4 = l4.length := ⟨_, rfl⟩
      rw [← hn4] at HQ ⊢
      clear hn4 HNW3 HNW HVG HRD3 HRD2 HF3 HF2 HSZ
      go_cut [22] (fun v wx => ∃ b : Bool, v = .bool b ∧ As (OpQ w g p 210 A4 n4 c4 wx) ∧ As (b = true → 0 < n4))
      case first =>
        obtain ⟨l, q, h1, h2, h3, h4, h5, h6, -, h8⟩ := HQ.out
        have HH := As.mk HQ.out
        have HRD4 := As.mk h6
        clear HQ h1 h3 h4 h6 h8
        go_wp2_with (go_at_call 95; refine (pick_c _ _ _ _ HRD4.out (by omega) (by omega)).mono ?_; rintro e w5 ⟨x, rfl, hx0, hx1, hrd, hf⟩; have HQ5 : As (OpQ w g p 210 A4 n4 c4 w5) := ⟨HH.out.pick (k := 10) hrd hf (fun _ _ => .inr (by omega)) (by omega)⟩; clear hx0 hx1 hrd hf)
        all_goals
          go_meet
          exact ⟨_, rfl, HQ5, ⟨fun h => by first | exact absurd h (by decide) | simpa using h⟩⟩
      case rest =>
        obtain ⟨b, rfl, hq, hb⟩ := hcut
        go_upto_if 22 with fail
        go_cut [3] (fun v wx => ∃ A n c, v = .slice A n c ∧ As (OpQ w g p 250 A n c wx))
        case first =>
          cases b with
          | false =>
            go_wp2_with fail
            go_meet
            exact ⟨A4, n4, c4, rfl, ⟨by obtain ⟨l, q, h1, h2, h3, h4, h5, h6, h7, h8⟩ := hq.out; exact ⟨l, q, h1, h2, h3, h4, by omega, h6, h7, h8⟩⟩⟩
          | true =>
            have hn0 := hb.out rfl
            obtain ⟨l, q, h1, h2, h3, h4, h5, h6, -, h8⟩ := hq.out
            obtain ⟨ad, rfl⟩ := (h3.cap h1).2 hn0
            have HH := As.mk hq.out
            have HN := As.mk h1
            have HO := As.mk h3
            have HL := As.mk h4
            have HRD4 := As.mk h6
            have HFR := As.mk h8
            clear hq h1 h3 h4 h6 h8 hb
            go_wp2_with (first | (go_at_call 95; refine (pick_c _ _ _ _ HRD4.out (by omega) (by omega)).mono ?_; rintro e w5 ⟨x, rfl, hx0, hx1, hrd, hf⟩; obtain ⟨j, rfl⟩ := Int.eq_ofNat_of_zero_le hx0; have hj : j < n4 := (by omega); have HRD5 := As.mk hrd; have HF5 := As.mk hf; clear hx0 hx1 hrd hf) | (go_at_call 94; refine (someOp_c _ _ _ HRD5.out (by omega)).mono ?_; rintro e w6 ⟨oc, oa, rfl, -, ⟨q6, hq6, hrd⟩, hf⟩; have HRD6 := As.mk hrd; have HF6 := As.mk (HF5.out.trans hf); have HO6 := As.mk (HO.out.fr HF6.out (fun i hi e => by have h1 := HL.out i hi; omega)); obtain ⟨ad', hh, d0, d1⟩ := (rdA_O HO6.out (by have := HN.out; omega)).2 j (by have := HN.out; omega); injection hh with hh; subst hh; have f0 := (OR.fz HO6.out (j * 2)).1; have f1 := (OR.fz HO6.out (j * 2)).2; have n1 := next_cell w6 (ad.add (j * 2)) d1 (.int .i64 oc); have n2 := next_fz w6 (ad.add (j * 2)) f1 (.int .i64 oc); clear hrd hf))
            go_meet
            have hs : Fr (fun i => (Value.slice (some ad) n4 c4).ownBlock = some i) w6 ((w6.setCell (ad.add (j * 2)) (.int .i64 oc)).setCell ⟨(ad.add (j * 2)).block, (ad.add (j * 2)).off + 1, none⟩ (.int .i64 oa)) := (Fr.set w6 _ (OR.blk HO6.out (j * 2))).trans (Fr.set _ _ (OR.blk HO6.out (j * 2)))
            exact ⟨some ad, n4, c4, rfl, ⟨l.set j ⟨oc, oa⟩, q6, by rw [List.length_set]; exact HN.out, by omega, OR.setA HO6.out j (by have := HN.out; omega) ⟨oc, oa⟩, HL.out, by omega, HRD6.out.fr hs (fun i hi => by have h1 := HL.out i hi; omega), hg, (HFR.out.trans HF6.out).then hs (fun i hi => .inr (HL.out i hi))⟩⟩
        case rest =>
          obtain ⟨A5, n5, c5, rfl, hq⟩ := hcut
          have HQ5 := As.mk hq.out
          clear hq hb
          obtain ⟨l, q, h1, h2, h3, h4, h5, h6, -, h8⟩ := HQ5.out
          have HRD5 := As.mk h6
          have HN := As.mk h1
          have HO := As.mk h3
          have HL := As.mk h4
          have HFR := As.mk h8
          have hcap := (h3.cap h1).1
          clear h1 h3 h4 h6 h8
          go_upto_if 33 with (go_at_call 95; refine (pick_c _ _ _ _ HRD5.out (by omega) (by omega)).mono ?_; rintro e w6 ⟨x, rfl, hx0, hx1, hrd, hf⟩; have HRD6 := As.mk hrd; have HF6 := As.mk hf; have HQ6 : As (OpQ w g p 260 A5 n5 c5 w6) := ⟨HQ5.out.pick (k := 10) hrd hf (fun _ _ => .inr (by omega)) (by omega)⟩; clear hx0 hx1 hrd hf)
          by_cases hx : x = 0
          · subst hx
            have hO6 := As.mk (HO.out.fr HF6.out (fun i hi e => by have h1 := HL.out i hi; omega))
            go_wp2_with (go_at_call 95; refine (pick_c _ _ _ _ HRD6.out (by omega) (by omega)).mono ?_; rintro e w7 ⟨y, rfl, hy0, hy1, hrd, hf⟩; obtain ⟨j, rfl⟩ := Int.eq_ofNat_of_zero_le hy0; have hj : j ≤ n5 := (by omega); have HRD7 := As.mk hrd; have HF7 := As.mk hf; have hsl := slice_toOA A5 n5 c5 j hj hcap; clear hy0 hy1 hrd hf)
            go_meet
            exact ⟨A5, j, c5, rfl, ⟨l.take j, q + 1 + 1, by rw [List.length_take]; have := HN.out; omega, by omega, (OR.take hO6.out HN.out j hj).fr HF7.out (fun i hi e => by have h1 := HL.out i (by rw [← own_cut A5 j n5 c5]; exact hi); omega), fun i hi => HL.out i (by rw [← own_cut A5 j n5 c5]; exact hi), by omega, HRD7.out, hg, (HFR.out.trans HF6.out).trans HF7.out⟩⟩
          · go_wp2_with fail
            go_meet
            exact ⟨A5, n5, c5, rfl, ⟨by obtain ⟨l, q, h1, h2, h3, h4, h5, h6, h7, h8⟩ := HQ6.out; exact ⟨l, q, h1, h2, h3, h4, by omega, h6, h7, h8⟩⟩⟩
  case rest =>
    obtain ⟨A5, n5, c5, rfl, hq⟩ := hcut
    have HQ5 := As.mk hq.out
    clear hq
    by_cases hn0 : (0 : Int) < n5
    · obtain ⟨l, q, h1, h2, h3, h4, h5, h6, -, h8⟩ := HQ5.out
      obtain ⟨ad, rfl⟩ := (h3.cap h1).2 (by omega)
      have HRD5 := As.mk h6
      have HN := As.mk h1
      have HO := As.mk h3
      have HL := As.mk h4
      have HFR := As.mk h8
      clear h1 h3 h4 h6 h8
      go_upto_region 11 with (go_at_call 95; refine (pick_c _ _ _ _ HRD5.out (by omega) (by omega)).mono ?_; rintro e w6 ⟨x, rfl, hx0, hx1, hrd, hf⟩; have HRD6 := As.mk hrd; have HF6 := As.mk hf; have HQ6 : As (OpQ w g p 340 (some ad) n5 c5 w6) := ⟨HQ5.out.pick (k := 10) hrd hf (fun _ _ => .inr (by omega)) (by omega)⟩; have HO6 := As.mk (HO.out.fr hf (fun i hi e => by have h1 := HL.out i hi; omega)); clear hx0 hx1 hrd hf)
      rcases (show x = 0 ∨ x = 1 ∨ (¬ x = 0 ∧ ¬ x = 1) by omega) with hx | hx | hx
      · subst hx
        have e0 : ad.add 0 = ad := by simp [Addr.add]
        go_wp2_with (go_at_call 87; refine (one_c _ _ _ (some ⟨w6.heap.size, 0, none⟩) 2 [-1, 20] (HRD6.out.ext ((Ext.rf _).al _)) (by omega) (rdA_J5 (n := 2) (c := 2) (l := [-1, 20]) (World.ownsRow_lit (base := 0) (e := 3) (size := 1) w6 #[.int .i64 (-1), .int .i64 (20)] 2 (Nat.zero_le _) (by decide) rfl) (by simp)) (fun ad e => by have h1 := HRD6.out.lt; injection e with e; subst e; show w6.heap.size ≠ g; omega) (by simp) (by simp)).mono ?_; rintro e w7 ⟨z, rfl, -, hrd, hf⟩; have HRD7 := As.mk hrd; have HF7 := As.mk ((Fr.ofExt ((Ext.rf w6).al (.cells #[.int .i64 (-1), .int .i64 (20)] 3))).trans hf); have HO7 := As.mk (HO6.out.fr HF7.out (fun i hi e => by have h1 := HL.out i hi; omega)); obtain ⟨ad', hh, d0, d1⟩ := (rdA_O HO7.out (by have := HN.out; omega)).2 0 (by have := HN.out; omega); injection hh with hh; subst hh; have f0 := (OR.fz HO7.out (0 * 2)).1; have f1 := (OR.fz HO7.out (0 * 2)).2; simp only [Nat.zero_mul, e0] at d0 d1 f0 f1; clear hrd hf)
        go_ret
        have hs : Fr (fun i => (Value.slice (some ad) n5 c5).ownBlock = some i) w7 (w7.setCell (ad.add (0 * 2)) (.int .i64 z)) := Fr.set w7 _ (OR.blk HO7.out (0 * 2))
        have hl0 : 0 < l.length := by have := HN.out; omega
        have hq : OpQ w g p 400 (some ad) n5 c5 (w7.setCell (ad.add (0 * 2)) (.int .i64 z)) := ⟨l.set 0 ⟨z, (l[0]'hl0).arg⟩, q + 1 + 1, by rw [List.length_set]; exact HN.out, by omega, OR.setC HO7.out 0 hl0 z, HL.out, by omega, HRD7.out.fr hs (fun i hi => by have h1 := HL.out i hi; omega), hg, ((HFR.out.trans HF6.out).trans HF7.out).then hs (fun i hi => .inr (HL.out i hi))⟩
        rw [Nat.zero_mul, e0] at hq
        exact hq.out (by omega)
      · subst hx
        obtain ⟨j, hj⟩ : ∃ j, n5 = j + 1 := ⟨n5 - 1, by omega⟩
        subst hj
        go_wp2_with (go_at_call 87; refine (one_c _ _ _ (some ⟨w6.heap.size, 0, none⟩) 3 [-1, 1000, 1] (HRD6.out.ext ((Ext.rf _).al _)) (by omega) (rdA_J5 (n := 3) (c := 3) (l := [-1, 1000, 1]) (World.ownsRow_lit (base := 0) (e := 3) (size := 1) w6 #[.int .i64 (-1), .int .i64 (1000), .int .i64 (1)] 3 (Nat.zero_le _) (by decide) rfl) (by simp)) (fun ad e => by have h1 := HRD6.out.lt; injection e with e; subst e; show w6.heap.size ≠ g; omega) (by simp) (by simp)).mono ?_; rintro e w7 ⟨z, rfl, -, hrd, hf⟩; have HRD7 := As.mk hrd; have HF7 := As.mk ((Fr.ofExt ((Ext.rf w6).al (.cells #[.int .i64 (-1), .int .i64 (1000), .int .i64 (1)] 3))).trans hf); have HO7 := As.mk (HO6.out.fr HF7.out (fun i hi e => by have h1 := HL.out i hi; omega)); obtain ⟨ad', hh, d0, d1⟩ := (rdA_O HO7.out (by have := HN.out; omega)).2 j (by have := HN.out; omega); injection hh with hh; subst hh; have f0 := (OR.fz HO7.out (j * 2)).1; have f1 := (OR.fz HO7.out (j * 2)).2; clear hrd hf)
        go_ret
        have hs : Fr (fun i => (Value.slice (some ad) (j + 1) c5).ownBlock = some i) w7 (w7.setCell ⟨(ad.add (j * 2)).block, (ad.add (j * 2)).off + 1, none⟩ (.int .i64 z)) := Fr.set w7 _ (OR.blk HO7.out (j * 2))
        have hl0 : j < l.length := by have := HN.out; omega
        have hq : OpQ w g p 400 (some ad) (j + 1) c5 (w7.setCell ⟨(ad.add (j * 2)).block, (ad.add (j * 2)).off + 1, none⟩ (.int .i64 z)) := ⟨l.set j ⟨(l[j]'hl0).code, z⟩, q + 1 + 1, by rw [List.length_set]; exact HN.out, by omega, OR.setG HO7.out j hl0 z, HL.out, by omega, HRD7.out.fr hs (fun i hi => by have h1 := HL.out i hi; omega), hg, ((HFR.out.trans HF6.out).trans HF7.out).then hs (fun i hi => .inr (HL.out i hi))⟩
        exact hq.out (by omega)
      · obtain ⟨h1, h2⟩ := hx
        go_wp2_with fail
        go_ret
        exact HQ6.out.out (by omega)
    · go_wp2_with fail
      go_ret
      exact HQ5.out.out (by omega)
end Go.Proofs.Ytgenllcfpjgklaa.C
