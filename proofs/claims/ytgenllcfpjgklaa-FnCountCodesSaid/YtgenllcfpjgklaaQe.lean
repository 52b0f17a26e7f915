/- What tuples reach, as the reference finds it. -/
import Derived.Test.YtgenllcfpjgklaaQd
set_option linter.unusedVariables false
set_option linter.unusedSimpArgs false
namespace Go.Proofs.Ytgenllcfpjgklaa.P
theorem nodup_le : ∀ (n : Nat) (l : List Nat), l.Nodup → (∀ x ∈ l, x < n) → l.length ≤ n
  | 0, l, _, h => by
    cases l with
    | nil => exact Nat.le_refl _
    | cons x l => exact absurd (h x List.mem_cons_self) (by omega)
  | n + 1, l, hd, h => by
    by_cases hm : n ∈ l
    · have h1 := nodup_le n (l.erase n) (hd.erase n) (fun x hx => by
        have h2 := (hd.mem_erase_iff).1 hx
        have := h x h2.2
        omega)
      rw [List.length_erase_of_mem hm] at h1
      omega
    · have := nodup_le n l hd (fun x hx => by
        have h2 := h x hx
        have : x ≠ n := fun e => hm (e ▸ hx)
        omega)
      omega
theorem nodup_int {l : List Int} {n : Nat} (hd : l.Nodup) (h : ∀ x ∈ l, 0 ≤ x ∧ x < n) : l.length ≤ n := by
  have h1 := nodup_le n (l.map Int.toNat) (by
    rw [List.Nodup, List.pairwise_map]
    refine List.Pairwise.imp_of_mem (fun {a b} ha hb hne => ?_) hd
    have := h a ha
    have := h b hb
    intro e
    exact hne (by omega)) (fun x hx => by
    obtain ⟨y, hy, rfl⟩ := List.mem_map.1 hx
    have := h y hy
    omega)
  simpa using h1
/-- Where the walk over tuples stands. -/
structure TrI (ns : List Nd) (t : Int) (out list : List Int) (k : Nat) : Prop where
  hk : k ≤ list.length
  lw : ∀ x ∈ list, Wy tupB ns t x
  ol : ∀ x ∈ out, x ∈ list
  tk : ∀ x ∈ list.take k, x ∈ out
  kt : ∀ x ∈ (atN ns t).kids, x ∈ list
  ck : ∀ y ∈ out, tupB (atN ns y) = true → ∀ x ∈ (atN ns y).kids, x ∈ list
  nd : out.Nodup
  ln : list.length ≤ 6 + 6 * out.length
theorem TrI.new {ns : List Nd} {t : Int} (h : (atN ns t).kids.length ≤ 6) : TrI ns t [] (atN ns t).kids 0 :=
  ⟨Nat.zero_le _, fun x hx => .one hx, by simp, by simp, fun x hx => hx, by simp, List.nodup_nil, by simpa using h⟩
/-- A node that was met. -/
theorem TrI.old {ns : List Nd} {t : Int} {out list : List Int} {k : Nat} (h : TrI ns t out list k) (hk : k < list.length) (hm : list[k] ∈ out) : TrI ns t out list (k + 1) :=
  ⟨hk, h.lw, h.ol, fun x hx => by
    rw [List.take_succ_eq_append_getElem hk] at hx
    rcases List.mem_append.1 hx with hx | hx
    · exact h.tk x hx
    · rw [List.mem_singleton] at hx; rw [hx]; exact hm, h.kt, h.ck, h.nd, h.ln⟩
/-- A node that is no tuple. -/
theorem TrI.leaf {ns : List Nd} {t : Int} {out list : List Int} {k : Nat} (h : TrI ns t out list k) (hk : k < list.length) (hm : list[k] ∉ out) (hn : tupB (atN ns list[k]) = false) : TrI ns t (out ++ [list[k]]) list (k + 1) := by
  refine ⟨hk, h.lw, fun x hx => ?_, fun x hx => ?_, h.kt, fun y hy ht => ?_, ?_, ?_⟩
  · rcases List.mem_append.1 hx with hx | hx
    · exact h.ol x hx
    · rw [List.mem_singleton] at hx; rw [hx]; exact List.getElem_mem hk
  · rw [List.take_succ_eq_append_getElem hk] at hx
    rcases List.mem_append.1 hx with hx | hx
    · exact List.mem_append_left _ (h.tk x hx)
    · exact List.mem_append_right _ hx
  · rcases List.mem_append.1 hy with hy | hy
    · exact h.ck y hy ht
    · rw [List.mem_singleton] at hy; rw [hy, hn] at ht; exact nomatch ht
  · rw [List.nodup_append]
    exact ⟨h.nd, by simp, fun a ha b hb e => by rw [List.mem_singleton] at hb; rw [e, hb] at ha; exact hm ha⟩
  · have := h.ln; simp only [List.length_append, List.length_singleton]; omega
/-- A tuple. -/
theorem TrI.tup {ns : List Nd} {t : Int} {out list : List Int} {k : Nat} (h : TrI ns t out list k) (hk : k < list.length) (hm : list[k] ∉ out) (hn : tupB (atN ns list[k]) = true) (h6 : (atN ns list[k]).kids.length ≤ 6) : TrI ns t (out ++ [list[k]]) (list ++ (atN ns list[k]).kids) (k + 1) := by
  refine ⟨by rw [List.length_append]; omega, fun x hx => ?_, fun x hx => ?_, fun x hx => ?_, fun x hx => List.mem_append_left _ (h.kt x hx), fun y hy ht => ?_, ?_, ?_⟩
  · rcases List.mem_append.1 hx with hx | hx
    · exact h.lw x hx
    · exact .more (h.lw _ (List.getElem_mem hk)) hn hx
  · rcases List.mem_append.1 hx with hx | hx
    · exact List.mem_append_left _ (h.ol x hx)
    · rw [List.mem_singleton] at hx; rw [hx]; exact List.mem_append_left _ (List.getElem_mem hk)
  · rw [List.take_append_of_le_length (by omega), List.take_succ_eq_append_getElem hk] at hx
    rcases List.mem_append.1 hx with hx | hx
    · exact List.mem_append_left _ (h.tk x hx)
    · exact List.mem_append_right _ hx
  · rcases List.mem_append.1 hy with hy | hy
    · exact fun x hx => List.mem_append_left _ (h.ck y hy ht x hx)
    · rw [List.mem_singleton] at hy; rw [hy]; exact fun x hx => List.mem_append_right _ hx
  · rw [List.nodup_append]
    exact ⟨h.nd, by simp, fun a ha b hb e => by rw [List.mem_singleton] at hb; rw [e, hb] at ha; exact hm ha⟩
  · have := h.ln; simp only [List.length_append, List.length_singleton]; omega
theorem TrI.done {ns : List Nd} {t : Int} {out list : List Int} {k : Nat} (h : TrI ns t out list k) (hk : list.length ≤ k) (x : Int) : x ∈ out ↔ Wy tupB ns t x := by
  have hall : ∀ x ∈ list, x ∈ out := fun x hx => h.tk x (by rw [List.take_of_length_le hk]; exact hx)
  refine ⟨fun hx => h.lw x (h.ol x hx), fun hw => ?_⟩
  induction hw with
  | one hx => exact hall _ (h.kt _ hx)
  | more _ hp hx ih => exact hall _ (h.ck _ ih hp _ hx)
theorem TrI.small {ns : List Nd} {t : Int} {out list : List Int} {k : Nat} (h : TrI ns t out list k) (hn : ns.length ≤ 12) (hkid : ∀ n ∈ ns, ∀ x ∈ n.kids, 0 ≤ x ∧ x < ns.length) (h0 : 0 ≤ t ∧ t < ns.length) : list.length ≤ 78 ∧ (∀ x ∈ list, 0 ≤ x ∧ x < ns.length) := by
  have hr : ∀ x, Wy tupB ns t x → 0 ≤ x ∧ x < ns.length := fun x hw => by
    induction hw with
    | one hx => exact hkid _ (atN_mem h0.1 h0.2) _ hx
    | more _ _ hx ih => exact hkid _ (atN_mem ih.1 ih.2) _ hx
  have h1 := nodup_int h.nd (fun x hx => hr x (h.lw x (h.ol x hx)))
  exact ⟨by have := h.ln; omega, fun x hx => hr x (h.lw x hx)⟩
end Go.Proofs.Ytgenllcfpjgklaa.P
namespace Go.Proofs.Ytgenllcfpjgklaa.C
open Go.RowKit Go.Proofs.Ytgenllcfpjgklaa.W Go.Proofs.Ytgenllcfpjgklaa.P

/-- Where the walk stands. -/
def TrQ (w0 : World) (ns : List Nd) (t : Int) (v5 v6 : Value) (k : Nat) (wr : World) : Prop := ∃ out list Ao co Al cl, v5 = .slice Ao out.length co ∧ v6 = .slice Al list.length cl ∧ IR wr (.slice Ao out.length co) out ∧ IR wr (.slice Al list.length cl) list ∧ Apart (.slice Ao out.length co) (.slice Al list.length cl) ∧ Fresh (.slice Ao out.length co) w0 ∧ Fresh (.slice Al list.length cl) w0 ∧ Ext w0 wr ∧ TrI ns t out list k
theorem ext_app {w0 w1 w2 : World} {v : Value} (h : Ext w0 w1) (hf : Fr (fun k => v.ownBlock = some k) w1 w2) (hv : Fresh v w0) : Ext w0 w2 :=
  (Fr.then (S := fun _ => False) (Fr.ofExt h) hf (fun i hi => .inr (hv i hi))).ext (fun _ h => h.elim)
theorem fresh_app {w0 w1 : World} {v v' : Value} (h : Ext w0 w1) (ho : FreshOr v v' w1) (hv : Fresh v w0) : Fresh v' w0 := fun k hk => by
  rcases ho with e | ⟨b, e1, e2⟩
  · exact hv k (by rw [← e]; exact hk)
  · rw [e1] at hk; injection hk with hk; have := h.size; omega
def TrV (ns : List Nd) (t : Int) (w : World) (e : Ending) (w' : World) : Prop := ∃ (out : List Int) (Ao : Option Addr) (co : Nat), e = .returned (.slice Ao out.length co) ∧ RdI w' Ao out ∧ Ext w w' ∧ ∀ x, x ∈ out ↔ Wy tupB ns t x
theorem trQ_of {w0 : World} {ns : List Nd} {t : Int} {k : Nat} {wr : World} {out list : List Int} {Ao Al : Option Addr} {co cl n m : Nat} (hn : n = out.length) (hm : m = list.length) (h1 : IR wr (.slice Ao n co) out) (h2 : IR wr (.slice Al m cl) list) (h3 : Apart (.slice Ao n co) (.slice Al m cl)) (h4 : Fresh (.slice Ao n co) w0) (h5 : Fresh (.slice Al m cl) w0) (h6 : Ext w0 wr) (h7 : TrI ns t out list k) : TrQ w0 ns t (.slice Ao n co) (.slice Al m cl) k wr := by
  subst hn hm
  exact ⟨out, list, Ao, co, Al, cl, rfl, rfl, h1, h2, h3, h4, h5, h6, h7⟩
set_option maxRecDepth 100000 in
set_option maxHeartbeats 4000000 in
theorem tupleReach_c (A : Option Addr) (cA : Nat) (ns : List Nd) (r : Int) (t : Nat) (w : World) (hN : RdN w A ns) (hkid : ∀ n ∈ ns, n.kids.length ≤ 6 ∧ ∀ x ∈ n.kids, 0 ≤ x ∧ x < ns.length) (hl : ns.length ≤ 12) (ht : t < ns.length) :
    Calls Try.prog 144 #[.agg #[.slice A ns.length cA, .int .i64 r], .int .i64 t] w (TrV ns t w) := by
  have hx : Ext w (w.alloc (.cells #[.slice A ns.length cA, .int .i64 r] 105)) := (Ext.rf w).al _
  have ha : GB (w.alloc (.cells #[.slice A ns.length cA, .int .i64 r] 105)) w.heap.size (.slice A ns.length cA) (.int .i64 r) := al_new w _
  have HX := As.mk hx
  have HN := As.mk (hN.ext hx)
  have HA := As.mk ha
  have HK := As.mk hkid
  clear hN hx ha hkid
  go_enter Try.func144, Try.ntmps144
  go_upto_region 1 with fail
  generalize (w.alloc (.cells #[.slice A ns.length cA, .int .i64 r] 105)) = w0 at HX HA HN ⊢
  generalize w.heap.size = g at HA ⊢
  go_upto_region 2 with fail
  have hir : IR (w0.alloc (.cells #[] 3)) (.slice (some ⟨w0.heap.size, 0, none⟩) 0 0) [] := World.ownsRow_lit (base := 0) (size := 1) w0 #[] 0 (Nat.zero_le _) (by simp) rfl
  have HIR := As.mk hir
  have HX1 := As.mk ((Ext.rf w0).al (.cells #[] 3))
  have HSZ : As (w0.heap.size < (w0.alloc (.cells #[] 3)).heap.size) := ⟨by rw [al_size]; omega⟩
  clear hir
  generalize w0.alloc (.cells #[] 3) = w1 at HIR HX1 HSZ ⊢
  obtain ⟨gO, hgO⟩ : ∃ gO, gO = w0.heap.size := ⟨_, rfl⟩
  have HGO := As.mk hgO
  rw [← hgO] at HIR HSZ ⊢
  clear hgO
  obtain ⟨aN, Kt, ct, rfl, -, -, y2, -, hkt⟩ := (HN.out.ext HX1.out).2 t ht
  have c0 := gb_c0 (HX1.out.blk HA.out)
  obtain ⟨kt, hktt⟩ : ∃ kt, kt = ns[t].kids := ⟨_, rfl⟩
  rw [← hktt] at y2 hkt
  have HKT := As.mk (show kt = (atN ns t).kids by rw [hktt, atN_get t ht])
  have HRT := As.mk hkt
  have q1 : (t : Int) < ns.length := by omega
  clear hktt hkt
  go_upto_region 3 with (go_at_call 121; refine (copyInts_c _ _ _ _ HRT.out).mono ?_; rintro e w2 ⟨Al, cl, rfl, hI, he, hf⟩; have HIL := As.mk hI; have HE2 := As.mk he; have HFL := As.mk hf; clear hI he hf)
  have HQ0 : As (TrQ w0 ns t (.slice (some ⟨gO, 0, none⟩) 0 0) (.slice Al kt.length cl) 0 w2) := ⟨by
    have h6 := (HK.out _ (atN_mem (show (0 : Int) ≤ (t : Int) by omega) q1)).1
    have hob : ∀ k, (Value.slice (some ⟨gO, 0, none⟩) 0 0).ownBlock = some k → gO = k := fun k hk => by injection hk
    have hgo := HGO.out
    refine ⟨[], kt, _, _, _, _, rfl, rfl, HIR.out.ext HE2.out, HIL.out, Apart.fresh (fun k hk => own_lt HIR.out hk) HFL.out, fun k hk => by have := hob k hk; omega, fun k hk => Nat.le_trans HX1.out.size (HFL.out k hk), HX1.out.trans HE2.out, ?_⟩
    rw [HKT.out]
    exact TrI.new h6⟩
  clear HIR HX1 HSZ HGO HRT HKT HIL HE2 HFL y2 c0
  go_upto_region 4 with fail
  go_loopw [5, 6, 7] (fun v5 v6 i wr => ∃ k : Nat, k ≤ 100 ∧ i = .int .i64 k ∧ As (TrQ w0 ns t v5 v6 k wr)) (fun _ _ i _ => 100 - (intOf i).toNat)
  case atStart => exact ⟨0, by omega, rfl, HQ0⟩
  case round =>
    obtain ⟨k, hk, rfl, hst⟩ := hrel
    obtain ⟨out, list, Ao, co, Al2, cl2, rfl, rfl, hio, hil, hap, hfo, hfl, hex, htr⟩ := hst.out
    have HIO := As.mk hio
    have HIL := As.mk hil
    have HAP := As.mk (And.intro hap (And.intro hfo hfl))
    have HE := As.mk hex
    have HTR := As.mk htr
    obtain ⟨hsm, hrg⟩ := htr.small hl (fun n hn => (HK.out n hn).2) ⟨by omega, q1⟩
    have HRG := As.mk hrg
    have hkl := htr.hk
    have hol : out.length ≤ 100 := by
      have := nodup_int htr.nd (fun x hx => hrg x (htr.ol x hx))
      omega
    clear hst hio hil hap hfo hfl hex htr hrg HQ0
    by_cases hlt : k < list.length
    · obtain ⟨aL, hAL, x0⟩ := (rdA_J5 HIL.out (by omega)).2 k hlt
      subst hAL
      have hxr := HRG.out _ (List.getElem_mem hlt)
      obtain ⟨x, hx⟩ : ∃ x, x = list[k] := ⟨_, rfl⟩
      rw [← hx] at x0 hxr
      have HXX := As.mk hx
      have HLT := As.mk hlt
      have q2 : (k : Int) < list.length := by omega
      clear hx
      obtain ⟨b, hb⟩ : ∃ b, b = plc out x := ⟨_, rfl⟩
      have HB := As.mk hb
      have hbm := plc_mem out x
      rw [← hb] at hbm
      clear hb
      by_cases hbn : b < 0
      · have HNM := As.mk (show list[k] ∉ out by rw [← HXX.out]; intro e; have := hbm.1.2 e; omega)
        clear hbm
        go_upto_region 7 with (go_at_call 78; refine (placeIn_c _ _ _ _ _ (rdA_J5 HIO.out (by omega))).mono ?_; rw [← HB.out]; rintro e w3 ⟨rfl, rfl⟩)
        go_upto_region 8 with ((at_builtin; refine app_int rfl _ _ rfl (.slice Ao out.length co) out x rfl rfl HIO.out (by omega) ?_; intro gP cP w4 hap; have HA4 := As.mk hap; clear hap))
        have hob : ∀ k, (Value.slice (some ⟨gP, 0, none⟩) (out ++ [x]).length cP).ownBlock = some k → gP = k := fun k hk => by injection hk
        have hol1 : (out ++ [x]).length = out.length + 1 := by simp
        obtain ⟨a1, a2, a3, a4, -⟩ := HA4.out
        have HIO4 := As.mk a1
        have HE4 := As.mk (ext_app HE.out a2 HAP.out.2.1)
        have hfo4 : FreshOr (.slice Ao out.length co) (.slice (some ⟨gP, 0, none⟩) (out ++ [x]).length cP) wr := a3.elim (fun e => .inl (by rw [e]; rfl)) (fun e => .inr ⟨_, rfl, e⟩)
        have HFO4 := As.mk (fresh_app HE.out hfo4 HAP.out.2.1)
        have HIL4 := As.mk (HIL.out.fr a2 (fun k hk e => HAP.out.1 k e hk))
        have HAP4 : As (Apart (.slice (some ⟨gP, 0, none⟩) (out ++ [x]).length cP) (.slice (some aL) list.length cl2)) := ⟨(Apart.of (HAP.out.1).symm hfo4 (fun k hk => own_lt HIL.out hk)).symm⟩
        have HFL4 := As.mk HAP.out.2.2
        rw [hol1] at HIO4 HFO4 HAP4
        have HN4 := As.mk (HN.out.ext HE4.out)
        have HA5 := As.mk (HE4.out.blk HA.out)
        obtain ⟨_, hAL, x4⟩ := (rdA_J5 HIL4.out (by omega)).2 k hlt
        cases hAL
        rw [← HXX.out] at x4
        have HFO5 := HFO4
        clear a1 a2 a3 a4 hfo4 hob HA4 x0 HIO HIL HAP HE hol1 HFO4
        obtain ⟨j, rfl⟩ := Int.eq_ofNat_of_zero_le hxr.1
        have hj : j < ns.length := by omega
        have q3 : (j : Int) < ns.length := hxr.2
        have HYB : As ((aN.add (j * 3)).block < w0.heap.size) := ⟨by
          obtain ⟨_, _, _, hA, z0, _⟩ := HN.out.2 j hj
          cases hA
          exact World.block_lt_of_cell? w0 _ z0⟩
        obtain ⟨_, K1, c1, hAN, y0, -, y2, -, hrk⟩ := HN4.out.2 j hj
        cases hAN
        obtain ⟨kj, hkj⟩ : ∃ kj, kj = ns[j].kind := ⟨_, rfl⟩
        obtain ⟨lj, hlj⟩ : ∃ lj, lj = ns[j].kids := ⟨_, rfl⟩
        rw [← hkj] at y0
        rw [← hlj] at y2 hrk
        have HRK := As.mk hrk
        have HKJ := As.mk (show tupB (atN ns list[k]) = (kj == 2) by rw [← HXX.out, atN_get j hj]; unfold tupB; rw [hkj])
        have HLJ := As.mk (show lj = (atN ns list[k]).kids by rw [← HXX.out, atN_get j hj, hlj])
        have hl6 : lj.length ≤ 6 := by rw [hlj]; exact (HK.out _ (List.getElem_mem hj)).1
        have c0 := gb_c0 HA5.out
        clear hkj hlj hxr hrk hj
        rcases bceq kj 2 with rfl | hk2
        · have HT := As.mk (HTR.out.tup HLT.out HNM.out (by rw [HKJ.out]; rfl) (by rw [← HLJ.out]; exact hl6))
          rw [← HLJ.out, ← HXX.out] at HT
          go_upto_region 8 with fail
          go_quiet (fail)
          have HW := As.mk ((Ext.rf w4).dN nq)
          generalize w4.drewN nq = w5 at HW ⊢
          go_upto_region 9 with fail
          replace c0 := HW.out.cellOf c0; replace x4 := HW.out.cellOf x4; replace y0 := HW.out.cellOf y0; replace y2 := HW.out.cellOf y2
          refine region_perm (fun w' => w'.cell? ⟨g, 0, none⟩ = some (.slice (some aN) ns.length cA) ∧ w'.cell? (aL.add k) = some (.int .i64 j) ∧ w'.cell? ⟨(aN.add (j * 3)).block, (aN.add (j * 3)).off + 2, none⟩ = some (.slice K1 lj.length c1)) [] [(0, 0), (1, 0), (2, 1), (3, 0), (4, 0), (5, 0), (6, 1), (7, 0), (8, 0), (9, 1), (10, 2), (11, 0)] (by kernel_rfl) (by kernel_rfl) rfl (by kernel_rfl) (fun _ _ _ _ h => h) ?_
          have hS := And.intro c0 (And.intro x4 y2)
          repeat (first | refine wpP.c0 (h := ?_) | refine wpP.c1 (w := w5.drew) hS (h := ?_))
          refine wpP.ev (h := fun Kv hKv => ?_)
          have HDD := As.mk ((Ext.rf w5).dr)
          have HD := As.mk (HW.out.dr)
          generalize w5.drew = wd at HD HDD ⊢
          go_wp2_with ((at_builtin; refine app_intsA rfl _ _ rfl (.slice (some aL) list.length cl2) list K1 lj.length c1 lj rfl rfl rfl (HRK.out.ext HD.out) (HIL4.out.ext HD.out) (by omega) ?_; intro A' c' w6 hap; have HA6 := As.mk hap; clear hap))
          obtain ⟨a1, a2, a3, a4⟩ := HA6.out
          have s0 := gb_c0 (a2.blk (HD.out.blk HA5.out) (fun e => own_ne_blk HIL4.out HA5.out (by decide) e))
          obtain ⟨_, hAL, s1⟩ := (rdA_J5 a4 (by omega)).2 k hlt
          cases hAL
          rw [← HXX.out] at s1
          have hs2 : w0.heap.size ≤ (aN.add (j * 3)).block → False := fun e => by have := HYB.out; omega
          have s2 := a2.cell (HDD.out.cellOf y2) (fun e => hs2 (HFL4.out _ e))
          refine hKv.out _ _ ⟨s0, s1, s2⟩ ?_
          clear hKv Kv hS s0 s1 s2 hs2 a4
          repeat (first | refine wpP.c0 (h := ?_))
          refine wpP.done ?_
          have HIL6 := As.mk a1
          have HE5 := As.mk (HE4.out.trans HD.out)
          have HE6 := As.mk (ext_app HE5.out a2 HFL4.out)
          have HFL6 := As.mk (fresh_app HE5.out a3 HFL4.out)
          have HIO6 := As.mk ((HIO4.out.ext HD.out).fr a2 (fun k hk e => HAP4.out k hk e))
          have HAP6 := As.mk (Apart.of HAP4.out (a3.le (HD.out.size)) (fun k hk => own_lt HIO4.out hk))
          clear a1 a2 a3 c0 x4 y0 y2
          have hll : (list ++ lj).length = list.length + lj.length := by simp
          rw [hll] at HIL6 HFL6 HAP6 ⊢
          have HN := As.mk (trQ_of (w0 := w0) (out := out ++ [(j : Int)]) (list := list ++ lj) (by simp) hll.symm HIO6.out HIL6.out HAP6.out HFO5.out HFL6.out HE6.out HT.out)
          clear hll HIL6 HFL6 HAP6 HIO6 HE6
          go_wp2_with fail
          go_roundw
          case measure => simp only [intOf]; omega
          case rel => exact ⟨k + 1, by omega, by go_num, HN⟩
        · have HT := As.mk (HTR.out.leaf HLT.out HNM.out (by rw [HKJ.out]; exact hk2))
          rw [← HXX.out] at HT
          go_upto_region 8 with fail
          go_quiet (fail)
          go_wp2_with fail
          go_roundw
          case measure => simp only [intOf]; omega
          case rel => exact ⟨k + 1, by omega, by go_num, ⟨trQ_of (out := out ++ [(j : Int)]) (by simp) rfl (HIO4.out.ext ((Ext.rf _).dN _)) (HIL4.out.ext ((Ext.rf _).dN _)) HAP4.out HFO5.out HFL4.out (HE4.out.dN _) HT.out⟩⟩
      · have HM := As.mk (show list[k] ∈ out by rw [← HXX.out]; exact hbm.1.1 (by omega))
        clear hbm
        go_wp2_with (go_at_call 78; refine (placeIn_c _ _ _ _ _ (rdA_J5 HIO.out (by omega))).mono ?_; rw [← HB.out]; rintro e w3 ⟨rfl, rfl⟩)
        go_roundw
        case measure => simp only [intOf]; omega
        case rel => exact ⟨k + 1, by omega, by go_num, ⟨⟨out, list, _, _, _, _, rfl, rfl, HIO.out, HIL.out, HAP.out.1, HAP.out.2.1, HAP.out.2.2, HE.out, HTR.out.old HLT.out HM.out⟩⟩⟩
    · have q2 : ¬ (k : Int) < list.length := by omega
      have HD := As.mk (HTR.out.done (by omega))
      go_wp2_with fail
      go_ret
      exact ⟨out, _, co, rfl, rdA_J5 HIO.out (by omega), HX.out.trans HE.out, HD.out⟩
end Go.Proofs.Ytgenllcfpjgklaa.C
