/- The reference's machine: keys and values. -/
import Derived.Test.YtcodbpjaamggeaaMb
import Derived.IntWalk
set_option linter.unusedVariables false
set_option linter.unusedSimpArgs false
namespace Go.Proofs.Ytcodbpjaamggeaa.C
open Go.RowKit Go.Proofs.Ytcodbpjaamggeaa.W Go.Proofs.Ytcodbpjaamggeaa.P

theorem goodK_odd (nodes : List Nd) : ∀ l : List Int, l.length % 2 ≠ 0 → goodK nodes l = false
  | [], h => by simp at h
  | [_], _ => rfl
  | k :: v :: r, h => by
    have := goodK_odd nodes r (by simp only [List.length_cons] at h; omega)
    simp [goodK, this]
theorem key_le (k : Int) (h : 0 ≤ k) : decide (k = 0 ∨ k = 1) = decide (k ≤ 1) := by
  rw [Bool.eq_iff_iff]; simp; omega
set_option maxRecDepth 100000 in
set_option maxHeartbeats 1000000 in
theorem sgoodKeys_c (AN AS AM : Option Addr) (cN nS cS nM cM : Nat) (m : Mc) (A : Option Addr) (c n : Nat) (list : List Int) (w : World) (hN : RdN w AN m.nodes) (hL : RdI w A list) (hn : list.length = n) (hln : n ≤ 1000) (hin : ∀ x ∈ list, 0 ≤ x ∧ x < m.nodes.length) (hk : ∀ x ∈ m.nodes, 0 ≤ x.kind) :
    Calls Try.prog 175 #[.agg #[.slice AN m.nodes.length cN, .slice AS nS cS, .slice AM nM cM, .bool m.done], .slice A n c] w fun e w' => e = .returned (.bool (goodK m.nodes list)) ∧ Ext w w' := by
  have hlenN := hN.1
  have HN := As.mk hN
  have HL := As.mk hL
  have HI := As.mk hin
  have HK := As.mk hk
  have HLN := As.mk hn
  clear hN hL hin hk hn
  go_enter Try.func175, Try.ntmps175
  go_upto_region 1 with fail
  have hb := al_new w (.cells #[.slice AN m.nodes.length cN, .slice AS nS cS, .slice AM nM cM, .bool m.done] 64)
  have HE := As.mk ((Ext.rf w).al (.cells #[.slice AN m.nodes.length cN, .slice AS nS cS, .slice AM nM cM, .bool m.done] 64))
  generalize w.alloc (.cells #[.slice AN m.nodes.length cN, .slice AS nS cS, .slice AM nM cM, .bool m.done] 64) = w1 at hb HE ⊢
  generalize w.heap.size = g at hb ⊢
  have HB := As.mk (MB.c0 hb)
  clear hb
  go_upto_region 2 with fail
  go_loopw [5] (fun i wr => ∃ k : Nat, k ≤ n + 1 ∧ i = .int .i64 k ∧ As (k % 2 = 0 ∧ (n % 2 = 0 → goodK m.nodes list = goodK m.nodes (list.drop k))) ∧ As (Ext w1 wr)) (fun i _ => n + 1 - (intOf i).toNat)
  case atStart => exact ⟨0, Nat.zero_le _, rfl, ⟨rfl, fun _ => rfl⟩, ⟨Ext.rf _⟩⟩
  case round =>
    obtain ⟨k, hk, rfl, hg, he⟩ := hrel
    have b0 := he.out.cellOf HB.out
    by_cases hlt : k < n
    · have hkl : k < list.length := by have := HLN.out; omega
      obtain ⟨ad, rfl, h1⟩ := (HL.out.ext (HE.out.trans he.out)).2 k hkl
      obtain ⟨x, hx⟩ := Int.eq_ofNat_of_zero_le (HI.out _ (List.getElem_mem hkl)).1
      have hxl : x < m.nodes.length := by have := (HI.out _ (List.getElem_mem hkl)).2; rw [hx] at this; exact Int.ofNat_lt.1 this
      rw [hx] at h1
      have HX := As.mk hx
      obtain ⟨aN, KN, cK, rfl, k0, k1, k2, -, -⟩ := (HN.out.ext (HE.out.trans he.out)).2 x hxl
      obtain ⟨kd, hkd⟩ : ∃ kd, kd = m.nodes[x].kind := ⟨_, rfl⟩
      obtain ⟨kv, hkv⟩ : ∃ kv, kv = m.nodes[x].val := ⟨_, rfl⟩
      obtain ⟨kn, hkn⟩ : ∃ kn, kn = m.nodes[x].kids.length := ⟨_, rfl⟩
      rw [← hkd] at k0
      rw [← hkv] at k1
      rw [← hkn] at k2
      have hk0 : 0 ≤ kd := by rw [hkd]; exact HK.out _ (List.getElem_mem hxl)
      have HKD := As.mk hkd
      have q1 : (k : Int) < n := by omega
      have q2 : (x : Int) < m.nodes.length := by omega
      have q3 : (0 : Int) ≤ x := by omega
      clear hkd hkv hkn hx
      obtain ⟨ck, hck⟩ : ∃ ck, ck = decide (kd ≤ 1) := ⟨_, rfl⟩
      have HCK := As.mk (hck.trans (key_le kd hk0).symm)
      have HCK2 := As.mk hck
      clear hck
      go_upto_region 4 with fail
      refine region_perm (fun w' => w'.cell? ⟨g, 0, none⟩ = some (.slice (some aN) m.nodes.length cN) ∧ w'.cell? (ad.add k) = some (.int .i64 x) ∧ w'.cell? (aN.add (x * 3)) = some (.int .i64 kd) ∧ w'.cell? ⟨(aN.add (x * 3)).block, (aN.add (x * 3)).off + 1, none⟩ = some (.int .i64 kv) ∧ w'.cell? ⟨(aN.add (x * 3)).block, (aN.add (x * 3)).off + 2, none⟩ = some (.slice KN kn cK)) [] [(0, 0), (1, 1), (2, 0), (3, 0), (4, 0), (5, 1), (6, 0), (7, 1), (8, 2), (9, 0)] (by kernel_rfl) (by kernel_rfl) rfl (by kernel_rfl) (fun _ _ _ _ h => h) ?_
      have hS := And.intro b0 (And.intro h1 (And.intro k0 (And.intro k1 k2)))
      repeat (first | refine wpP.c0 (h := ?_) | refine wpP.c1 (w := wr.drew) hS (h := ?_))
      refine wpP.ev (h := fun Kv hKv => ?_)
      have HED : As (Ext wr wr.drew) := ⟨(Ext.rf _).dr⟩
      generalize wr.drew = w2 at HED ⊢
      go_wp2_with (go_at_call 145; refine (sisKey_c _ _ _ _).mono ?_; rw [← HCK.out]; rintro e w3 ⟨rfl, hx⟩; have HX3 := As.mk (HED.out.trans hx); clear hx)
      refine hKv.out _ _ ⟨HX3.out.cellOf b0, HX3.out.cellOf h1, HX3.out.cellOf k0, HX3.out.cellOf k1, HX3.out.cellOf k2⟩ ?_
      clear hKv Kv hS b0 h1 k0 k1 k2
      repeat (first | refine wpP.c0 (h := ?_))
      refine wpP.done ?_
      have hdr : k + 1 < list.length → goodK m.nodes (list.drop k) = (ck && goodK m.nodes (list.drop (k + 2))) := fun h => by
        rw [goodK_at _ _ _ h, HCK2.out]
        have e1 : m.nodes.getD (list[k]).toNat default = m.nodes[x] := by rw [HX.out, Int.toNat_natCast, List.getD_eq_getElem?_getD, List.getElem?_eq_getElem hxl]; rfl
        rw [e1, HKD.out]
      have HDR := As.mk hdr
      clear hdr
      cases ck with
      | false =>
        go_wp2_with fail
        go_ret
        refine ⟨ret_bool ?_, (HE.out.trans he.out).trans HX3.out⟩
        by_cases hev : n % 2 = 0
        · have h2 := hg.out.1
          have h3 := HLN.out
          rw [hg.out.2 hev, HDR.out (by omega)]; rfl
        · rw [goodK_odd _ _ (by rw [HLN.out]; exact hev)]
      | true =>
        go_wp2_with fail
        go_roundw
        case measure => simp only [intOf]; omega
        case rel => exact ⟨k + 2, by omega, by go_num, ⟨by have := hg.out.1; omega, fun hev => by
          have h2 := hg.out.1
          have h3 := HLN.out
          rw [hg.out.2 hev, HDR.out (by omega)]; rfl⟩, ⟨he.out.trans HX3.out⟩⟩
    · have HG := As.mk hg.out
      clear hg
      by_cases hev : n % 2 = 0
      · have hkn : k = n := by have := HG.out.1; omega
        have hgood : goodK m.nodes list = true := by rw [HG.out.2 hev, hkn, List.drop_eq_nil_of_le (by rw [HLN.out]; exact Nat.le_refl _)]; rfl
        have HGD := As.mk hgood
        have q5 : (n : Int) % 2 = 0 := by omega
        have q6 : ¬ (k : Int) < n := by omega
        clear hgood hkn hev b0
        go_wp2_with fail
        go_ret
        exact ⟨ret_bool HGD.out.symm, HE.out.trans he.out⟩
      · have hgood : goodK m.nodes list = false := goodK_odd _ _ (by rw [HLN.out]; exact hev)
        have HGD := As.mk hgood
        have q6 : ¬ (k : Int) < n := by omega
        have HEV := As.mk hev
        clear hgood hev b0
        go_wp2_with fail
        go_ret
        have := HEV.out
        exact ⟨ret_bool (by rw [HGD.out]; simp <;> omega), HE.out.trans he.out⟩
theorem findK_at2 (nodes : List Nd) (kids : List Int) (k v : Int) (f i x : Nat) (h : i < kids.length) (hx : kids[i] = x) (hxl : x < nodes.length) : findK nodes kids k v (f + 1) i = if nodes[x].kind = k ∧ nodes[x].val = v then some i else findK nodes kids k v f (i + 2) := findK_at nodes kids k v f i x h hx hxl
/-- What putItem keeps while it looks for the key. -/
def PutAt (B : Nat → Prop) (w : World) (g : Nat) (l : List (Nd × Value)) (vN vS vM : Value) (m : Mc) (kids : List Int) (kk kv : Int) (k : Nat) (wr : World) : Prop :=
  ∃ f, findKey m.nodes kids kk kv = findK m.nodes kids kk kv f k ∧ kids.length < k + f ∧ MX B (fun k => k = g ∨ k = g + 1) w wr g (g + 1) l vN vS vM m
set_option maxRecDepth 100000 in
set_option maxHeartbeats 4000000 in
theorem sputItem_c {B w l vN vS vM m} (h : MW B w l vN vS vM m) (d y : Nat) (v : Int) (kids : List Int) (hd : d < m.nodes.length) (hkd : m.nodes[d].kids = kids) (hy : y < m.nodes.length) (hin : ∀ x ∈ kids, 0 ≤ x ∧ x < m.nodes.length) (hev : kids.length % 2 = 0) (hkl : kids.length ≤ 1000000) (hnl : m.nodes.length ≤ 1000000) (hsl : m.stack.length ≤ 1000000) (hml : m.memo.length ≤ 1000000) :
    Calls Try.prog 176 #[.agg #[vN, vS, vM, .bool m.done], .int .i64 d, .int .i64 y, .int .i64 v] w (MachR B (setKids m d (put1 m.nodes kids y v)) w) := by
  obtain ⟨AN, cN, AS, cS, AM, cM, rfl, rfl, rfl, _, _⟩ := h.rm hnl hsl hml
  have hx0 := h.box (W := (w.alloc (.cells #[.slice AN m.nodes.length cN, .slice AS m.stack.length cS, .slice AM m.memo.length cM, .bool m.done] 64)).alloc (.cells #[.slice none 0 0, .slice none 0 0, .slice none 0 0, .bool false] 64)) (fun k => k = w.heap.size ∨ k = w.heap.size + 1) (g := w.heap.size) (g2 := w.heap.size + 1) (((Ext.rf w).al _).al _) ((((Ext.rf _).al _)).blk (al_new _ _)) (by have := al_new (w.alloc (.cells #[.slice AN m.nodes.length cN, .slice AS m.stack.length cS, .slice AM m.memo.length cM, .bool m.done] 64)) (.cells #[.slice none 0 0, .slice none 0 0, .slice none 0 0, .bool false] 64); rw [al_size] at this; exact this) (.inl rfl) (.inr rfl) (by omega) (fun k hk => by rw [al_size, al_size]; omega)
  obtain ⟨gN, cN', hv, _, _⟩ := hx0.a.hd (by omega) (by omega)
  injection hv with hv1 hv2 hv3
  subst hv1 hv3
  have hll : m.nodes.length = l.length := by rw [← h.ns, List.length_map]
  have hdl : d < l.length := by omega
  have hld : l[d].1 = m.nodes[d] := by
    have : (l.map Prod.fst)[d]'(by rw [List.length_map]; exact hdl) = m.nodes[d] := by simp only [h.ns]
    rwa [List.getElem_map] at this
  have HX := As.mk hx0
  have HK := As.mk (And.intro hin hev)
  have HLD := As.mk hld
  have HLL := As.mk hll
  have HKD := As.mk hkd
  clear h hx0 hin hev hld hll hkd
  go_enter Try.func176, Try.ntmps176
  go_upto_region 1 with fail
  obtain ⟨w1, hw1⟩ : ∃ w1, w1 = (w.alloc (.cells #[.slice (some ⟨gN, 0, none⟩) m.nodes.length cN, .slice AS m.stack.length cS, .slice AM m.memo.length cM, .bool m.done] 64)).alloc (.cells #[.slice none 0 0, .slice none 0 0, .slice none 0 0, .bool false] 64) := ⟨_, rfl⟩
  rw [← hw1] at HX ⊢
  clear hw1
  obtain ⟨g, hg⟩ : ∃ g, g = w.heap.size := ⟨_, rfl⟩
  rw [← hg] at HX ⊢
  clear hg
  obtain ⟨hk2, K, cK, hkk, hkc, hkr⟩ := HX.out.a.kid d hdl
  have hl1 : (l[d]).1.kids = kids := by rw [HLD.out]; exact HKD.out
  rw [hl1] at hkk hkc hkr
  rw [hkk] at hk2
  have HKK := As.mk hkk
  have HKR := As.mk hkr
  have HL1 := As.mk hl1
  have c0 := MB.c0 HX.out.a.mb
  have q1 : (d : Int) < m.nodes.length := by omega
  clear hkk hkr hl1
  go_upto_region 3 with fail
  have HP0 : As (PutAt B w g l (.slice (some ⟨gN, 0, none⟩) m.nodes.length cN) (.slice AS m.stack.length cS) (.slice AM m.memo.length cM) m kids m.nodes[y].kind m.nodes[y].val 0 w1) := ⟨⟨kids.length + 1, rfl, by omega, HX.out⟩⟩
  clear c0 hk2 HX HKR q1
  go_loopw [10] (fun i wr => ∃ k : Nat, k ≤ kids.length + 1 ∧ i = .int .i64 k ∧ As (PutAt B w g l (.slice (some ⟨gN, 0, none⟩) m.nodes.length cN) (.slice AS m.stack.length cS) (.slice AM m.memo.length cM) m kids m.nodes[y].kind m.nodes[y].val k wr)) (fun i _ => kids.length + 1 - (intOf i).toNat)
  case atStart => exact ⟨0, Nat.zero_le _, rfl, HP0⟩
  case round =>
    obtain ⟨k, hk, rfl, hst⟩ := hrel
    obtain ⟨f, hf1, hf2, hx⟩ := hst.out
    have HF := As.mk (And.intro hf1 hf2)
    have HX := As.mk hx
    have c0 := MB.c0 hx.a.mb
    obtain ⟨hk2, K', cK', hkk', -, hkr⟩ := hx.a.kid d hdl
    rw [HKK.out] at hk2 hkk'
    injection hkk' with e1 e2 e3
    rw [HL1.out, ← e1] at hkr
    have HKR := As.mk hkr
    clear hst hf1 hf2 hx HP0 hkr e1 e2 e3
    by_cases hlt : k < kids.length
    · obtain ⟨ad, rfl, h1⟩ := HKR.out.2 k hlt
      have hIK : IR wr (.slice (some ad) kids.length cK) kids := by
        have := (HX.out.a.nr.2 _ (List.getElem_mem hdl)).1
        rwa [HKK.out, HL1.out] at this
      obtain ⟨bK, hbK⟩ := own_ad hIK
      subst hbK
      rw [(add_at bK k 0).1] at h1
      have HIK := As.mk hIK
      clear hIK
      obtain ⟨x, hx⟩ := Int.eq_ofNat_of_zero_le (HK.out.1 _ (List.getElem_mem hlt)).1
      have hxl : x < m.nodes.length := by have := (HK.out.1 _ (List.getElem_mem hlt)).2; rw [hx] at this; exact Int.ofNat_lt.1 this
      rw [hx] at h1
      have HXX := As.mk hx
      obtain ⟨gN', cN'', hv, _, hrn⟩ := HX.out.a.hd (by omega) (by omega)
      injection hv with hv1 hv2 hv3
      injection hv1 with hv1
      injection hv1 with hv1
      subst hv1 hv3
      obtain ⟨KX, cX, x0, x1, x2, -, -⟩ := RdN.cells hrn x hxl
      obtain ⟨KY, cY, y0, y1, y2, -, -⟩ := RdN.cells hrn y hy
      obtain ⟨xk, hxk⟩ : ∃ xk, xk = m.nodes[x].kind := ⟨_, rfl⟩
      obtain ⟨xv, hxv⟩ : ∃ xv, xv = m.nodes[x].val := ⟨_, rfl⟩
      obtain ⟨yk, hyk⟩ : ∃ yk, yk = m.nodes[y].kind := ⟨_, rfl⟩
      obtain ⟨yv, hyv⟩ : ∃ yv, yv = m.nodes[y].val := ⟨_, rfl⟩
      obtain ⟨xn, hxn⟩ : ∃ xn, xn = m.nodes[x].kids.length := ⟨_, rfl⟩
      obtain ⟨yn, hyn⟩ : ∃ yn, yn = m.nodes[y].kids.length := ⟨_, rfl⟩
      rw [← hxk] at x0; rw [← hxv] at x1; rw [← hxn] at x2
      rw [← hyk] at y0; rw [← hyv] at y1; rw [← hyn] at y2
      obtain ⟨sm, hsm⟩ : ∃ sm, sm = decide (xk = yk ∧ xv = yv) := ⟨_, rfl⟩
      have HSM := As.mk hsm
      have hfa := HF.out.1
      obtain ⟨f', hf'⟩ : ∃ f', f = f' + 1 := ⟨f - 1, by have := HF.out.2; omega⟩
      rw [hf', findK_at _ _ _ _ _ _ x hlt hx hxl, ← hxk, ← hxv, ← hyk, ← hyv] at hfa
      have HFA := As.mk hfa
      have HF' := As.mk hf'
      have HYK := As.mk (And.intro hyk hyv)
      have q1 : (k : Int) < kids.length := by omega
      have q2 : (x : Int) < m.nodes.length := by omega
      have q3 : (0 : Int) ≤ x := by omega
      have q4 : (y : Int) < m.nodes.length := by omega
      clear hxk hxv hyk hyv hxn hyn hsm hfa hf' hx hrn
      go_upto_region 5 with fail
      refine region_perm (fun w' => w'.cell? ⟨g, 0, none⟩ = some (.slice (some ⟨gN, 0, none⟩) m.nodes.length cN) ∧ w'.cell? ⟨bK, k, none⟩ = some (.int .i64 x) ∧ w'.cell? ⟨gN, x * 3, none⟩ = some (.int .i64 xk) ∧ w'.cell? ⟨gN, x * 3 + 1, none⟩ = some (.int .i64 xv) ∧ w'.cell? ⟨gN, x * 3 + 2, none⟩ = some (.slice KX xn cX) ∧
        w'.cell? ⟨gN, y * 3, none⟩ = some (.int .i64 yk) ∧ w'.cell? ⟨gN, y * 3 + 1, none⟩ = some (.int .i64 yv) ∧ w'.cell? ⟨gN, y * 3 + 2, none⟩ = some (.slice KY yn cY)) [] [(0, 0), (1, 1), (2, 0), (3, 0), (4, 0), (5, 1), (6, 0), (7, 1), (8, 0), (9, 1), (10, 0), (11, 0), (12, 1), (13, 2)] (by kernel_rfl) (by kernel_rfl) rfl (by kernel_rfl) (fun _ _ _ _ h => h) ?_
      have hS := And.intro c0 (And.intro h1 (And.intro x0 (And.intro x1 (And.intro x2 (And.intro y0 (And.intro y1 y2))))))
      repeat (first | refine wpP.c0 (h := ?_) | refine wpP.c1 (w := wr.drew) hS (h := ?_))
      refine wpP.ev (h := fun Kv hKv => ?_)
      have HED : As (Ext wr wr.drew) := ⟨(Ext.rf _).dr⟩
      generalize wr.drew = w2 at HED ⊢
      go_wp2_with (go_at_call 184; refine (ssameKey_c _ _ _ _ _ _ _).mono ?_; rw [← HSM.out]; rintro e w3 ⟨rfl, hx⟩; have HX3 := As.mk (HED.out.trans hx); clear hx)
      refine hKv.out _ _ ⟨HX3.out.cellOf c0, HX3.out.cellOf h1, HX3.out.cellOf x0, HX3.out.cellOf x1, HX3.out.cellOf x2, HX3.out.cellOf y0, HX3.out.cellOf y1, HX3.out.cellOf y2⟩ ?_
      clear hKv Kv hS
      repeat (first | refine wpP.c0 (h := ?_))
      refine wpP.done ?_
      have HX4 := As.mk (HX.out.ext HX3.out)
      clear c0 h1 x0 x1 x2 y0 y1 y2 hk2 HED HX
      cases sm with
      | true =>
        have h3 : xk = yk ∧ xv = yv := of_decide_eq_true HSM.out.symm
        have h4 := HFA.out
        rw [if_pos h3] at h4
        have hput : put1 m.nodes kids y v = kids.set (k + 1) v := by
          have hy2 : m.nodes.getD y default = m.nodes[y] := by rw [List.getD_eq_getElem?_getD, List.getElem?_eq_getElem hy]; rfl
          rw [put1_eq, Int.toNat_natCast, hy2, ← HYK.out.1, ← HYK.out.2, h4]
        have hk1 : k + 1 < kids.length := by
          have h5 := h4
          have := findKey_lt (nodes := m.nodes) (kids := kids) (k := yk) (v := yv) (j := k) h5 HK.out.2
          omega
        have hI4 : IR w3 (.slice (some ⟨bK, 0, none⟩) kids.length cK) kids := HIK.out.ext HX3.out
        have fK := own_fz hI4 (k + 1)
        obtain ⟨_, hA, z1⟩ := (rdA_I hI4 (by omega)).2 (k + 1) hk1
        cases hA
        rw [(add_at bK (k + 1) 0).1] at z1
        obtain ⟨z0, hz0⟩ : ∃ z0, z0 = kids[k + 1] := ⟨_, rfl⟩
        rw [← hz0] at z1
        have hit := HX4.out.a.item d hdl bK kids.length cK HKK.out (k + 1) v
        rw [HL1.out] at hit
        have hx5 := HX4.out.to hit.1 (HX4.out.foot hit.2)
        have HPUT := As.mk hput
        have HX5 := As.mk hx5
        have q5 : (k : Int) + 1 < kids.length := by omega
        clear hit hx5 hput h3 h4 hI4 hz0
        go_upto_region 7 with fail
        clear fK z1
        generalize (w3.setCell ⟨bK, k + 1, none⟩ (.int .i64 v)) = w4 at HX5 ⊢
        have c0 := MB.c0 HX5.out.a.mb; have c1 := MB.c1 HX5.out.a.mb; have c2 := MB.c2 HX5.out.a.mb; have c3 := MB.c3 HX5.out.a.mb
        have d0 := MB.c0 HX5.out.r; have d1 := MB.c1 HX5.out.r; have d2 := MB.c2 HX5.out.r; have d3 := MB.c3 HX5.out.r
        have f0 := MB.fz HX5.out.r 0; have f1 := MB.fz HX5.out.r 1; have f2 := MB.fz HX5.out.r 2; have f3 := MB.fz HX5.out.r 3
        go_wp2_with fail
        have ho := HX5.out.out
        refine bodyPost_ret (results_cell rfl _ _ (g + 1) _ rfl (loadM ho.2.2)) rfl ?_
        rw [HPUT.out]
        exact ⟨_, _, _, _, rfl, ho.1, ho.2.1⟩
      | false =>
        go_wp2_with fail
        go_roundw
        case measure => simp only [intOf]; omega
        case rel =>
          have h2 := HSM.out
          have h3 : ¬ (xk = yk ∧ xv = yv) := of_decide_eq_false h2.symm
          have h4 := HFA.out
          rw [if_neg h3] at h4
          exact ⟨k + 2, by omega, by go_num, ⟨f', by rw [← HYK.out.1, ← HYK.out.2]; exact h4, by have := HF.out.2; have := HF'.out; omega, HX4.out⟩⟩
    · have hnone : findKey m.nodes kids m.nodes[y].kind m.nodes[y].val = none := by
        rw [HF.out.1]
        cases f with
        | zero => rfl
        | succ f => unfold findK; rw [if_neg hlt]
      have hput : put1 m.nodes kids y v = kids ++ [(y : Int), v] := by
        have hy2 : m.nodes.getD y default = m.nodes[y] := by rw [List.getD_eq_getElem?_getD, List.getElem?_eq_getElem hy]; rfl
        rw [put1_eq, Int.toNat_natCast, hy2, hnone]
      have HPUT := As.mk hput
      have hIK : IR wr (.slice K kids.length cK) kids := by
        have := (HX.out.a.nr.2 _ (List.getElem_mem hdl)).1
        rwa [HKK.out, HL1.out] at this
      have HIK := As.mk hIK
      have q1 : (d : Int) < m.nodes.length := by omega
      have q2 : ¬ (k : Int) < kids.length := by omega
      clear hput hnone hIK hlt HF
      go_upto_region 8 with fail
      refine region_perm (fun w' => w'.cell? ⟨g, 0, none⟩ = some (.slice (some ⟨gN, 0, none⟩) m.nodes.length cN)) [10] [(0, 0), (1, 1), (2, 0), (3, 0), (4, 0), (5, 0), (6, 2), (7, 2), (8, 0), (9, 0), (10, 3)] (by kernel_rfl) (by kernel_rfl) rfl (by kernel_rfl) (fun _ _ _ _ h => h) ?_
      repeat (first | refine wpP.c0 (h := ?_) | refine wpP.c1 (w := wr.drew) c0 (h := ?_))
      refine wpP.ev (h := fun Kv hKv => ?_)
      go_wp2_with fail
      have hX3 : Ext wr (wr.drew.alloc (.cells #[.int .i64 y, .int .i64 v] 3)) := ((Ext.rf wr).dr).al _
      refine hKv.out _ _ (hX3.cellOf c0) ?_
      clear hKv Kv hX3
      refine wpP.ev (h := fun Kv hKv => ?_)
      obtain ⟨w3, hw3⟩ : ∃ w3, w3 = (wr.alloc (.cells #[.int .i64 y, .int .i64 v] 3)).drew := ⟨_, rfl⟩
      have hX3 : Ext wr w3 := by rw [hw3]; exact ((Ext.rf wr).al _).dr
      have hr3 : RdI w3 (some ⟨wr.heap.size, 0, none⟩) [(y : Int), v] := by rw [hw3]; exact (rd_new wr y v 3).ext ((Ext.rf _).dr)
      rw [← hw3]
      clear hw3
      have HX3 := As.mk hX3
      have HR3 := As.mk hr3
      clear hX3 hr3
      go_wp2_with ((at_builtin; refine app_intsA rfl _ _ rfl (.slice K kids.length cK) kids (some ⟨wr.heap.size, 0, none⟩) 2 2 [(y : Int), v] rfl rfl rfl HR3.out (HIK.out.ext HX3.out) (by omega) ?_; intro A3 c3 w4 hap; have HAP := As.mk hap; clear hap))
      have HX4 := As.mk (HX.out.ext HX3.out)
      have hap : AppS l[d].2 l[d].1.kids (l[d].1.kids ++ [(y : Int), v]) w3 A3 c3 w4 := by rw [HL1.out, HKK.out]; exact HAP.out
      have hgr := HX4.out.a.grow d hdl [(y : Int), v] A3 c3 hap (by rw [HL1.out]; simp; omega)
      have hm4 := HX4.out.a.app l[d] (List.getElem_mem hdl) hap.2.1 hap.2.2.2
      have c4 := MB.c0 hm4.mb
      have x4 := (hm4.kid d hdl).1
      rw [HKK.out] at x4
      have z4 := own_fz hm4.nr.1 (d * 3 + 2)
      have hx5 := HX4.out.to hgr.1 (HX4.out.foot hgr.2)
      have hl2 : (kids ++ [(y : Int), v]).length = kids.length + 2 := by simp
      rw [HL1.out, hl2] at hx5
      refine hKv.out _ _ c4 ?_
      clear hKv Kv
      have HX5 := As.mk hx5
      clear hgr hm4 hx5 hap c0 hk2
      repeat (first | refine wpP.c0 (h := ?_))
      refine wpP.last (h := fun Kv hKv => ?_)
      go_wp2_with fail
      refine hKv.out _ _ (wpP.done ?_)
      clear hKv Kv c4 x4 z4
      generalize (w4.setCell ⟨gN, d * 3 + 2, none⟩ (.slice A3 (kids.length + 2) c3)) = w5 at HX5 ⊢
      have c0 := MB.c0 HX5.out.a.mb; have c1 := MB.c1 HX5.out.a.mb; have c2 := MB.c2 HX5.out.a.mb; have c3 := MB.c3 HX5.out.a.mb
      have d0 := MB.c0 HX5.out.r; have d1 := MB.c1 HX5.out.r; have d2 := MB.c2 HX5.out.r; have d3 := MB.c3 HX5.out.r
      have f0 := MB.fz HX5.out.r 0; have f1 := MB.fz HX5.out.r 1; have f2 := MB.fz HX5.out.r 2; have f3 := MB.fz HX5.out.r 3
      go_wp2_with fail
      have ho := HX5.out.out
      refine bodyPost_ret (results_cell rfl _ _ (g + 1) _ rfl (loadM ho.2.2)) rfl ?_
      rw [HPUT.out]
      exact ⟨_, _, _, _, rfl, ho.1, ho.2.1⟩
end Go.Proofs.Ytcodbpjaamggeaa.C
