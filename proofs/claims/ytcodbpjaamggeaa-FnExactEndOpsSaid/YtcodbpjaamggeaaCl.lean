/- What an order does, III: the topmost node is changed. -/
import Derived.Test.YtcodbpjaamggeaaCk
set_option linter.unusedVariables false
set_option linter.unusedSimpArgs false
namespace Go.Proofs.Ytcodbpjaamggeaa.C
open Go.RowKit Go.Proofs.Ytcodbpjaamggeaa.W Go.Proofs.Ytcodbpjaamggeaa.P

theorem Cut.top0 {base g l A c vN vM m n kids A' w w1} (hc : Cut base g l vN vM A c m n kids A' w w1) (hls : m.stack.length ≤ 1000000) (kind : Int) (ht : topN (drop m n).stack = 0) {W : World} (hW : Ext w1 W) :
    Calls Try.prog 158 #[.pointer (some ⟨g, 0, none⟩), .int .i64 kind] W fun e w' => e = .returned (.tuple #[.pointer none, .bool false]) ∧ ∃ n, w' = W.drewN n := by
  have h := hc.1.ext hW
  rw [← drop_len m n] at h
  exact top_m0 (m := drop m n) h (by rw [drop_len]; omega) kind ht
theorem Cut.top1 {base g l A c gN cN vM m n kids A' w w1} (hc : Cut base g l (.slice (some ⟨gN, 0, none⟩) m.nodes.length cN) vM A c m n kids A' w w1) (hln : m.nodes.length ≤ 1000000) (hls : m.stack.length ≤ 1000000) (kind : Int) (x : Nat) (ht : 0 < topN (drop m n).stack) (hx : st (drop m n).stack 0 = x) (hxl : x < m.nodes.length) {W : World} (hW : Ext w1 W) :
    Calls Try.prog 158 #[.pointer (some ⟨g, 0, none⟩), .int .i64 kind] W fun e w' => e = .returned (.tuple #[.pointer (some ((⟨gN, 0, none⟩ : Addr).add (x * 3))), .bool (m.nodes[x].kind == kind)]) ∧ ∃ n, w' = W.drewN n := by
  have h := hc.1.ext hW
  rw [← drop_len m n] at h
  exact top_m1 (m := drop m n) h hln (by rw [drop_len]; omega) kind x ht hx hxl
/-- Kids that grow, in the cut machine. -/
theorem Does.grow {base g l A c gN cN n0 vM m n kids A' w w1 w2 w3 r} (hc : Cut base g l (.slice (some ⟨gN, 0, none⟩) n0 cN) vM A c m n kids A' w w1) (hX : Ext w1 w2) (x : Nat) (hx : x < l.length) (A3 : Option Addr) (c3 : Nat) (hap : AppS l[x].2 l[x].1.kids (l[x].1.kids ++ kids) w2 A3 c3 w3) (hk : (l[x].1.kids ++ kids).length ≤ 1000000000000)
    (hr : r = some (setKids (drop m n) x (l[x].1.kids ++ kids))) {W : World} (hW : Ext (w3.setCell ⟨gN, x * 3 + 2, none⟩ (.slice A3 (l[x].1.kids ++ kids).length c3)) W) :
    Does base g l (.slice (some ⟨gN, 0, none⟩) n0 cN) (.slice A m.stack.length c) vM m r w (.returned (.bool true)) W := by
  obtain ⟨h1, h2⟩ := (hc.1.ext hX).grow x hx kids A3 c3 hap hk
  subst hr
  refine Does.cut hc ⟨rfl, (Fr.ofExt hX).trans (h2.trans (Fr.ofExt hW)), fun m' hm' => ?_, fun h => nomatch h⟩
  injection hm' with hm'
  subst hm'
  exact ⟨_, _, _, h1.ext hW⟩
theorem MR.nd_at {base w g l vN vS vM m} (h : MR base w g l vN vS vM m) (x : Nat) (hx : x < l.length) (hxm : x < m.nodes.length) : l[x].1 = m.nodes[x] ∧ nd m x = m.nodes[x] := by
  constructor
  · have h1 : (l.map Prod.fst)[x]? = m.nodes[x]? := by rw [h.ns]
    rw [List.getElem?_map, List.getElem?_eq_getElem hx, Option.map_some, List.getElem?_eq_getElem hxm] at h1
    injection h1
  · unfold nd
    rw [Int.toNat_natCast, List.getD_eq_getElem?_getD, List.getElem?_eq_getElem hxm]; rfl

set_option maxRecDepth 100000 in
set_option maxHeartbeats 1000000 in
/-- OcAppend. -/
theorem do_8 {B base w g l vN vS vM m} (h : MR base w g l vN vS vM m) (hok : okM B m) (hB : B ≤ 2000000) (arg : Int) :
    Calls Try.prog 134 #[.pointer (some ⟨g, 0, none⟩), .agg #[.int .i64 8, .int .i64 arg]] w (Does base g l vN vS vM m (doP m ⟨8, arg⟩) w) := by
  have hln := hok.nl
  have hls := hok.sl
  have htl := topN_le m.stack
  obtain ⟨A, c, rfl, _, _⟩ := h.rdS (by omega)
  have H := As.mk h
  have HO := As.mk hok
  clear h hok
  by_cases hn : 2 ≤ topN m.stack
  · skip
    have ht : (2 : Int) ≤ topN m.stack := by omega
    have ht' : ¬ (topN m.stack : Int) < 2 := by omega
    have hkk : m.stack.drop (m.stack.length - 1) = [st m.stack 0] := drop_one _ (by omega)
    have htd : topN (drop m 1).stack = topN m.stack - 1 := topN_take _ _ (by omega)
    have HKK := As.mk hkk
    obtain ⟨x, hx, hxl⟩ := top_ok (HO.out.drop 1) (by omega)
    obtain ⟨gN, cN, rfl, hcN, hN⟩ := H.out.hd (Nat.lt_of_le_of_lt (Nat.zero_le _) hxl) (by omega)
    have hxl : x < m.nodes.length := hxl
    have hxl' : x < l.length := by rw [← H.out.nl]; exact hxl
    obtain ⟨e1, e2⟩ := H.out.nd_at x hxl' hxl
    obtain ⟨_, K, cK, hK, hcK, _⟩ := H.out.kid x hxl'
    have hkl := (HO.out.ki _ (List.getElem_mem hxl)).1
    rw [← e1] at hkl
    have htk : topK (drop m 1) 3 = if m.nodes[x].kind = 3 then some (x : Int) else none := by
      unfold topK
      rw [if_neg (by omega), hx]
      show (if (nd m x).kind = 3 then _ else _) = _
      rw [e2]
    have HT : As (0 < topN (drop m 1).stack) := ⟨by omega⟩
    have HX := As.mk hx
    have HK := As.mk hK
    rcases bceq m.nodes[x].kind 3 with hk | hk
    · have hr : doP m ⟨8, arg⟩ = some (setKids (drop m 1) x (l[x].1.kids ++ [st m.stack 0])) := by
        rw [if_pos hk] at htk
        simp [doP, hn, htk, e2, e1]
      have HR := As.mk hr
      clear hr htk hx htd hkk hN e1 e2 hK hn
      go_enter Try.func134, Try.ntmps134
      go_wp2_with (first | (go_at_call 153; refine (nodes_m H.out (by omega) (by (repeat (first | exact Ext.rf _ | refine Ext.al ?_ _ | refine Ext.dr ?_ | refine Ext.dN ?_ _)))).mono ?_; rintro e w1 ⟨rfl, nq, rfl⟩) | (go_at_call 157; refine (take_x H.out (by omega) 1 (by omega) (by omega) (by (repeat (first | exact Ext.rf _ | refine Ext.al ?_ _ | refine Ext.dr ?_ | refine Ext.dN ?_ _))) [st m.stack 0] HKK.out.symm).mono ?_; rintro e w2 ⟨b, cK2, rfl, _, hI, hb, hc⟩; (have x2 : w2.cell? ⟨gN, x * 3 + 2, none⟩ = some (.slice K l[x].1.kids.length cK) := (by have := (hc.1.kid x hxl').1; rwa [HK.out] at this)); have HC := As.mk hc; have HI := As.mk hI; have HB := As.mk hb; clear hc hI hb) | (go_at_call 158; refine (HC.out.top1 (by omega) (by omega) _ x HT.out HX.out hxl (by (repeat (first | exact Ext.rf _ | refine Ext.al ?_ _ | refine Ext.dr ?_ | refine Ext.dN ?_ _)))).mono ?_; rw [hk]; rintro e w3 ⟨rfl, nr, rfl⟩) | (at_builtin; refine app_ints rfl _ _ rfl (.slice K l[x].1.kids.length cK) l[x].1.kids ⟨b, 0, none⟩ 1 cK2 [st m.stack 0] rfl rfl rfl (HC.out.2.1.ext (by (repeat (first | exact Ext.rf _ | refine Ext.al ?_ _ | refine Ext.dr ?_ | refine Ext.dN ?_ _)))) (by rw [← HK.out]; exact ((HC.out.1.ext (by (repeat (first | exact Ext.rf _ | refine Ext.al ?_ _ | refine Ext.dr ?_ | refine Ext.dN ?_ _)))).nr.2 _ (List.getElem_mem hxl')).1) (by omega) ?_; intro A3 c3 w4 hap; rw [← HK.out] at hap; have HM4 := As.mk ((HC.out.1.ext (by (repeat (first | exact Ext.rf _ | refine Ext.al ?_ _ | refine Ext.dr ?_ | refine Ext.dN ?_ _)))).app l[x] (List.getElem_mem hxl') hap.2.1 hap.2.2.2); have x4 := (HM4.out.kid x hxl').1; rw [HK.out] at x4; have z4 := own_fz HM4.out.nr.1 (x * 3 + 2); have HAP := As.mk hap; clear hap))
      go_ret
      exact Does.grow HC.out (by (repeat (first | exact Ext.rf _ | refine Ext.al ?_ _ | refine Ext.dr ?_ | refine Ext.dN ?_ _))) x hxl' A3 c3 HAP.out (by simp; omega) HR.out (by rw [List.length_append]; exact Ext.rf _)
    · have hr : doP m ⟨8, arg⟩ = none := by
        rw [if_neg (by simpa using hk)] at htk
        simp [doP, hn, htk]
      have HR := As.mk hr
      clear hr htk hx htd hkk hN e1 e2 hK hn
      go_enter Try.func134, Try.ntmps134
      go_wp2_with (first | (go_at_call 153; refine (nodes_m H.out (by omega) (by (repeat (first | exact Ext.rf _ | refine Ext.al ?_ _ | refine Ext.dr ?_ | refine Ext.dN ?_ _)))).mono ?_; rintro e w1 ⟨rfl, nq, rfl⟩) | (go_at_call 157; refine (take_x H.out (by omega) 1 (by omega) (by omega) (by (repeat (first | exact Ext.rf _ | refine Ext.al ?_ _ | refine Ext.dr ?_ | refine Ext.dN ?_ _))) [st m.stack 0] HKK.out.symm).mono ?_; rintro e w2 ⟨b, cK2, rfl, _, hI, hb, hc⟩; have HC := As.mk hc; have HI := As.mk hI; have HB := As.mk hb; clear hc hI hb) | (go_at_call 158; refine (HC.out.top1 (by omega) (by omega) _ x HT.out HX.out hxl (by (repeat (first | exact Ext.rf _ | refine Ext.al ?_ _ | refine Ext.dr ?_ | refine Ext.dN ?_ _)))).mono ?_; rw [hk]; rintro e w3 ⟨rfl, nr, rfl⟩))
      go_ret
      exact Does.cutNo HC.out HR.out (by (repeat (first | exact Ext.rf _ | refine Ext.al ?_ _ | refine Ext.dr ?_ | refine Ext.dN ?_ _)))
  · have ht : (topN m.stack : Int) < 2 := by omega
    have hr : doP m ⟨8, arg⟩ = none := by simp [doP, hn]
    have HR := As.mk hr
    clear hr hn
    go_enter Try.func134, Try.ntmps134
    go_wp2_with (go_at_call 153; refine (nodes_m H.out (by omega) (by (repeat (first | exact Ext.rf _ | refine Ext.al ?_ _ | refine Ext.dr ?_ | refine Ext.dN ?_ _)))).mono ?_; rintro e w1 ⟨rfl, nq, rfl⟩)
    go_ret
    exact Does.no H.out HR.out (by (repeat (first | exact Ext.rf _ | refine Ext.al ?_ _ | refine Ext.dr ?_ | refine Ext.dN ?_ _)))

set_option maxRecDepth 100000 in
set_option maxHeartbeats 1000000 in
/-- OcAppends. -/
theorem do_9 {B base w g l vN vS vM m} (h : MR base w g l vN vS vM m) (hok : okM B m) (hB : B ≤ 2000000) (arg : Int) :
    Calls Try.prog 134 #[.pointer (some ⟨g, 0, none⟩), .agg #[.int .i64 9, .int .i64 arg]] w (Does base g l vN vS vM m (doP m ⟨9, arg⟩) w) := by
  have hln := hok.nl
  have hls := hok.sl
  have htl := topN_le m.stack
  obtain ⟨A, c, rfl, _, _⟩ := h.rdS (by omega)
  have H := As.mk h
  have HO := As.mk hok
  clear h hok
  by_cases htt : topN m.stack = m.stack.length
  · have hr : doP m ⟨9, arg⟩ = none := by simp [doP, above_none htt]
    have HR := As.mk hr
    have HT := As.mk htt
    clear hr htt
    go_enter Try.func134, Try.ntmps134
    go_wp2_with (first | (go_at_call 153; refine (nodes_m H.out (by omega) (by (repeat (first | exact Ext.rf _ | refine Ext.al ?_ _ | refine Ext.dr ?_ | refine Ext.dN ?_ _)))).mono ?_; rintro e w1 ⟨rfl, nq, rfl⟩) | (go_at_call 156; refine (above_n H.out (by omega) HT.out (by (repeat (first | exact Ext.rf _ | refine Ext.al ?_ _ | refine Ext.dr ?_ | refine Ext.dN ?_ _)))).mono ?_; rintro e w2 ⟨rfl, nr, rfl⟩))
    go_ret
    exact Does.no H.out HR.out (by (repeat (first | exact Ext.rf _ | refine Ext.al ?_ _ | refine Ext.dr ?_ | refine Ext.dN ?_ _)))
  obtain ⟨kids, hkk⟩ : ∃ kids, kids = m.stack.drop (m.stack.length - topN m.stack) := ⟨_, rfl⟩
  have hkn : kids.length ≤ 300 := by rw [hkk, List.length_drop]; omega
  have hab := above_some htt
  rw [← hkk] at hab
  have HTT := As.mk htt
  have HKK := As.mk hkk
  clear htt
  by_cases h0 : topN (drop m (topN m.stack + 1)).stack = 0
  · have hr : doP m ⟨9, arg⟩ = none := by
      have : topK (drop m (topN m.stack + 1)) 3 = none := by unfold topK; rw [if_pos h0]
      simp [doP, hab, this]
    have HT := As.mk h0
    have HR := As.mk hr
    clear hr hab h0 hkk
    go_enter Try.func134, Try.ntmps134
    go_wp2_with (first | (go_at_call 153; refine (nodes_m H.out (by omega) (by (repeat (first | exact Ext.rf _ | refine Ext.al ?_ _ | refine Ext.dr ?_ | refine Ext.dN ?_ _)))).mono ?_; rintro e w1 ⟨rfl, nq, rfl⟩) | (go_at_call 156; refine (above_x H.out (by omega) HTT.out (by (repeat (first | exact Ext.rf _ | refine Ext.al ?_ _ | refine Ext.dr ?_ | refine Ext.dN ?_ _))) kids HKK.out).mono ?_; rintro e w2 ⟨ad, cK2, rfl, _, hc⟩; have HC := As.mk hc; clear hc) | (go_at_call 158; refine (HC.out.top0 (by omega) _ HT.out (by (repeat (first | exact Ext.rf _ | refine Ext.al ?_ _ | refine Ext.dr ?_ | refine Ext.dN ?_ _)))).mono ?_; rintro e w3 ⟨rfl, nr, rfl⟩))
    go_ret
    exact Does.cutNo HC.out HR.out (by (repeat (first | exact Ext.rf _ | refine Ext.al ?_ _ | refine Ext.dr ?_ | refine Ext.dN ?_ _)))
  · skip
    obtain ⟨x, hx, hxl⟩ := top_ok (HO.out.drop (topN m.stack + 1)) (by omega)
    obtain ⟨gN, cN, rfl, hcN, hN⟩ := H.out.hd (Nat.lt_of_le_of_lt (Nat.zero_le _) hxl) (by omega)
    have hxl : x < m.nodes.length := hxl
    have hxl' : x < l.length := by rw [← H.out.nl]; exact hxl
    obtain ⟨e1, e2⟩ := H.out.nd_at x hxl' hxl
    obtain ⟨_, K, cK, hK, hcK, _⟩ := H.out.kid x hxl'
    have hkl := (HO.out.ki _ (List.getElem_mem hxl)).1
    rw [← e1] at hkl
    have htk : topK (drop m (topN m.stack + 1)) 3 = if m.nodes[x].kind = 3 then some (x : Int) else none := by
      unfold topK
      rw [if_neg (by omega), hx]
      show (if (nd m x).kind = 3 then _ else _) = _
      rw [e2]
    have HT : As (0 < topN (drop m (topN m.stack + 1)).stack) := ⟨by omega⟩
    have HX := As.mk hx
    have HK := As.mk hK
    rcases bceq m.nodes[x].kind 3 with hk | hk
    · have hr : doP m ⟨9, arg⟩ = some (setKids (drop m (topN m.stack + 1)) x (l[x].1.kids ++ kids)) := by
        rw [if_pos hk] at htk
        have : nd (drop m (topN m.stack + 1)) x = m.nodes[x] := e2
        simp [doP, hab, htk, this, e1]
      have HR := As.mk hr
      clear hr htk hx hkk hN e1 e2 hK hab h0
      go_enter Try.func134, Try.ntmps134
      go_wp2_with (first | (go_at_call 153; refine (nodes_m H.out (by omega) (by (repeat (first | exact Ext.rf _ | refine Ext.al ?_ _ | refine Ext.dr ?_ | refine Ext.dN ?_ _)))).mono ?_; rintro e w1 ⟨rfl, nq, rfl⟩) | (go_at_call 156; refine (above_x H.out (by omega) HTT.out (by (repeat (first | exact Ext.rf _ | refine Ext.al ?_ _ | refine Ext.dr ?_ | refine Ext.dN ?_ _))) kids HKK.out).mono ?_; rintro e w2 ⟨ad, cK2, rfl, _, hc⟩; (have x2 : w2.cell? ⟨gN, x * 3 + 2, none⟩ = some (.slice K l[x].1.kids.length cK) := (by have := (hc.1.kid x hxl').1; rwa [HK.out] at this)); have HC := As.mk hc; clear hc) | (go_at_call 158; refine (HC.out.top1 (by omega) (by omega) _ x HT.out HX.out hxl (by (repeat (first | exact Ext.rf _ | refine Ext.al ?_ _ | refine Ext.dr ?_ | refine Ext.dN ?_ _)))).mono ?_; rw [hk]; rintro e w3 ⟨rfl, nr, rfl⟩) | (at_builtin; refine app_ints rfl _ _ rfl (.slice K l[x].1.kids.length cK) l[x].1.kids ad kids.length cK2 kids rfl rfl rfl (HC.out.2.1.ext (by (repeat (first | exact Ext.rf _ | refine Ext.al ?_ _ | refine Ext.dr ?_ | refine Ext.dN ?_ _)))) (by rw [← HK.out]; exact ((HC.out.1.ext (by (repeat (first | exact Ext.rf _ | refine Ext.al ?_ _ | refine Ext.dr ?_ | refine Ext.dN ?_ _)))).nr.2 _ (List.getElem_mem hxl')).1) (by omega) ?_; intro A3 c3 w4 hap; rw [← HK.out] at hap; have HM4 := As.mk ((HC.out.1.ext (by (repeat (first | exact Ext.rf _ | refine Ext.al ?_ _ | refine Ext.dr ?_ | refine Ext.dN ?_ _)))).app l[x] (List.getElem_mem hxl') hap.2.1 hap.2.2.2); have x4 := (HM4.out.kid x hxl').1; rw [HK.out] at x4; have z4 := own_fz HM4.out.nr.1 (x * 3 + 2); have HAP := As.mk hap; clear hap))
      go_ret
      exact Does.grow HC.out (by (repeat (first | exact Ext.rf _ | refine Ext.al ?_ _ | refine Ext.dr ?_ | refine Ext.dN ?_ _))) x hxl' A3 c3 HAP.out (by rw [List.length_append]; omega) HR.out (by rw [List.length_append]; exact Ext.rf _)
    · have hr : doP m ⟨9, arg⟩ = none := by
        rw [if_neg (by simpa using hk)] at htk
        simp [doP, hab, htk]
      have HR := As.mk hr
      clear hr htk hx hkk hN e1 e2 hK hab h0
      go_enter Try.func134, Try.ntmps134
      go_wp2_with (first | (go_at_call 153; refine (nodes_m H.out (by omega) (by (repeat (first | exact Ext.rf _ | refine Ext.al ?_ _ | refine Ext.dr ?_ | refine Ext.dN ?_ _)))).mono ?_; rintro e w1 ⟨rfl, nq, rfl⟩) | (go_at_call 156; refine (above_x H.out (by omega) HTT.out (by (repeat (first | exact Ext.rf _ | refine Ext.al ?_ _ | refine Ext.dr ?_ | refine Ext.dN ?_ _))) kids HKK.out).mono ?_; rintro e w2 ⟨ad, cK2, rfl, _, hc⟩; have HC := As.mk hc; clear hc) | (go_at_call 158; refine (HC.out.top1 (by omega) (by omega) _ x HT.out HX.out hxl (by (repeat (first | exact Ext.rf _ | refine Ext.al ?_ _ | refine Ext.dr ?_ | refine Ext.dN ?_ _)))).mono ?_; rw [hk]; rintro e w3 ⟨rfl, nr, rfl⟩))
      go_ret
      exact Does.cutNo HC.out HR.out (by (repeat (first | exact Ext.rf _ | refine Ext.al ?_ _ | refine Ext.dr ?_ | refine Ext.dN ?_ _)))
end Go.Proofs.Ytcodbpjaamggeaa.C
