/- What an order does, II: what is taken. What an order does, III: the topmost node is changed. What an order does, IV. What an order does, V: the memo. -/
import Derived.Test.YtcodbpjaamggeaaCj
set_option linter.unusedVariables false
set_option linter.unusedSimpArgs false
namespace Go.Proofs.Ytcodbpjaamggeaa.C
open Go.RowKit Go.Proofs.Ytcodbpjaamggeaa.W Go.Proofs.Ytcodbpjaamggeaa.P

/-- 'above' where there is a mark. -/
theorem above_x {base w g l A c vN vM m} (h : MR base w g l vN (.slice A m.stack.length c) vM m) (hls : m.stack.length ≤ 1000000) (ht : topN m.stack ≠ m.stack.length) {W : World} (hW : Ext w W) (kids : List Int) (hk : kids = m.stack.drop (m.stack.length - topN m.stack)) :
    Calls Try.prog 156 #[.pointer (some ⟨g, 0, none⟩)] W fun e w' => ∃ ad c', e = .returned (.tuple #[.slice (some ad) kids.length c', .bool true]) ∧ kids.length ≤ c' ∧ Cut base g l vN vM A c m (topN m.stack + 1) kids (some ad) w w' := by
  subst hk
  refine (above_m1 (h.ext hW) hls ht).mono ?_
  rintro e w' ⟨A', c', rfl, hle, ⟨ad, rfl⟩, h1, h2, h3, h4⟩
  exact ⟨ad, c', rfl, hle, h1, h2, (Fr.ofExt hW).trans h3, fun ad' ha => Nat.le_trans hW.size (h4 ad' ha)⟩
theorem above_n {base w g l A c vN vM m} (h : MR base w g l vN (.slice A m.stack.length c) vM m) (hls : m.stack.length ≤ 1000000) (ht : topN m.stack = m.stack.length) {W : World} (hW : Ext w W) :
    Calls Try.prog 156 #[.pointer (some ⟨g, 0, none⟩)] W fun e w' => e = .returned (.tuple #[.slice none 0 0, .bool false]) ∧ ∃ n, w' = W.drewN n := above_m0 (h.ext hW) hls ht
theorem take_x {base w g l A c vN vM m} (h : MR base w g l vN (.slice A m.stack.length c) vM m) (hls : m.stack.length ≤ 1000000) (n : Nat) (hn : n ≤ m.stack.length) (h0 : 0 < n) {W : World} (hW : Ext w W) (kids : List Int) (hk : kids = m.stack.drop (m.stack.length - n)) :
    Calls Try.prog 157 #[.pointer (some ⟨g, 0, none⟩), .int .i64 n] W fun e w' => ∃ b c', e = .returned (.slice (some ⟨b, 0, none⟩) kids.length c') ∧ kids.length ≤ c' ∧ IR w' (.slice (some ⟨b, 0, none⟩) kids.length c') kids ∧ w.heap.size ≤ b ∧ Cut base g l vN vM A c m n kids (some ⟨b, 0, none⟩) w w' := by
  have hkl : kids.length = n := by rw [hk, List.length_drop]; omega
  subst hk
  refine (take_m (h.ext hW) n hn hls).mono ?_
  rw [hkl]
  rintro e w' ⟨A', c', rfl, hle, hI, hf, h1, h2, h3, h4⟩
  obtain ⟨b, rfl, _⟩ := IR.hdr hI (by omega)
  exact ⟨b, c', rfl, hle, hI, Nat.le_trans hW.size (hf b rfl), h1, h2, (Fr.ofExt hW).trans h3, fun ad' ha => Nat.le_trans hW.size (h4 ad' ha)⟩
theorem Cut.mk {base g l A c vN vM m n kids A' w w1} (hc : Cut base g l vN vM A c m n kids A' w w1) (kind val : Int) (cK : Nat) (hln : m.nodes.length ≤ 1000000) (hls : m.stack.length ≤ 1000000) (hkl : kids.length ≤ 1000000) {W : World} (hW : Ext w1 W) :
    Calls Try.prog 154 #[.pointer (some ⟨g, 0, none⟩), .int .i64 kind, .int .i64 val, .slice A' kids.length cK] W (Does base g l vN (.slice A m.stack.length c) vM m (mk (drop m n) kind val kids) w) :=
  (make_m (hc.1.ext hW) kind val A' cK kids (hc.2.1.ext hW) hln (by rw [drop_len]; omega) hkl).mono (fun _ _ hd => (hd.ext hW).cut hc)
theorem Cut.set {B base g l A c vN vM m n kids A' w w1} (hc : Cut base g l vN vM A c m n kids A' w w1) (h : MR base w g l vN (.slice A m.stack.length c) vM m) (hok : okM B m) (hB : B ≤ 2000000) (cK : Nat) (hkl : kids.length ≤ 300) (hki : ∀ x ∈ kids, 0 ≤ x ∧ x < m.nodes.length) {W : World} (hW : Ext w1 W) :
    Calls Try.prog 159 #[.pointer (some ⟨g, 0, none⟩), .slice A' kids.length cK] W (Does base g l vN (.slice A m.stack.length c) vM m (setP (drop m n) kids) w) :=
  (set_m (hc.1.ext hW) (hok.drop n) hB A' cK kids (hc.2.1.ext hW) hkl (fun ad had hf => by
    rw [foot_cut g l vN vM A _ m.stack.length c] at hf
    have := h.foot_lt _ hf
    have := hc.2.2.2 ad had
    omega) hki).mono (fun _ _ hd => (hd.ext hW).cut hc)

set_option maxRecDepth 100000 in
set_option maxHeartbeats 1000000 in
/-- OcTuple. -/
theorem do_3 {B base w g l vN vS vM m} (h : MR base w g l vN vS vM m) (hok : okM B m) (arg : Int) :
    Calls Try.prog 134 #[.pointer (some ⟨g, 0, none⟩), .agg #[.int .i64 3, .int .i64 arg]] w (Does base g l vN vS vM m (doP m ⟨3, arg⟩) w) := by
  have hln := hok.nl
  have hls := hok.sl
  obtain ⟨A, c, rfl, _, _⟩ := h.rdS (by omega)
  have H := As.mk h
  clear h
  by_cases ht : topN m.stack = m.stack.length
  · have hr : doP m ⟨3, arg⟩ = none := by simp [doP, above_none ht]
    have HR := As.mk hr
    have HT := As.mk ht
    clear hr ht
    go_enter Try.func134, Try.ntmps134
    go_wp2_with (first | (go_at_call 153; refine (nodes_m H.out (by omega) (by (repeat (first | exact Ext.rf _ | refine Ext.al ?_ _ | refine Ext.dr ?_ | refine Ext.dN ?_ _)))).mono ?_; rintro e w1 ⟨rfl, nq, rfl⟩) | (go_at_call 156; refine (above_n H.out (by omega) HT.out (by (repeat (first | exact Ext.rf _ | refine Ext.al ?_ _ | refine Ext.dr ?_ | refine Ext.dN ?_ _)))).mono ?_; rintro e w2 ⟨rfl, nr, rfl⟩))
    go_ret
    exact Does.no H.out HR.out (by (repeat (first | exact Ext.rf _ | refine Ext.al ?_ _ | refine Ext.dr ?_ | refine Ext.dN ?_ _)))
  · obtain ⟨kids, hk⟩ : ∃ kids, kids = m.stack.drop (m.stack.length - topN m.stack) := ⟨_, rfl⟩
    have hkl : kids.length ≤ 300 := by rw [hk, List.length_drop]; omega
    have hr : doP m ⟨3, arg⟩ = mk (drop m (topN m.stack + 1)) 2 0 kids := by rw [hk]; simp [doP, above_some ht]
    rw [hr]
    have HK := As.mk hk
    have HT := As.mk ht
    clear hr ht hk
    go_enter Try.func134, Try.ntmps134
    go_wp2_with (first | (go_at_call 153; refine (nodes_m H.out (by omega) (by (repeat (first | exact Ext.rf _ | refine Ext.al ?_ _ | refine Ext.dr ?_ | refine Ext.dN ?_ _)))).mono ?_; rintro e w1 ⟨rfl, nq, rfl⟩) | (go_at_call 156; refine (above_x H.out (by omega) HT.out (by (repeat (first | exact Ext.rf _ | refine Ext.al ?_ _ | refine Ext.dr ?_ | refine Ext.dN ?_ _))) kids HK.out).mono ?_; rintro e w2 ⟨ad, cK, rfl, _, hc⟩; have HC := As.mk hc; clear hc) | (go_at_call 154; refine (HC.out.mk _ _ _ (by omega) (by omega) (by omega) (by (repeat (first | exact Ext.rf _ | refine Ext.al ?_ _ | refine Ext.dr ?_ | refine Ext.dN ?_ _)))).mono ?_; rintro e w3 ⟨rfl, hd⟩; have HD := As.mk hd; clear hd))
    go_ret
    exact ⟨rfl, HD.out⟩
set_option maxRecDepth 100000 in
set_option maxHeartbeats 1000000 in
/-- OcSetItems. -/
theorem do_12 {B base w g l vN vS vM m} (h : MR base w g l vN vS vM m) (hok : okM B m) (hB : B ≤ 2000000) (arg : Int) :
    Calls Try.prog 134 #[.pointer (some ⟨g, 0, none⟩), .agg #[.int .i64 12, .int .i64 arg]] w (Does base g l vN vS vM m (doP m ⟨12, arg⟩) w) := by
  have hln := hok.nl
  have hls := hok.sl
  have htl := topN_le m.stack
  obtain ⟨A, c, rfl, _, _⟩ := h.rdS (by omega)
  have H := As.mk h
  have HO := As.mk hok
  clear h hok
  by_cases ht : topN m.stack = m.stack.length
  · have hr : doP m ⟨12, arg⟩ = none := by simp [doP, above_none ht]
    have HR := As.mk hr
    have HT := As.mk ht
    clear hr ht
    go_enter Try.func134, Try.ntmps134
    go_wp2_with (first | (go_at_call 153; refine (nodes_m H.out (by omega) (by (repeat (first | exact Ext.rf _ | refine Ext.al ?_ _ | refine Ext.dr ?_ | refine Ext.dN ?_ _)))).mono ?_; rintro e w1 ⟨rfl, nq, rfl⟩) | (go_at_call 156; refine (above_n H.out (by omega) HT.out (by (repeat (first | exact Ext.rf _ | refine Ext.al ?_ _ | refine Ext.dr ?_ | refine Ext.dN ?_ _)))).mono ?_; rintro e w2 ⟨rfl, nr, rfl⟩))
    go_ret
    exact Does.no H.out HR.out (by (repeat (first | exact Ext.rf _ | refine Ext.al ?_ _ | refine Ext.dr ?_ | refine Ext.dN ?_ _)))
  · obtain ⟨kids, hk⟩ : ∃ kids, kids = m.stack.drop (m.stack.length - topN m.stack) := ⟨_, rfl⟩
    have hkl : kids.length ≤ 300 := by rw [hk, List.length_drop]; omega
    have hki := HO.out.top _ (Nat.le_refl _)
    rw [← hk] at hki
    have hr : doP m ⟨12, arg⟩ = setP (drop m (topN m.stack + 1)) kids := by rw [hk]; simp [doP, above_some ht]
    rw [hr]
    have HK := As.mk hk
    have HT := As.mk ht
    have HKI := As.mk hki
    clear hr ht hk hki
    go_enter Try.func134, Try.ntmps134
    go_wp2_with (first | (go_at_call 153; refine (nodes_m H.out (by omega) (by (repeat (first | exact Ext.rf _ | refine Ext.al ?_ _ | refine Ext.dr ?_ | refine Ext.dN ?_ _)))).mono ?_; rintro e w1 ⟨rfl, nq, rfl⟩) | (go_at_call 156; refine (above_x H.out (by omega) HT.out (by (repeat (first | exact Ext.rf _ | refine Ext.al ?_ _ | refine Ext.dr ?_ | refine Ext.dN ?_ _))) kids HK.out).mono ?_; rintro e w2 ⟨ad, cK, rfl, _, hc⟩; have HC := As.mk hc; clear hc) | (go_at_call 159; refine (HC.out.set H.out HO.out hB _ (by omega) HKI.out (by (repeat (first | exact Ext.rf _ | refine Ext.al ?_ _ | refine Ext.dr ?_ | refine Ext.dN ?_ _)))).mono ?_; rintro e w3 ⟨rfl, hd⟩; have HD := As.mk hd; clear hd))
    go_ret
    exact ⟨rfl, HD.out⟩

set_option maxRecDepth 100000 in
set_option maxHeartbeats 1000000 in
/-- OcPopMark. -/
theorem do_18 {B base w g l vN vS vM m} (h : MR base w g l vN vS vM m) (hok : okM B m) (arg : Int) :
    Calls Try.prog 134 #[.pointer (some ⟨g, 0, none⟩), .agg #[.int .i64 18, .int .i64 arg]] w (Does base g l vN vS vM m (doP m ⟨18, arg⟩) w) := by
  have hln := hok.nl
  have hls := hok.sl
  have htl := topN_le m.stack
  obtain ⟨A, c, rfl, _, _⟩ := h.rdS (by omega)
  have H := As.mk h
  have HO := As.mk hok
  clear h hok
  by_cases ht : topN m.stack = m.stack.length
  · have hr : doP m ⟨18, arg⟩ = none := by simp [doP, above_none ht]
    have HR := As.mk hr
    have HT := As.mk ht
    clear hr ht
    go_enter Try.func134, Try.ntmps134
    go_wp2_with (first | (go_at_call 153; refine (nodes_m H.out (by omega) (by (repeat (first | exact Ext.rf _ | refine Ext.al ?_ _ | refine Ext.dr ?_ | refine Ext.dN ?_ _)))).mono ?_; rintro e w1 ⟨rfl, nq, rfl⟩) | (go_at_call 156; refine (above_n H.out (by omega) HT.out (by (repeat (first | exact Ext.rf _ | refine Ext.al ?_ _ | refine Ext.dr ?_ | refine Ext.dN ?_ _)))).mono ?_; rintro e w2 ⟨rfl, nr, rfl⟩))
    go_ret
    exact Does.no H.out HR.out (by (repeat (first | exact Ext.rf _ | refine Ext.al ?_ _ | refine Ext.dr ?_ | refine Ext.dN ?_ _)))
  · obtain ⟨kids, hk⟩ : ∃ kids, kids = m.stack.drop (m.stack.length - topN m.stack) := ⟨_, rfl⟩
    have hkl : kids.length ≤ 300 := by rw [hk, List.length_drop]; omega
    have hr : doP m ⟨18, arg⟩ = some (drop m (topN m.stack + 1)) := by simp [doP, above_some ht]
    have HR := As.mk hr
    have HK := As.mk hk
    have HT := As.mk ht
    clear hr ht hk
    go_enter Try.func134, Try.ntmps134
    go_wp2_with (first | (go_at_call 153; refine (nodes_m H.out (by omega) (by (repeat (first | exact Ext.rf _ | refine Ext.al ?_ _ | refine Ext.dr ?_ | refine Ext.dN ?_ _)))).mono ?_; rintro e w1 ⟨rfl, nq, rfl⟩) | (go_at_call 156; refine (above_x H.out (by omega) HT.out (by (repeat (first | exact Ext.rf _ | refine Ext.al ?_ _ | refine Ext.dr ?_ | refine Ext.dN ?_ _))) kids HK.out).mono ?_; rintro e w2 ⟨ad, cK, rfl, _, hc⟩; have HC := As.mk hc; clear hc))
    go_ret
    exact Does.cutYes HC.out HR.out (by (repeat (first | exact Ext.rf _ | refine Ext.al ?_ _ | refine Ext.dr ?_ | refine Ext.dN ?_ _)))

set_option maxRecDepth 100000 in
set_option maxHeartbeats 1000000 in
/-- OcTuple1. -/
theorem do_5 {B base w g l vN vS vM m} (h : MR base w g l vN vS vM m) (hok : okM B m) (arg : Int) :
    Calls Try.prog 134 #[.pointer (some ⟨g, 0, none⟩), .agg #[.int .i64 5, .int .i64 arg]] w (Does base g l vN vS vM m (doP m ⟨5, arg⟩) w) := by
  have hln := hok.nl
  have hls := hok.sl
  have htl := topN_le m.stack
  obtain ⟨A, c, rfl, _, _⟩ := h.rdS (by omega)
  have H := As.mk h
  have HO := As.mk hok
  clear h hok
  rcases bcase ((1 : Int) ≤ topN m.stack) with ht | ht
  · have hn : 1 ≤ topN m.stack := by omega
    have hkk : m.stack.drop (m.stack.length - 1) = [st m.stack 0] := drop_one _ (by omega)
    have hr : doP m ⟨5, arg⟩ = mk (drop m 1) 2 0 [st m.stack 0] := by simp [doP, hn]
    rw [hr]
    have HKK := As.mk hkk
    clear hr hkk hn
    go_enter Try.func134, Try.ntmps134
    go_wp2_with (first | (go_at_call 153; refine (nodes_m H.out (by omega) (by (repeat (first | exact Ext.rf _ | refine Ext.al ?_ _ | refine Ext.dr ?_ | refine Ext.dN ?_ _)))).mono ?_; rintro e w1 ⟨rfl, nq, rfl⟩) | (go_at_call 157; refine (take_x H.out (by omega) 1 (by omega) (by omega) (by (repeat (first | exact Ext.rf _ | refine Ext.al ?_ _ | refine Ext.dr ?_ | refine Ext.dN ?_ _))) [st m.stack 0] HKK.out.symm).mono ?_; rintro e w2 ⟨b, cK, rfl, _, hI, hb, hc⟩; have HC := As.mk hc; clear hc hI hb) | (go_at_call 154; refine (HC.out.mk _ _ _ (by omega) (by omega) (by simp) (by (repeat (first | exact Ext.rf _ | refine Ext.al ?_ _ | refine Ext.dr ?_ | refine Ext.dN ?_ _)))).mono ?_; rintro e w3 ⟨rfl, hd⟩; have HD := As.mk hd; clear hd))
    go_ret
    exact ⟨rfl, HD.out⟩
  · have hn : ¬ 1 ≤ topN m.stack := by simp at ht; omega
    have hr : doP m ⟨5, arg⟩ = none := by simp [doP, hn]
    have HR := As.mk hr
    clear hr hn
    go_enter Try.func134, Try.ntmps134
    go_wp2_with (go_at_call 153; refine (nodes_m H.out (by omega) (by (repeat (first | exact Ext.rf _ | refine Ext.al ?_ _ | refine Ext.dr ?_ | refine Ext.dN ?_ _)))).mono ?_; rintro e w1 ⟨rfl, nq, rfl⟩)
    go_ret
    exact Does.no H.out HR.out (by (repeat (first | exact Ext.rf _ | refine Ext.al ?_ _ | refine Ext.dr ?_ | refine Ext.dN ?_ _)))

set_option maxRecDepth 100000 in
set_option maxHeartbeats 1000000 in
/-- OcTuple2. -/
theorem do_6 {B base w g l vN vS vM m} (h : MR base w g l vN vS vM m) (hok : okM B m) (arg : Int) :
    Calls Try.prog 134 #[.pointer (some ⟨g, 0, none⟩), .agg #[.int .i64 6, .int .i64 arg]] w (Does base g l vN vS vM m (doP m ⟨6, arg⟩) w) := by
  have hln := hok.nl
  have hls := hok.sl
  have htl := topN_le m.stack
  obtain ⟨A, c, rfl, _, _⟩ := h.rdS (by omega)
  have H := As.mk h
  have HO := As.mk hok
  clear h hok
  rcases bcase ((2 : Int) ≤ topN m.stack) with ht | ht
  · have hn : 2 ≤ topN m.stack := by omega
    have hkk : m.stack.drop (m.stack.length - 2) = [st m.stack 1, st m.stack 0] := drop_two _ (by omega)
    have hr : doP m ⟨6, arg⟩ = mk (drop m 2) 2 0 [st m.stack 1, st m.stack 0] := by simp [doP, hn]
    rw [hr]
    have HKK := As.mk hkk
    clear hr hkk hn
    go_enter Try.func134, Try.ntmps134
    go_wp2_with (first | (go_at_call 153; refine (nodes_m H.out (by omega) (by (repeat (first | exact Ext.rf _ | refine Ext.al ?_ _ | refine Ext.dr ?_ | refine Ext.dN ?_ _)))).mono ?_; rintro e w1 ⟨rfl, nq, rfl⟩) | (go_at_call 157; refine (take_x H.out (by omega) 2 (by omega) (by omega) (by (repeat (first | exact Ext.rf _ | refine Ext.al ?_ _ | refine Ext.dr ?_ | refine Ext.dN ?_ _))) [st m.stack 1, st m.stack 0] HKK.out.symm).mono ?_; rintro e w2 ⟨b, cK, rfl, _, hI, hb, hc⟩; have HC := As.mk hc; clear hc hI hb) | (go_at_call 154; refine (HC.out.mk _ _ _ (by omega) (by omega) (by simp) (by (repeat (first | exact Ext.rf _ | refine Ext.al ?_ _ | refine Ext.dr ?_ | refine Ext.dN ?_ _)))).mono ?_; rintro e w3 ⟨rfl, hd⟩; have HD := As.mk hd; clear hd))
    go_ret
    exact ⟨rfl, HD.out⟩
  · have hn : ¬ 2 ≤ topN m.stack := by simp at ht; omega
    have hr : doP m ⟨6, arg⟩ = none := by simp [doP, hn]
    have HR := As.mk hr
    clear hr hn
    go_enter Try.func134, Try.ntmps134
    go_wp2_with (go_at_call 153; refine (nodes_m H.out (by omega) (by (repeat (first | exact Ext.rf _ | refine Ext.al ?_ _ | refine Ext.dr ?_ | refine Ext.dN ?_ _)))).mono ?_; rintro e w1 ⟨rfl, nq, rfl⟩)
    go_ret
    exact Does.no H.out HR.out (by (repeat (first | exact Ext.rf _ | refine Ext.al ?_ _ | refine Ext.dr ?_ | refine Ext.dN ?_ _)))

set_option maxRecDepth 100000 in
set_option maxHeartbeats 1000000 in
/-- OcSetItem. -/
theorem do_11 {B base w g l vN vS vM m} (h : MR base w g l vN vS vM m) (hok : okM B m) (hB : B ≤ 2000000) (arg : Int) :
    Calls Try.prog 134 #[.pointer (some ⟨g, 0, none⟩), .agg #[.int .i64 11, .int .i64 arg]] w (Does base g l vN vS vM m (doP m ⟨11, arg⟩) w) := by
  have hln := hok.nl
  have hls := hok.sl
  have htl := topN_le m.stack
  obtain ⟨A, c, rfl, _, _⟩ := h.rdS (by omega)
  have H := As.mk h
  have HO := As.mk hok
  clear h hok
  rcases bcase ((3 : Int) ≤ topN m.stack) with ht | ht
  · have hn : 3 ≤ topN m.stack := by omega
    have hkk : m.stack.drop (m.stack.length - 2) = [st m.stack 1, st m.stack 0] := drop_two _ (by omega)
    have hr : doP m ⟨11, arg⟩ = setP (drop m 2) [st m.stack 1, st m.stack 0] := by simp [doP, hn]
    rw [hr]
    have hki := HO.out.top 2 (by omega)
    rw [hkk] at hki
    have HKK := As.mk hkk
    have HKI := As.mk hki
    clear hr hkk hn hki
    go_enter Try.func134, Try.ntmps134
    go_wp2_with (first | (go_at_call 153; refine (nodes_m H.out (by omega) (by (repeat (first | exact Ext.rf _ | refine Ext.al ?_ _ | refine Ext.dr ?_ | refine Ext.dN ?_ _)))).mono ?_; rintro e w1 ⟨rfl, nq, rfl⟩) | (go_at_call 157; refine (take_x H.out (by omega) 2 (by omega) (by omega) (by (repeat (first | exact Ext.rf _ | refine Ext.al ?_ _ | refine Ext.dr ?_ | refine Ext.dN ?_ _))) [st m.stack 1, st m.stack 0] HKK.out.symm).mono ?_; rintro e w2 ⟨b, cK, rfl, _, hI, hb, hc⟩; have HC := As.mk hc; clear hc hI hb) | (go_at_call 159; refine (HC.out.set H.out HO.out hB _ (by simp) HKI.out (by (repeat (first | exact Ext.rf _ | refine Ext.al ?_ _ | refine Ext.dr ?_ | refine Ext.dN ?_ _)))).mono ?_; rintro e w3 ⟨rfl, hd⟩; have HD := As.mk hd; clear hd))
    go_ret
    exact ⟨rfl, HD.out⟩
  · have hn : ¬ 3 ≤ topN m.stack := by simp at ht; omega
    have hr : doP m ⟨11, arg⟩ = none := by simp [doP, hn]
    have HR := As.mk hr
    clear hr hn
    go_enter Try.func134, Try.ntmps134
    go_wp2_with (go_at_call 153; refine (nodes_m H.out (by omega) (by (repeat (first | exact Ext.rf _ | refine Ext.al ?_ _ | refine Ext.dr ?_ | refine Ext.dN ?_ _)))).mono ?_; rintro e w1 ⟨rfl, nq, rfl⟩)
    go_ret
    exact Does.no H.out HR.out (by (repeat (first | exact Ext.rf _ | refine Ext.al ?_ _ | refine Ext.dr ?_ | refine Ext.dN ?_ _)))

set_option maxRecDepth 100000 in
set_option maxHeartbeats 1000000 in
/-- OcPop. -/
theorem do_17 {B base w g l vN vS vM m} (h : MR base w g l vN vS vM m) (hok : okM B m) (arg : Int) :
    Calls Try.prog 134 #[.pointer (some ⟨g, 0, none⟩), .agg #[.int .i64 17, .int .i64 arg]] w (Does base g l vN vS vM m (doP m ⟨17, arg⟩) w) := by
  have hln := hok.nl
  have hls := hok.sl
  have htl := topN_le m.stack
  obtain ⟨A, c, rfl, _, _⟩ := h.rdS (by omega)
  have H := As.mk h
  have HO := As.mk hok
  clear h hok
  rcases bcase ((1 : Int) ≤ topN m.stack) with ht | ht
  · have hn : 1 ≤ topN m.stack := by omega
    have hkk : m.stack.drop (m.stack.length - 1) = [st m.stack 0] := drop_one _ (by omega)
    have hr : doP m ⟨17, arg⟩ = some (drop m 1) := by simp [doP, hn]
    have HR := As.mk hr
    have HKK := As.mk hkk
    clear hr hkk hn
    go_enter Try.func134, Try.ntmps134
    go_wp2_with (first | (go_at_call 153; refine (nodes_m H.out (by omega) (by (repeat (first | exact Ext.rf _ | refine Ext.al ?_ _ | refine Ext.dr ?_ | refine Ext.dN ?_ _)))).mono ?_; rintro e w1 ⟨rfl, nq, rfl⟩) | (go_at_call 157; refine (take_x H.out (by omega) 1 (by omega) (by omega) (by (repeat (first | exact Ext.rf _ | refine Ext.al ?_ _ | refine Ext.dr ?_ | refine Ext.dN ?_ _))) [st m.stack 0] HKK.out.symm).mono ?_; rintro e w2 ⟨b, cK, rfl, _, hI, hb, hc⟩; have HC := As.mk hc; clear hc hI hb))
    go_ret
    exact Does.cutYes HC.out HR.out (by (repeat (first | exact Ext.rf _ | refine Ext.al ?_ _ | refine Ext.dr ?_ | refine Ext.dN ?_ _)))
  · have hn : ¬ 1 ≤ topN m.stack := by simp at ht; omega
    have ht2 : (topN m.stack : Int) < 1 := by omega
    clear ht
    have hr : doP m ⟨17, arg⟩ = none := by simp [doP, hn]
    have HR := As.mk hr
    clear hr hn
    go_enter Try.func134, Try.ntmps134
    go_wp2_with (go_at_call 153; refine (nodes_m H.out (by omega) (by (repeat (first | exact Ext.rf _ | refine Ext.al ?_ _ | refine Ext.dr ?_ | refine Ext.dN ?_ _)))).mono ?_; rintro e w1 ⟨rfl, nq, rfl⟩)
    go_ret
    exact Does.no H.out HR.out (by (repeat (first | exact Ext.rf _ | refine Ext.al ?_ _ | refine Ext.dr ?_ | refine Ext.dN ?_ _)))
end Go.Proofs.Ytcodbpjaamggeaa.C
namespace Go.Proofs.Ytcodbpjaamggeaa.C
open Go.RowKit Go.Proofs.Ytcodbpjaamggeaa.W Go.Proofs.Ytcodbpjaamggeaa.P

theorem Cut.top0 {base g l A c vN vM m n kids A' w w1} (hc : Cut base g l vN vM A c m n kids A' w w1) (hls : m.stack.length ≤ 1000000) (kind : Int) (ht : topN (drop m n).stack = 0) {W : World} (hW : Ext w1 W) :
    Calls Try.prog 158 #[.pointer (some ⟨g, 0, none⟩), .int .i64 kind] W fun e w' => e = .returned (.tuple #[.pointer none, .bool false]) ∧ ∃ n, w' = W.drewN n := by
  have h := hc.1.ext hW
  rw [← drop_len m n] at h
  exact top_m0 (m := drop m n) h (by rw [drop_len]; omega) kind ht
theorem Cut.top1 {base g l A c gN cN vM m n kids A' w w1} (hc : Cut base g l (.slice (some ⟨gN, 0, none⟩) m.nodes.length cN) vM A c m n kids A' w w1) (hln : m.nodes.length ≤ 1000000) (hls : m.stack.length ≤ 1000000) (kind : Int) (x : Nat) (ht : 0 < topN (drop m n).stack) (hx : st (drop m n).stack 0 = x) (hxl : x < m.nodes.length) {W : World} (hW : Ext w1 W) :
    Calls Try.prog 158 #[.pointer (some ⟨g, 0, none⟩), .int .i64 kind] W fun e w' => e = .returned (.tuple #[.pointer (some ((⟨gN, 0, none⟩ : Addr).add (x * 3))), .bool (m.nodes[x].kind == kind)]) ∧ ∃ n, w' = W.drewN n := by
  have h := hc.1.ext hW
  rw [← drop_len m n] at h
  exact top_m1 (m := drop m n) h hln (by rw [drop_len]; omega) kind x ht hx hxl
/-- Kids that grow, in the cut machine. -/
theorem Does.grow {base g l A c gN cN n0 vM m n kids A' w w1 w2 w3 r} (hc : Cut base g l (.slice (some ⟨gN, 0, none⟩) n0 cN) vM A c m n kids A' w w1) (hX : Ext w1 w2) (x : Nat) (hx : x < l.length) (A3 : Option Addr) (c3 : Nat) (hap : AppS l[x].2 l[x].1.kids (l[x].1.kids ++ kids) w2 A3 c3 w3) (hk : (l[x].1.kids ++ kids).length ≤ 1000000000000)
    (hr : r = some (setKids (drop m n) x (l[x].1.kids ++ kids))) {W : World} (hW : Ext (w3.setCell ⟨gN, x * 3 + 2, none⟩ (.slice A3 (l[x].1.kids ++ kids).length c3)) W) :
    Does base g l (.slice (some ⟨gN, 0, none⟩) n0 cN) (.slice A m.stack.length c) vM m r w (.returned (.bool true)) W := by
  obtain ⟨h1, h2⟩ := (hc.1.ext hX).grow x hx kids A3 c3 hap hk
  subst hr
  refine Does.cut hc ⟨rfl, (Fr.ofExt hX).trans (h2.trans (Fr.ofExt hW)), fun m' hm' => ?_, fun h => nomatch h⟩
  injection hm' with hm'
  subst hm'
  exact ⟨_, _, _, h1.ext hW⟩
theorem MR.nd_at {base w g l vN vS vM m} (h : MR base w g l vN vS vM m) (x : Nat) (hx : x < l.length) (hxm : x < m.nodes.length) : l[x].1 = m.nodes[x] ∧ nd m x = m.nodes[x] := by
  constructor
  · have h1 : (l.map Prod.fst)[x]? = m.nodes[x]? := by rw [h.ns]
    rw [List.getElem?_map, List.getElem?_eq_getElem hx, Option.map_some, List.getElem?_eq_getElem hxm] at h1
    injection h1
  · unfold nd
    rw [Int.toNat_natCast, List.getD_eq_getElem?_getD, List.getElem?_eq_getElem hxm]; rfl

set_option maxRecDepth 100000 in
set_option maxHeartbeats 1000000 in
/-- OcAppend. -/
theorem do_8 {B base w g l vN vS vM m} (h : MR base w g l vN vS vM m) (hok : okM B m) (hB : B ≤ 2000000) (arg : Int) :
    Calls Try.prog 134 #[.pointer (some ⟨g, 0, none⟩), .agg #[.int .i64 8, .int .i64 arg]] w (Does base g l vN vS vM m (doP m ⟨8, arg⟩) w) := by
  have hln := hok.nl
  have hls := hok.sl
  have htl := topN_le m.stack
  obtain ⟨A, c, rfl, _, _⟩ := h.rdS (by omega)
  have H := As.mk h
  have HO := As.mk hok
  clear h hok
  by_cases hn : 2 ≤ topN m.stack
  · skip
    have ht : (2 : Int) ≤ topN m.stack := by omega
    have ht' : ¬ (topN m.stack : Int) < 2 := by omega
    have hkk : m.stack.drop (m.stack.length - 1) = [st m.stack 0] := drop_one _ (by omega)
    have htd : topN (drop m 1).stack = topN m.stack - 1 := topN_take _ _ (by omega)
    have HKK := As.mk hkk
    obtain ⟨x, hx, hxl⟩ := top_ok (HO.out.drop 1) (by omega)
    obtain ⟨gN, cN, rfl, hcN, hN⟩ := H.out.hd (Nat.lt_of_le_of_lt (Nat.zero_le _) hxl) (by omega)
    have hxl : x < m.nodes.length := hxl
    have hxl' : x < l.length := by rw [← H.out.nl]; exact hxl
    obtain ⟨e1, e2⟩ := H.out.nd_at x hxl' hxl
    obtain ⟨_, K, cK, hK, hcK, _⟩ := H.out.kid x hxl'
    have hkl := (HO.out.ki _ (List.getElem_mem hxl)).1
    rw [← e1] at hkl
    have htk : topK (drop m 1) 3 = if m.nodes[x].kind = 3 then some (x : Int) else none := by
      unfold topK
      rw [if_neg (by omega), hx]
      show (if (nd m x).kind = 3 then _ else _) = _
      rw [e2]
    have HT : As (0 < topN (drop m 1).stack) := ⟨by omega⟩
    have HX := As.mk hx
    have HK := As.mk hK
    rcases bceq m.nodes[x].kind 3 with hk | hk
    · have hr : doP m ⟨8, arg⟩ = some (setKids (drop m 1) x (l[x].1.kids ++ [st m.stack 0])) := by
        rw [if_pos hk] at htk
        simp [doP, hn, htk, e2, e1]
      have HR := As.mk hr
      clear hr htk hx htd hkk hN e1 e2 hK hn
      go_enter Try.func134, Try.ntmps134
      go_wp2_with (first | (go_at_call 153; refine (nodes_m H.out (by omega) (by (repeat (first | exact Ext.rf _ | refine Ext.al ?_ _ | refine Ext.dr ?_ | refine Ext.dN ?_ _)))).mono ?_; rintro e w1 ⟨rfl, nq, rfl⟩) | (go_at_call 157; refine (take_x H.out (by omega) 1 (by omega) (by omega) (by (repeat (first | exact Ext.rf _ | refine Ext.al ?_ _ | refine Ext.dr ?_ | refine Ext.dN ?_ _))) [st m.stack 0] HKK.out.symm).mono ?_; rintro e w2 ⟨b, cK2, rfl, _, hI, hb, hc⟩; (have x2 : w2.cell? ⟨gN, x * 3 + 2, none⟩ = some (.slice K l[x].1.kids.length cK) := (by have := (hc.1.kid x hxl').1; rwa [HK.out] at this)); have HC := As.mk hc; have HI := As.mk hI; have HB := As.mk hb; clear hc hI hb) | (go_at_call 158; refine (HC.out.top1 (by omega) (by omega) _ x HT.out HX.out hxl (by (repeat (first | exact Ext.rf _ | refine Ext.al ?_ _ | refine Ext.dr ?_ | refine Ext.dN ?_ _)))).mono ?_; rw [hk]; rintro e w3 ⟨rfl, nr, rfl⟩) | (at_builtin; refine app_ints rfl _ _ rfl (.slice K l[x].1.kids.length cK) l[x].1.kids ⟨b, 0, none⟩ 1 cK2 [st m.stack 0] rfl rfl rfl (HC.out.2.1.ext (by (repeat (first | exact Ext.rf _ | refine Ext.al ?_ _ | refine Ext.dr ?_ | refine Ext.dN ?_ _)))) (by rw [← HK.out]; exact ((HC.out.1.ext (by (repeat (first | exact Ext.rf _ | refine Ext.al ?_ _ | refine Ext.dr ?_ | refine Ext.dN ?_ _)))).nr.2 _ (List.getElem_mem hxl')).1) (by omega) ?_; intro A3 c3 w4 hap; rw [← HK.out] at hap; have HM4 := As.mk ((HC.out.1.ext (by (repeat (first | exact Ext.rf _ | refine Ext.al ?_ _ | refine Ext.dr ?_ | refine Ext.dN ?_ _)))).app l[x] (List.getElem_mem hxl') hap.2.1 hap.2.2.2); have x4 := (HM4.out.kid x hxl').1; rw [HK.out] at x4; have z4 := own_fz HM4.out.nr.1 (x * 3 + 2); have HAP := As.mk hap; clear hap))
      go_ret
      exact Does.grow HC.out (by (repeat (first | exact Ext.rf _ | refine Ext.al ?_ _ | refine Ext.dr ?_ | refine Ext.dN ?_ _))) x hxl' A3 c3 HAP.out (by simp; omega) HR.out (by rw [List.length_append]; exact Ext.rf _)
    · have hr : doP m ⟨8, arg⟩ = none := by
        rw [if_neg (by simpa using hk)] at htk
        simp [doP, hn, htk]
      have HR := As.mk hr
      clear hr htk hx htd hkk hN e1 e2 hK hn
      go_enter Try.func134, Try.ntmps134
      go_wp2_with (first | (go_at_call 153; refine (nodes_m H.out (by omega) (by (repeat (first | exact Ext.rf _ | refine Ext.al ?_ _ | refine Ext.dr ?_ | refine Ext.dN ?_ _)))).mono ?_; rintro e w1 ⟨rfl, nq, rfl⟩) | (go_at_call 157; refine (take_x H.out (by omega) 1 (by omega) (by omega) (by (repeat (first | exact Ext.rf _ | refine Ext.al ?_ _ | refine Ext.dr ?_ | refine Ext.dN ?_ _))) [st m.stack 0] HKK.out.symm).mono ?_; rintro e w2 ⟨b, cK2, rfl, _, hI, hb, hc⟩; have HC := As.mk hc; have HI := As.mk hI; have HB := As.mk hb; clear hc hI hb) | (go_at_call 158; refine (HC.out.top1 (by omega) (by omega) _ x HT.out HX.out hxl (by (repeat (first | exact Ext.rf _ | refine Ext.al ?_ _ | refine Ext.dr ?_ | refine Ext.dN ?_ _)))).mono ?_; rw [hk]; rintro e w3 ⟨rfl, nr, rfl⟩))
      go_ret
      exact Does.cutNo HC.out HR.out (by (repeat (first | exact Ext.rf _ | refine Ext.al ?_ _ | refine Ext.dr ?_ | refine Ext.dN ?_ _)))
  · have ht : (topN m.stack : Int) < 2 := by omega
    have hr : doP m ⟨8, arg⟩ = none := by simp [doP, hn]
    have HR := As.mk hr
    clear hr hn
    go_enter Try.func134, Try.ntmps134
    go_wp2_with (go_at_call 153; refine (nodes_m H.out (by omega) (by (repeat (first | exact Ext.rf _ | refine Ext.al ?_ _ | refine Ext.dr ?_ | refine Ext.dN ?_ _)))).mono ?_; rintro e w1 ⟨rfl, nq, rfl⟩)
    go_ret
    exact Does.no H.out HR.out (by (repeat (first | exact Ext.rf _ | refine Ext.al ?_ _ | refine Ext.dr ?_ | refine Ext.dN ?_ _)))

set_option maxRecDepth 100000 in
set_option maxHeartbeats 1000000 in
/-- OcAppends. -/
theorem do_9 {B base w g l vN vS vM m} (h : MR base w g l vN vS vM m) (hok : okM B m) (hB : B ≤ 2000000) (arg : Int) :
    Calls Try.prog 134 #[.pointer (some ⟨g, 0, none⟩), .agg #[.int .i64 9, .int .i64 arg]] w (Does base g l vN vS vM m (doP m ⟨9, arg⟩) w) := by
  have hln := hok.nl
  have hls := hok.sl
  have htl := topN_le m.stack
  obtain ⟨A, c, rfl, _, _⟩ := h.rdS (by omega)
  have H := As.mk h
  have HO := As.mk hok
  clear h hok
  by_cases htt : topN m.stack = m.stack.length
  · have hr : doP m ⟨9, arg⟩ = none := by simp [doP, above_none htt]
    have HR := As.mk hr
    have HT := As.mk htt
    clear hr htt
    go_enter Try.func134, Try.ntmps134
    go_wp2_with (first | (go_at_call 153; refine (nodes_m H.out (by omega) (by (repeat (first | exact Ext.rf _ | refine Ext.al ?_ _ | refine Ext.dr ?_ | refine Ext.dN ?_ _)))).mono ?_; rintro e w1 ⟨rfl, nq, rfl⟩) | (go_at_call 156; refine (above_n H.out (by omega) HT.out (by (repeat (first | exact Ext.rf _ | refine Ext.al ?_ _ | refine Ext.dr ?_ | refine Ext.dN ?_ _)))).mono ?_; rintro e w2 ⟨rfl, nr, rfl⟩))
    go_ret
    exact Does.no H.out HR.out (by (repeat (first | exact Ext.rf _ | refine Ext.al ?_ _ | refine Ext.dr ?_ | refine Ext.dN ?_ _)))
  obtain ⟨kids, hkk⟩ : ∃ kids, kids = m.stack.drop (m.stack.length - topN m.stack) := ⟨_, rfl⟩
  have hkn : kids.length ≤ 300 := by rw [hkk, List.length_drop]; omega
  have hab := above_some htt
  rw [← hkk] at hab
  have HTT := As.mk htt
  have HKK := As.mk hkk
  clear htt
  by_cases h0 : topN (drop m (topN m.stack + 1)).stack = 0
  · have hr : doP m ⟨9, arg⟩ = none := by
      have : topK (drop m (topN m.stack + 1)) 3 = none := by unfold topK; rw [if_pos h0]
      simp [doP, hab, this]
    have HT := As.mk h0
    have HR := As.mk hr
    clear hr hab h0 hkk
    go_enter Try.func134, Try.ntmps134
    go_wp2_with (first | (go_at_call 153; refine (nodes_m H.out (by omega) (by (repeat (first | exact Ext.rf _ | refine Ext.al ?_ _ | refine Ext.dr ?_ | refine Ext.dN ?_ _)))).mono ?_; rintro e w1 ⟨rfl, nq, rfl⟩) | (go_at_call 156; refine (above_x H.out (by omega) HTT.out (by (repeat (first | exact Ext.rf _ | refine Ext.al ?_ _ | refine Ext.dr ?_ | refine Ext.dN ?_ _))) kids HKK.out).mono ?_; rintro e w2 ⟨ad, cK2, rfl, _, hc⟩; have HC := As.mk hc; clear hc) | (go_at_call 158; refine (HC.out.top0 (by omega) _ HT.out (by (repeat (first | exact Ext.rf _ | refine Ext.al ?_ _ | refine Ext.dr ?_ | refine Ext.dN ?_ _)))).mono ?_; rintro e w3 ⟨rfl, nr, rfl⟩))
    go_ret
    exact Does.cutNo HC.out HR.out (by (repeat (first | exact Ext.rf _ | refine Ext.al ?_ _ | refine Ext.dr ?_ | refine Ext.dN ?_ _)))
  · skip
    obtain ⟨x, hx, hxl⟩ := top_ok (HO.out.drop (topN m.stack + 1)) (by omega)
    obtain ⟨gN, cN, rfl, hcN, hN⟩ := H.out.hd (Nat.lt_of_le_of_lt (Nat.zero_le _) hxl) (by omega)
    have hxl : x < m.nodes.length := hxl
    have hxl' : x < l.length := by rw [← H.out.nl]; exact hxl
    obtain ⟨e1, e2⟩ := H.out.nd_at x hxl' hxl
    obtain ⟨_, K, cK, hK, hcK, _⟩ := H.out.kid x hxl'
    have hkl := (HO.out.ki _ (List.getElem_mem hxl)).1
    rw [← e1] at hkl
    have htk : topK (drop m (topN m.stack + 1)) 3 = if m.nodes[x].kind = 3 then some (x : Int) else none := by
      unfold topK
      rw [if_neg (by omega), hx]
      show (if (nd m x).kind = 3 then _ else _) = _
      rw [e2]
    have HT : As (0 < topN (drop m (topN m.stack + 1)).stack) := ⟨by omega⟩
    have HX := As.mk hx
    have HK := As.mk hK
    rcases bceq m.nodes[x].kind 3 with hk | hk
    · have hr : doP m ⟨9, arg⟩ = some (setKids (drop m (topN m.stack + 1)) x (l[x].1.kids ++ kids)) := by
        rw [if_pos hk] at htk
        have : nd (drop m (topN m.stack + 1)) x = m.nodes[x] := e2
        simp [doP, hab, htk, this, e1]
      have HR := As.mk hr
      clear hr htk hx hkk hN e1 e2 hK hab h0
      go_enter Try.func134, Try.ntmps134
      go_wp2_with (first | (go_at_call 153; refine (nodes_m H.out (by omega) (by (repeat (first | exact Ext.rf _ | refine Ext.al ?_ _ | refine Ext.dr ?_ | refine Ext.dN ?_ _)))).mono ?_; rintro e w1 ⟨rfl, nq, rfl⟩) | (go_at_call 156; refine (above_x H.out (by omega) HTT.out (by (repeat (first | exact Ext.rf _ | refine Ext.al ?_ _ | refine Ext.dr ?_ | refine Ext.dN ?_ _))) kids HKK.out).mono ?_; rintro e w2 ⟨ad, cK2, rfl, _, hc⟩; (have x2 : w2.cell? ⟨gN, x * 3 + 2, none⟩ = some (.slice K l[x].1.kids.length cK) := (by have := (hc.1.kid x hxl').1; rwa [HK.out] at this)); have HC := As.mk hc; clear hc) | (go_at_call 158; refine (HC.out.top1 (by omega) (by omega) _ x HT.out HX.out hxl (by (repeat (first | exact Ext.rf _ | refine Ext.al ?_ _ | refine Ext.dr ?_ | refine Ext.dN ?_ _)))).mono ?_; rw [hk]; rintro e w3 ⟨rfl, nr, rfl⟩) | (at_builtin; refine app_ints rfl _ _ rfl (.slice K l[x].1.kids.length cK) l[x].1.kids ad kids.length cK2 kids rfl rfl rfl (HC.out.2.1.ext (by (repeat (first | exact Ext.rf _ | refine Ext.al ?_ _ | refine Ext.dr ?_ | refine Ext.dN ?_ _)))) (by rw [← HK.out]; exact ((HC.out.1.ext (by (repeat (first | exact Ext.rf _ | refine Ext.al ?_ _ | refine Ext.dr ?_ | refine Ext.dN ?_ _)))).nr.2 _ (List.getElem_mem hxl')).1) (by omega) ?_; intro A3 c3 w4 hap; rw [← HK.out] at hap; have HM4 := As.mk ((HC.out.1.ext (by (repeat (first | exact Ext.rf _ | refine Ext.al ?_ _ | refine Ext.dr ?_ | refine Ext.dN ?_ _)))).app l[x] (List.getElem_mem hxl') hap.2.1 hap.2.2.2); have x4 := (HM4.out.kid x hxl').1; rw [HK.out] at x4; have z4 := own_fz HM4.out.nr.1 (x * 3 + 2); have HAP := As.mk hap; clear hap))
      go_ret
      exact Does.grow HC.out (by (repeat (first | exact Ext.rf _ | refine Ext.al ?_ _ | refine Ext.dr ?_ | refine Ext.dN ?_ _))) x hxl' A3 c3 HAP.out (by rw [List.length_append]; omega) HR.out (by rw [List.length_append]; exact Ext.rf _)
    · have hr : doP m ⟨9, arg⟩ = none := by
        rw [if_neg (by simpa using hk)] at htk
        simp [doP, hab, htk]
      have HR := As.mk hr
      clear hr htk hx hkk hN e1 e2 hK hab h0
      go_enter Try.func134, Try.ntmps134
      go_wp2_with (first | (go_at_call 153; refine (nodes_m H.out (by omega) (by (repeat (first | exact Ext.rf _ | refine Ext.al ?_ _ | refine Ext.dr ?_ | refine Ext.dN ?_ _)))).mono ?_; rintro e w1 ⟨rfl, nq, rfl⟩) | (go_at_call 156; refine (above_x H.out (by omega) HTT.out (by (repeat (first | exact Ext.rf _ | refine Ext.al ?_ _ | refine Ext.dr ?_ | refine Ext.dN ?_ _))) kids HKK.out).mono ?_; rintro e w2 ⟨ad, cK2, rfl, _, hc⟩; have HC := As.mk hc; clear hc) | (go_at_call 158; refine (HC.out.top1 (by omega) (by omega) _ x HT.out HX.out hxl (by (repeat (first | exact Ext.rf _ | refine Ext.al ?_ _ | refine Ext.dr ?_ | refine Ext.dN ?_ _)))).mono ?_; rw [hk]; rintro e w3 ⟨rfl, nr, rfl⟩))
      go_ret
      exact Does.cutNo HC.out HR.out (by (repeat (first | exact Ext.rf _ | refine Ext.al ?_ _ | refine Ext.dr ?_ | refine Ext.dN ?_ _)))
end Go.Proofs.Ytcodbpjaamggeaa.C
namespace Go.Proofs.Ytcodbpjaamggeaa.C
open Go.RowKit Go.Proofs.Ytcodbpjaamggeaa.W Go.Proofs.Ytcodbpjaamggeaa.P

theorem Does.state {base g l A c gN cN n0 vM m n kids b w w1 w2 r} (h : MR base w g l (.slice (some ⟨gN, 0, none⟩) n0 cN) (.slice A m.stack.length c) vM m) (hc : Cut base g l (.slice (some ⟨gN, 0, none⟩) n0 cN) vM A c m n kids (some ⟨b, 0, none⟩) w w1) (hX : Ext w1 w2) (x : Nat) (hx : x < l.length) (c' : Nat)
    (hI : IR w1 (.slice (some ⟨b, 0, none⟩) kids.length c') kids) (hb : w.heap.size ≤ b) (hk : kids.length ≤ 1000000000000) (hr : r = some (setKids (drop m n) x kids)) {W : World} (hW : Ext (w2.setCell ⟨gN, x * 3 + 2, none⟩ (.slice (some ⟨b, 0, none⟩) kids.length c')) W) :
    Does base g l (.slice (some ⟨gN, 0, none⟩) n0 cN) (.slice A m.stack.length c) vM m r w (.returned (.bool true)) W := by
  have hne : ∀ k, Foot g l (.slice (some ⟨gN, 0, none⟩) n0 cN) (.slice A (m.stack.length - n) c) vM k → k ≠ b := fun k hk e => by
    rw [foot_cut g l _ vM A _ m.stack.length c] at hk
    have := h.foot_lt k hk
    omega
  have hob : ∀ k, (Value.slice (some ⟨b, 0, none⟩) kids.length c').ownBlock = some k → k = b := fun k hk => by injection hk with hk; exact hk.symm
  have h1 := (hc.1.ext hX).kids x hx (.slice (some ⟨b, 0, none⟩) kids.length c') kids (hI.ext hX) hk
    (fun k hk => by rw [hob k hk]; exact h.up b hb)
    (fun k hk hs => hne k (.inr (.inr (.inl hs))) (hob k hk)) (fun k hk hs => hne k (.inr (.inr (.inr (.inl hs)))) (hob k hk))
    (fun j hj _ k hk hs => hne k (.inr (.inr (.inr (.inr ⟨_, List.getElem_mem hj, hk⟩)))) (hob k hs))
  subst hr
  refine Does.cut hc ⟨rfl, (Fr.ofExt hX).trans ((Fr.set _ _ (.inr (.inl rfl))).trans (Fr.ofExt hW)), fun m' hm' => ?_, fun h => nomatch h⟩
  injection hm' with hm'
  subst hm'
  exact ⟨_, _, _, h1.ext hW⟩
theorem MR.fin {base w g l vN vS vM m} (h : MR base w g l vN vS vM m) (b : Bool) : MR base (w.setCell ⟨g, 3, none⟩ (.bool b)) g l vN vS vM { m with done := b } :=
  ⟨h.mb.set.2.2 b, NR.setG h.nr h.mb _ _, h.ns, IR.setG h.sr h.mb _ _, IR.setG h.me h.mb _ _, h.lo, h.kk, h.ks, h.km, h.sm, fun k hk => h.up k (by simpa [World.setCell] using hk)⟩
theorem MR.put {base w g l vN vS gM n c m} (h : MR base w g l vN vS (.slice (some ⟨gM, 0, none⟩) n c) m) (j : Nat) (v : Int) : MR base (w.setCell ⟨gM, j, none⟩ (.int .i64 v)) g l vN vS (.slice (some ⟨gM, 0, none⟩) n c) { m with memo := m.memo.set j v } := by
  have hob : (Value.slice (some ⟨gM, 0, none⟩) n c).ownBlock = some gM := rfl
  have hkeep : ∀ k, k ≠ gM → (w.setCell ⟨gM, j, none⟩ (.int .i64 v)).heap[k]? = w.heap[k]? := fun k hk => Below.heap_setCell _ _ _ _ hk
  refine ⟨(hkeep g (fun e => own_ne_blk h.me h.mb (by decide) (by rw [hob, e]))).trans h.mb, h.nr.keep (fun k hk => hkeep k (fun e => ?_)), h.ns, h.sr.keep (fun k hk => hkeep k (fun e => h.sm k hk (by rw [hob, e]))), ?_, h.lo, h.kk, h.ks, h.km, h.sm, fun k hk => h.up k (by simpa [World.setCell] using hk)⟩
  · rcases hk with hk | ⟨p, hp, hk⟩
    · exact own_ne_type h.nr.1 h.me (by decide) hk (by rw [hob, e])
    · exact h.km p hp k hk (by rw [hob, e])
  · have h2 : w.ownsRow 0 3 1 (.slice (some ⟨gM, 0, none⟩) n c) m.memo.length (nums m.memo) := h.me
    have hn : n = m.memo.length := by
      rcases h2.2 with ⟨hv, _⟩ | ⟨g', cap, cur, hv, _⟩
      · exact nomatch hv
      · injection hv
    subst hn
    have h3 := own_set h2 j (.int .i64 v)
    rw [show (nums m.memo).set j (.int .i64 v) = nums (m.memo.set j v) by simp [nums, List.map_set]] at h3
    show World.ownsRow _ 0 3 1 _ (m.memo.set j v).length _
    rw [List.length_set]
    exact h3

set_option maxRecDepth 100000 in
set_option maxHeartbeats 1000000 in
/-- OcState. -/
theorem do_14 {B base w g l vN vS vM m} (h : MR base w g l vN vS vM m) (hok : okM B m) (hB : B ≤ 2000000) (arg : Int) :
    Calls Try.prog 134 #[.pointer (some ⟨g, 0, none⟩), .agg #[.int .i64 14, .int .i64 arg]] w (Does base g l vN vS vM m (doP m ⟨14, arg⟩) w) := by
  have hln := hok.nl
  have hls := hok.sl
  have htl := topN_le m.stack
  obtain ⟨A, c, rfl, _, _⟩ := h.rdS (by omega)
  have H := As.mk h
  have HO := As.mk hok
  clear h hok
  by_cases hn : 2 ≤ topN m.stack
  · have ht : (2 : Int) ≤ topN m.stack := by omega
    have ht' : ¬ (topN m.stack : Int) < 2 := by omega
    have hkk : m.stack.drop (m.stack.length - 1) = [st m.stack 0] := drop_one _ (by omega)
    have htd : topN (drop m 1).stack = topN m.stack - 1 := topN_take _ _ (by omega)
    have HKK := As.mk hkk
    obtain ⟨x, hx, hxl⟩ := top_ok (HO.out.drop 1) (by omega)
    obtain ⟨gN, cN, rfl, hcN, hN⟩ := H.out.hd (Nat.lt_of_le_of_lt (Nat.zero_le _) hxl) (by omega)
    have hxl : x < m.nodes.length := hxl
    have hxl' : x < l.length := by rw [← H.out.nl]; exact hxl
    obtain ⟨e1, e2⟩ := H.out.nd_at x hxl' hxl
    obtain ⟨_, K, cK, hK, hcK, _⟩ := H.out.kid x hxl'
    have hkl := (HO.out.ki _ (List.getElem_mem hxl)).1
    rw [← e1] at hkl
    have htk : topK (drop m 1) 5 = if m.nodes[x].kind = 5 then some (x : Int) else none := by
      unfold topK
      rw [if_neg (by omega), hx]
      show (if (nd m x).kind = 5 then _ else _) = _
      rw [e2]
    have HT : As (0 < topN (drop m 1).stack) := ⟨by omega⟩
    have HX := As.mk hx
    have HK := As.mk hK
    rcases bceq m.nodes[x].kind 5 with hk | hk
    · rcases bcase ((0 : Int) < l[x].1.kids.length) with hz | hz
      · have hr : doP m ⟨14, arg⟩ = none := by
          rw [if_pos hk] at htk
          have : ¬ l[x].1.kids = [] := fun e => by rw [e] at hz; exact absurd hz (by simp)
          rw [e1] at this
          simp [doP, hn, htk, e2, this]
        have HR := As.mk hr
        clear hr htk hx htd hkk hN e1 e2 hK hn
        go_enter Try.func134, Try.ntmps134
        go_wp2_with (first | (go_at_call 153; refine (nodes_m H.out (by omega) (by (repeat (first | exact Ext.rf _ | refine Ext.al ?_ _ | refine Ext.dr ?_ | refine Ext.dN ?_ _)))).mono ?_; rintro e w1 ⟨rfl, nq, rfl⟩) | (go_at_call 157; refine (take_x H.out (by omega) 1 (by omega) (by omega) (by (repeat (first | exact Ext.rf _ | refine Ext.al ?_ _ | refine Ext.dr ?_ | refine Ext.dN ?_ _))) [st m.stack 0] HKK.out.symm).mono ?_; rintro e w2 ⟨b, cK2, rfl, _, hI, hb, hc⟩; (have x2 : w2.cell? ⟨gN, x * 3 + 2, none⟩ = some (.slice K l[x].1.kids.length cK) := (by have := (hc.1.kid x hxl').1; rwa [HK.out] at this)); have z2 := own_fz hc.1.nr.1 (x * 3 + 2); have HC := As.mk hc; have HI := As.mk hI; have HB := As.mk hb; clear hc hI hb) | (go_at_call 158; refine (HC.out.top1 (by omega) (by omega) _ x HT.out HX.out hxl (by (repeat (first | exact Ext.rf _ | refine Ext.al ?_ _ | refine Ext.dr ?_ | refine Ext.dN ?_ _)))).mono ?_; rw [hk]; rintro e w3 ⟨rfl, nr, rfl⟩))
        go_ret
        exact Does.cutNo HC.out HR.out (by (repeat (first | exact Ext.rf _ | refine Ext.al ?_ _ | refine Ext.dr ?_ | refine Ext.dN ?_ _)))
      · have hr : doP m ⟨14, arg⟩ = some (setKids (drop m 1) x [st m.stack 0]) := by
          rw [if_pos hk] at htk
          have : l[x].1.kids = [] := List.length_eq_zero_iff.1 (by simp at hz; simp [hz])
          rw [e1] at this
          simp [doP, hn, htk, e2, this]
        have HR := As.mk hr
        have hz3 : (l[x].1.kids.length : Int) = 0 := by simp at hz; simp [hz]
        clear hz
        clear hr htk hx htd hkk hN e1 e2 hK hn
        go_enter Try.func134, Try.ntmps134
        go_wp2_with (first | (go_at_call 153; refine (nodes_m H.out (by omega) (by (repeat (first | exact Ext.rf _ | refine Ext.al ?_ _ | refine Ext.dr ?_ | refine Ext.dN ?_ _)))).mono ?_; rintro e w1 ⟨rfl, nq, rfl⟩) | (go_at_call 157; refine (take_x H.out (by omega) 1 (by omega) (by omega) (by (repeat (first | exact Ext.rf _ | refine Ext.al ?_ _ | refine Ext.dr ?_ | refine Ext.dN ?_ _))) [st m.stack 0] HKK.out.symm).mono ?_; rintro e w2 ⟨b, cK2, rfl, _, hI, hb, hc⟩; (have x2 : w2.cell? ⟨gN, x * 3 + 2, none⟩ = some (.slice K l[x].1.kids.length cK) := (by have := (hc.1.kid x hxl').1; rwa [HK.out] at this)); have z2 := own_fz hc.1.nr.1 (x * 3 + 2); have HC := As.mk hc; have HI := As.mk hI; have HB := As.mk hb; clear hc hI hb) | (go_at_call 158; refine (HC.out.top1 (by omega) (by omega) _ x HT.out HX.out hxl (by (repeat (first | exact Ext.rf _ | refine Ext.al ?_ _ | refine Ext.dr ?_ | refine Ext.dN ?_ _)))).mono ?_; rw [hk]; rintro e w3 ⟨rfl, nr, rfl⟩))
        go_ret
        exact Does.state H.out HC.out ((Ext.rf w2).dN nr) x hxl' cK2 HI.out HB.out (by simp) HR.out (by exact Ext.rf _)
    · have hr : doP m ⟨14, arg⟩ = none := by
        rw [if_neg (by simpa using hk)] at htk
        simp [doP, hn, htk]
      have HR := As.mk hr
      clear hr htk hx htd hkk hN e1 e2 hK hn
      go_enter Try.func134, Try.ntmps134
      go_wp2_with (first | (go_at_call 153; refine (nodes_m H.out (by omega) (by (repeat (first | exact Ext.rf _ | refine Ext.al ?_ _ | refine Ext.dr ?_ | refine Ext.dN ?_ _)))).mono ?_; rintro e w1 ⟨rfl, nq, rfl⟩) | (go_at_call 157; refine (take_x H.out (by omega) 1 (by omega) (by omega) (by (repeat (first | exact Ext.rf _ | refine Ext.al ?_ _ | refine Ext.dr ?_ | refine Ext.dN ?_ _))) [st m.stack 0] HKK.out.symm).mono ?_; rintro e w2 ⟨b, cK2, rfl, _, hI, hb, hc⟩; (have x2 : w2.cell? ⟨gN, x * 3 + 2, none⟩ = some (.slice K l[x].1.kids.length cK) := (by have := (hc.1.kid x hxl').1; rwa [HK.out] at this)); have z2 := own_fz hc.1.nr.1 (x * 3 + 2); have HC := As.mk hc; have HI := As.mk hI; have HB := As.mk hb; clear hc hI hb) | (go_at_call 158; refine (HC.out.top1 (by omega) (by omega) _ x HT.out HX.out hxl (by (repeat (first | exact Ext.rf _ | refine Ext.al ?_ _ | refine Ext.dr ?_ | refine Ext.dN ?_ _)))).mono ?_; rw [hk]; rintro e w3 ⟨rfl, nr, rfl⟩))
      go_ret
      exact Does.cutNo HC.out HR.out (by (repeat (first | exact Ext.rf _ | refine Ext.al ?_ _ | refine Ext.dr ?_ | refine Ext.dN ?_ _)))
  · have ht : (topN m.stack : Int) < 2 := by omega
    have hr : doP m ⟨14, arg⟩ = none := by simp [doP, hn]
    have HR := As.mk hr
    clear hr hn
    go_enter Try.func134, Try.ntmps134
    go_wp2_with (go_at_call 153; refine (nodes_m H.out (by omega) (by (repeat (first | exact Ext.rf _ | refine Ext.al ?_ _ | refine Ext.dr ?_ | refine Ext.dN ?_ _)))).mono ?_; rintro e w1 ⟨rfl, nq, rfl⟩)
    go_ret
    exact Does.no H.out HR.out (by (repeat (first | exact Ext.rf _ | refine Ext.al ?_ _ | refine Ext.dr ?_ | refine Ext.dN ?_ _)))

set_option maxRecDepth 100000 in
set_option maxHeartbeats 1000000 in
/-- OcStop. -/
theorem do_19 {B base w g l vN vS vM m} (h : MR base w g l vN vS vM m) (hok : okM B m) (hd : m.done = false) (arg : Int) :
    Calls Try.prog 134 #[.pointer (some ⟨g, 0, none⟩), .agg #[.int .i64 19, .int .i64 arg]] w (Does base g l vN vS vM m (doP m ⟨19, arg⟩) w) := by
  have hln := hok.nl
  have hls := hok.sl
  have htl := topN_le m.stack
  obtain ⟨A, c, rfl, _, _⟩ := h.rdS (by omega)
  have H := As.mk h
  have HO := As.mk hok
  clear h hok
  have c1 : ∀ o, (w.alloc o).cell? ⟨g, 1, none⟩ = _ := fun o => (H.out.ext ((Ext.rf w).al o)).mb.c1
  have c3 : ∀ o, (w.alloc o).cell? ⟨g, 3, none⟩ = some (.bool false) := fun o => by rw [← hd]; exact (H.out.ext ((Ext.rf w).al o)).mb.c3
  have f3 : ∀ o, (w.alloc o).frozen? ⟨g, 3, none⟩ = false := fun o => (H.out.ext ((Ext.rf w).al o)).mb.fz 3
  have HD := As.mk hd
  clear hd
  have hr : doP m ⟨19, arg⟩ = if m.stack.length = 1 ∧ topN m.stack = 1 then some { m with done := true } else none := by simp [doP]
  have HR := As.mk hr
  clear hr
  have hno : ∀ W, Ext w W → ¬ (m.stack.length = 1 ∧ topN m.stack = 1) → Does base g l vN (.slice A m.stack.length c) vM m (doP m ⟨19, arg⟩) w (.returned (.bool false)) (W.setCell ⟨g, 3, none⟩ (.bool false)) := fun W hW hn => by
    rw [HR.out, if_neg hn]
    have h3 := ((H.out.ext hW).fin false).left
    rw [show (false : Bool) = m.done from HD.out.symm] at h3 ⊢
    exact ⟨by rw [HD.out]; rfl, (Fr.ofExt hW).trans (Fr.set _ _ (.inl rfl)), fun m' hm' => (nomatch hm'), fun _ => h3⟩
  have HNO := As.mk hno
  clear hno
  rcases bceq (m.stack.length : Int) 1 with h1 | h1
  · rcases bceq (topN m.stack : Int) 1 with h2 | h2
    · go_enter Try.func134, Try.ntmps134
      go_wp2_with (go_at_call 153; refine (nodes_m H.out (by omega) (by (repeat (first | exact Ext.rf _ | refine Ext.al ?_ _ | refine Ext.dr ?_ | refine Ext.dN ?_ _)))).mono ?_; rintro e w1 ⟨rfl, nq, rfl⟩)
      go_ret
      rw [HR.out, if_pos ⟨by omega, by omega⟩]
      refine ⟨rfl, (Fr.ofExt (((Ext.rf w).al _).dN nq)).trans (Fr.set _ _ (.inl rfl)), fun m' hm' => ?_, fun h => nomatch h⟩
      injection hm' with hm'
      subst hm'
      exact ⟨l, vN, _, (H.out.ext (((Ext.rf w).al _).dN nq)).fin true⟩
    · go_enter Try.func134, Try.ntmps134
      go_wp2_with (go_at_call 153; refine (nodes_m H.out (by omega) (by (repeat (first | exact Ext.rf _ | refine Ext.al ?_ _ | refine Ext.dr ?_ | refine Ext.dN ?_ _)))).mono ?_; rintro e w1 ⟨rfl, nq, rfl⟩)
      go_ret
      exact HNO.out _ (((Ext.rf w).al _).dN nq) (fun h => by simp at h2; omega)
  · go_enter Try.func134, Try.ntmps134
    go_wp2_with (go_at_call 153; refine (nodes_m H.out (by omega) (by (repeat (first | exact Ext.rf _ | refine Ext.al ?_ _ | refine Ext.dr ?_ | refine Ext.dN ?_ _)))).mono ?_; rintro e w1 ⟨rfl, nq, rfl⟩)
    go_ret
    exact HNO.out _ (((Ext.rf w).al _).dN nq) (fun h => by simp at h1; omega)
end Go.Proofs.Ytcodbpjaamggeaa.C
namespace Go.Proofs.Ytcodbpjaamggeaa.C
open Go.RowKit Go.Proofs.Ytcodbpjaamggeaa.W Go.Proofs.Ytcodbpjaamggeaa.P

theorem MR.mem {base w g l vN vS vM m} (h : MR base w g l vN vS vM m) (hml : m.memo.length = 20) : ∃ gM cM, vM = .slice (some ⟨gM, 0, none⟩) 20 cM ∧ (∀ j, w.frozen? ⟨gM, j, none⟩ = false) ∧ (∀ (j : Nat) (hj : j < m.memo.length), w.cell? ⟨gM, j, none⟩ = some (.int .i64 m.memo[j])) ∧ 20 ≤ cM := by
  obtain ⟨A, c, rfl, hc, hr⟩ := IR.rd h.me (by omega)
  have h2 := h.me
  obtain ⟨b, rfl, hf⟩ := IR.hdr h2 (by omega)
  refine ⟨b, c, by rw [hml], hf, fun j hj => ?_, by omega⟩
  obtain ⟨ad, had, hcell⟩ := hr.2 j hj
  cases had
  rwa [(add_at b j 0).1] at hcell

set_option maxRecDepth 100000 in
set_option maxHeartbeats 1000000 in
/-- OcPut. -/
theorem do_15 {B base w g l vN vS vM m} (h : MR base w g l vN vS vM m) (hok : okM B m) (arg : Int) (ha0 : 0 ≤ arg) (ha : arg ≤ 19) :
    Calls Try.prog 134 #[.pointer (some ⟨g, 0, none⟩), .agg #[.int .i64 15, .int .i64 arg]] w (Does base g l vN vS vM m (doP m ⟨15, arg⟩) w) := by
  have hln := hok.nl
  have hls := hok.sl
  have htl := topN_le m.stack
  obtain ⟨A, c, rfl, hc, hrS⟩ := h.rdS (by omega)
  obtain ⟨gM, cM, rfl, hfz, hme, hcM⟩ := h.mem hok.ml
  have H := As.mk h
  have HO := As.mk hok
  clear h hok
  obtain ⟨j, rfl⟩ := Int.eq_ofNat_of_zero_le ha0
  by_cases hn : 1 ≤ topN m.stack
  · have ht : (1 : Int) ≤ topN m.stack := by omega
    have ht' : ¬ (topN m.stack : Int) < 1 := by omega
    have hr : doP m ⟨15, j⟩ = some { m with memo := m.memo.set j (st m.stack 0) } := by simp [doP, hn]
    obtain ⟨aS, rfl, hcS⟩ := hrS.2 (m.stack.length - 1) (by omega)
    rw [show m.stack[m.stack.length - 1]'(by omega) = st m.stack 0 by rw [st_at m.stack 0 (by omega)]; rfl] at hcS
    obtain ⟨vj, hjm⟩ : ∃ vj, w.cell? ⟨gM, j, none⟩ = some (.int .i64 vj) := ⟨_, hme j (by have := HO.out.ml; omega)⟩
    have hfj := hfz j
    have HR := As.mk hr
    clear hr hn hfz hme hrS
    have c1 := H.out.mb.c1
    have c2 := H.out.mb.c2
    obtain ⟨v, hv⟩ : ∃ v, v = st m.stack 0 := ⟨_, rfl⟩
    rw [← hv] at hcS
    have HV := As.mk hv
    clear hv
    have r1 : ((m.stack.length : Int) - 1).toNat = m.stack.length - 1 := by omega
    have r2 : IntKind.i64.wrap ((m.stack.length : Int) - 1) = (m.stack.length : Int) - 1 := by rw [IntKind.wrap_i64]; omega
    have r3 : (0 : Int) ≤ (m.stack.length : Int) - 1 := by omega
    have r4 : (m.stack.length : Int) - 1 < m.stack.length := by omega
    have r5 : (j : Int) < 20 := by omega
    have r6 : ¬ (m.stack.length : Int) < 1 := by omega
    have r7 : (1 : Int) ≤ m.stack.length := by omega
    go_enter Try.func134, Try.ntmps134
    go_wp2_with (go_at_call 153; refine (nodes_m H.out (by omega) (by (repeat (first | exact Ext.rf _ | refine Ext.al ?_ _ | refine Ext.dr ?_ | refine Ext.dN ?_ _)))).mono ?_; rintro e w1 ⟨rfl, nq, rfl⟩)
    obtain ⟨w1, hw1⟩ : ∃ w1, w1 = (w.alloc (.cells #[.int .i64 15, .int .i64 j] 82)).drewN nq := ⟨_, rfl⟩
    have hX : Ext w w1 := by rw [hw1]; exact ((Ext.rf w).al _).dN nq
    have b1 : w1.cell? ⟨w.heap.size, 1, none⟩ = some (.int .i64 j) := by rw [hw1]; exact World.cell?_alloc_new ..
    rw [← hw1]
    have HX := As.mk hX
    have d1 := hX.cellOf c1
    have d2 := hX.cellOf c2
    have dS := hX.cellOf hcS
    have dM := hX.cellOf hjm
    have dF := own_fz (H.out.ext hX).me j
    clear c1 c2 hcS hjm hfj hX hw1
    refine region_perm (fun w' => w'.cell? ⟨g, 2, none⟩ = some (.slice (some ⟨gM, 0, none⟩) 20 cM) ∧ w'.cell? ⟨w.heap.size, 1, none⟩ = some (.int .i64 j) ∧ w'.cell? ⟨g, 1, none⟩ = some (.slice (some aS) m.stack.length c) ∧ w'.cell? (aS.add (m.stack.length - 1)) = some (.int .i64 v)) [19] [(0, 0), (1, 0), (2, 0), (3, 1), (4, 0), (5, 1), (6, 0), (7, 0), (8, 0), (9, 1), (10, 0), (11, 0), (12, 0), (13, 1), (14, 0), (15, 0), (16, 0), (17, 1), (18, 0), (19, 3)] (by kernel_rfl) (by kernel_rfl) rfl (by kernel_rfl) (fun _ _ _ _ h => h) ?_
    have hS := And.intro d2 (And.intro b1 (And.intro d1 dS))
    repeat (first | refine wpP.c0 (h := ?_) | refine wpP.c1 (w := w1.drew) hS (h := ?_))
    refine wpP.last (h := fun Kv hKv => ?_)
    go_wp2_with fail
    refine hKv.out _ _ (wpP.done ?_)
    clear hKv Kv hS
    go_wp2_with fail
    go_ret
    have hv := HV.out
    subst hv
    rw [HR.out]
    refine ⟨rfl, (Fr.ofExt HX.out).trans ((Fr.set _ _ (.inr (.inr (.inr (.inl rfl))))).trans (Fr.ofExt ((Ext.rf _).dr))), fun m' hm' => ?_, fun h => nomatch h⟩
    injection hm' with hm'
    subst hm'
    exact ⟨l, vN, _, ((H.out.ext HX.out).put j _).ext ((Ext.rf _).dr)⟩
  · have ht2 : (topN m.stack : Int) < 1 := by omega
    have hr : doP m ⟨15, j⟩ = none := by simp [doP, hn]
    have HR := As.mk hr
    clear hr hn hrS hfz hme
    go_enter Try.func134, Try.ntmps134
    go_wp2_with (go_at_call 153; refine (nodes_m H.out (by omega) (by (repeat (first | exact Ext.rf _ | refine Ext.al ?_ _ | refine Ext.dr ?_ | refine Ext.dN ?_ _)))).mono ?_; rintro e w1 ⟨rfl, nq, rfl⟩)
    go_ret
    exact Does.no H.out HR.out (by (repeat (first | exact Ext.rf _ | refine Ext.al ?_ _ | refine Ext.dr ?_ | refine Ext.dN ?_ _)))

theorem MR.memo_cell {base w g l vN vS gM cM m} (h : MR base w g l vN vS (.slice (some ⟨gM, 0, none⟩) 20 cM) m) (hml : m.memo.length = 20) (j : Nat) (hj : j < m.memo.length) : w.cell? ⟨gM, j, none⟩ = some (.int .i64 (m.memo.getD j 0)) := by
  obtain ⟨g', c', h1, _, h2, _⟩ := h.mem hml
  injection h1 with h1
  injection h1 with h1
  injection h1 with h1
  subst h1
  rw [h2 j hj, List.getD_eq_getElem?_getD, List.getElem?_eq_getElem hj]; rfl
theorem push_keeps {base g l vN vS gM cM m i w e w'} (h : Does base g l vN vS (.slice (some ⟨gM, 0, none⟩) 20 cM) m (push m i) w e w') (hml : m.memo.length = 20) (j : Nat) (hj : j < m.memo.length) :
    w'.cell? ⟨g, 2, none⟩ = some (.slice (some ⟨gM, 0, none⟩) 20 cM) ∧ w'.cell? ⟨gM, j, none⟩ = some (.int .i64 (m.memo.getD j 0)) := by
  obtain ⟨_, _, h3, h4⟩ := h
  cases hp : push m i with
  | none =>
    obtain ⟨⟨_, _, h5⟩, h6, h7⟩ := h4 hp
    refine ⟨h5.c2, ?_⟩
    obtain ⟨A, c, h8, _, h9⟩ := IR.rd h7 (by omega)
    injection h8 with h8 h10 h11
    subst h8
    obtain ⟨ad, had, hc⟩ := h9.2 j hj
    cases had
    rw [(add_at gM j 0).1] at hc
    rw [hc, List.getD_eq_getElem?_getD, List.getElem?_eq_getElem hj]; rfl
  | some m' =>
    have hm' : m'.memo = m.memo := by
      unfold push at hp
      split at hp
      · injection hp with hp; subst hp; rfl
      · exact nomatch hp
    obtain ⟨l', vN', vS', h5⟩ := h3 m' hp
    refine ⟨h5.mb.c2, ?_⟩
    rw [← hm'] at hml hj ⊢
    exact h5.memo_cell hml j hj

set_option maxRecDepth 100000 in
set_option maxHeartbeats 1000000 in
/-- OcGet. -/
theorem do_16 {B base w g l vN vS vM m} (h : MR base w g l vN vS vM m) (hok : okM B m) (arg : Int) (ha0 : 0 ≤ arg) (ha : arg ≤ 19) :
    Calls Try.prog 134 #[.pointer (some ⟨g, 0, none⟩), .agg #[.int .i64 16, .int .i64 arg]] w (Does base g l vN vS vM m (doP m ⟨16, arg⟩) w) := by
  have hln := hok.nl
  have hls := hok.sl
  obtain ⟨A, c, rfl, hc, hrS⟩ := h.rdS (by omega)
  obtain ⟨gM, cM, rfl, hfz, hme, hcM⟩ := h.mem hok.ml
  have H := As.mk h
  have HO := As.mk hok
  clear h hok hrS
  obtain ⟨j, rfl⟩ := Int.eq_ofNat_of_zero_le ha0
  have hjl : j < m.memo.length := by have := HO.out.ml; omega
  obtain ⟨v, hv, hjm⟩ : ∃ v, v = m.memo.getD j 0 ∧ w.cell? ⟨gM, j, none⟩ = some (.int .i64 v) := ⟨_, rfl, by rw [List.getD_eq_getElem?_getD, List.getElem?_eq_getElem hjl]; exact hme j hjl⟩
  have HJ := As.mk hjl
  clear hme hfz
  have c2 := H.out.mb.c2
  have r5 : (j : Int) < 20 := by omega
  rcases bcase ((0 : Int) ≤ v) with hn | hn
  · have hr : doP m ⟨16, j⟩ = push m v := by rw [List.getD_eq_getElem?_getD] at hv; simp [doP, ← hv, hn]
    rw [hr]
    have HV := As.mk hv
    clear hr hv
    go_enter Try.func134, Try.ntmps134
    go_wp2_with (go_at_call 153; refine (nodes_m H.out (by omega) (by (repeat (first | exact Ext.rf _ | refine Ext.al ?_ _ | refine Ext.dr ?_ | refine Ext.dN ?_ _)))).mono ?_; rintro e w1 ⟨rfl, nq, rfl⟩)
    obtain ⟨w1, hw1⟩ : ∃ w1, w1 = (w.alloc (.cells #[.int .i64 16, .int .i64 j] 82)).drewN nq := ⟨_, rfl⟩
    have hX : Ext w w1 := by rw [hw1]; exact ((Ext.rf w).al _).dN nq
    have b1 : w1.cell? ⟨w.heap.size, 1, none⟩ = some (.int .i64 j) := by rw [hw1]; exact World.cell?_alloc_new ..
    rw [← hw1]
    have HX := As.mk hX
    have d2 := hX.cellOf c2
    have dM := hX.cellOf hjm
    clear c2 hjm hX hw1
    refine region_perm (fun w' => w'.cell? ⟨g, 2, none⟩ = some (.slice (some ⟨gM, 0, none⟩) 20 cM) ∧ w'.cell? ⟨w.heap.size, 1, none⟩ = some (.int .i64 j) ∧ w'.cell? ⟨gM, j, none⟩ = some (.int .i64 v)) [] [(0, 0), (1, 0), (2, 0), (3, 1), (4, 0), (5, 1), (6, 0), (7, 1), (8, 0), (9, 0), (10, 0), (11, 0), (12, 0), (13, 0), (14, 1), (15, 0), (16, 1), (17, 0), (18, 1), (19, 2), (20, 0), (21, 0)] (by kernel_rfl) (by kernel_rfl) rfl (by kernel_rfl) (fun _ _ _ _ h => h) ?_
    have hS := And.intro d2 (And.intro b1 dM)
    repeat (first | refine wpP.c0 (h := ?_) | refine wpP.c1 (w := w1.drew) hS (h := ?_))
    refine wpP.ev (h := fun Kv hKv => ?_)
    go_wp2_with (go_at_call 155; refine (push_m ((H.out.ext HX.out).ext (by (repeat (first | exact Ext.rf _ | refine Ext.al ?_ _ | refine Ext.dr ?_ | refine Ext.dN ?_ _)))) v (by omega)).mono ?_; rintro e w2 ⟨rfl, hd⟩; have HD := As.mk hd; clear hd)
    obtain ⟨k1, k2⟩ := push_keeps (Does.ext ⟨rfl, HD.out⟩ (HX.out.trans (by (repeat (first | exact Ext.rf _ | refine Ext.al ?_ _ | refine Ext.dr ?_ | refine Ext.dN ?_ _))))) HO.out.ml j HJ.out
    rw [← HV.out] at k2
    have k3 : w2.cell? ⟨w.heap.size, 1, none⟩ = some (.int .i64 j) := HD.out.1.cell b1 (fun hk => by have := H.out.foot_lt _ hk; exact Nat.lt_irrefl _ this)
    refine hKv.out _ _ ⟨k1, k3, k2⟩ ?_
    clear hKv Kv hS k1 k2 k3
    repeat (first | refine wpP.c0 (h := ?_))
    refine wpP.done ?_
    go_wp2_with fail
    go_ret
    exact Does.ext ⟨rfl, HD.out⟩ (HX.out.trans (by (repeat (first | exact Ext.rf _ | refine Ext.al ?_ _ | refine Ext.dr ?_ | refine Ext.dN ?_ _))))
  · have hr : doP m ⟨16, j⟩ = none := by
      have : ¬ 0 ≤ v := by simpa using hn
      rw [List.getD_eq_getElem?_getD] at hv; simp [doP, ← hv, this]
    have HR := As.mk hr
    clear hr hv
    go_enter Try.func134, Try.ntmps134
    go_wp2_with (go_at_call 153; refine (nodes_m H.out (by omega) (by (repeat (first | exact Ext.rf _ | refine Ext.al ?_ _ | refine Ext.dr ?_ | refine Ext.dN ?_ _)))).mono ?_; rintro e w1 ⟨rfl, nq, rfl⟩)
    obtain ⟨w1, hw1⟩ : ∃ w1, w1 = (w.alloc (.cells #[.int .i64 16, .int .i64 j] 82)).drewN nq := ⟨_, rfl⟩
    have hX : Ext w w1 := by rw [hw1]; exact ((Ext.rf w).al _).dN nq
    have b1 : w1.cell? ⟨w.heap.size, 1, none⟩ = some (.int .i64 j) := by rw [hw1]; exact World.cell?_alloc_new ..
    rw [← hw1]
    have HX := As.mk hX
    have d2 := hX.cellOf c2
    have dM := hX.cellOf hjm
    clear c2 hjm hX hw1
    refine region_perm (fun w' => w'.cell? ⟨g, 2, none⟩ = some (.slice (some ⟨gM, 0, none⟩) 20 cM) ∧ w'.cell? ⟨w.heap.size, 1, none⟩ = some (.int .i64 j) ∧ w'.cell? ⟨gM, j, none⟩ = some (.int .i64 v)) [] [(0, 0), (1, 0), (2, 0), (3, 1), (4, 0), (5, 1), (6, 0), (7, 1), (8, 0), (9, 0), (10, 0), (11, 0), (12, 0), (13, 0), (14, 1), (15, 0), (16, 1), (17, 0), (18, 1), (19, 2), (20, 0), (21, 0)] (by kernel_rfl) (by kernel_rfl) rfl (by kernel_rfl) (fun _ _ _ _ h => h) ?_
    have hS := And.intro d2 (And.intro b1 dM)
    repeat (first | refine wpP.c0 (h := ?_) | refine wpP.c1 (w := w1.drew) hS (h := ?_) | refine wpP.c0off (h := ?_) | refine wpP.c1off (w := w1.drew) hS (h := ?_))
    refine wpP.ev (h := fun Kv hKv => ?_)
    go_wp2_with fail
    refine hKv.out _ _ hS ?_
    clear hKv Kv hS
    repeat (first | refine wpP.c0 (h := ?_))
    refine wpP.done ?_
    go_wp2_with fail
    go_ret
    exact Does.no H.out HR.out (HX.out.trans (by (repeat (first | exact Ext.rf _ | refine Ext.al ?_ _ | refine Ext.dr ?_ | refine Ext.dN ?_ _))))
end Go.Proofs.Ytcodbpjaamggeaa.C
