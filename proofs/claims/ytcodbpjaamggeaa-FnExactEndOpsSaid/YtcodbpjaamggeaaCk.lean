/- What an order does, II: what is taken. -/
import Derived.Test.YtcodbpjaamggeaaCj
set_option linter.unusedVariables false
set_option linter.unusedSimpArgs false
namespace Go.Proofs.Ytcodbpjaamggeaa.C
open Go.RowKit Go.Proofs.Ytcodbpjaamggeaa.W Go.Proofs.Ytcodbpjaamggeaa.P

/-- 'above' where there is a mark. -/
theorem above_x {base w g l A c vN vM m} (h : MR base w g l vN (.slice A m.stack.length c) vM m) (hls : m.stack.length ≤ 1000000) (ht : topN m.stack ≠ m.stack.length) {W : World} (hW : Ext w W) (kids : List Int) (hk : kids = m.stack.drop (m.stack.length - topN m.stack)) :
    Calls Try.prog 156 #[.pointer (some ⟨g, 0, none⟩)] W fun e w' => ∃ ad c', e = .returned (.tuple #[.slice (some ad) kids.length c', .bool true]) ∧ kids.length ≤ c' ∧ Cut base g l vN vM A c m (topN m.stack + 1) kids (some ad) w w' := by
  subst hk
  refine (above_m1 (h.ext hW) hls ht).mono ?_
  rintro e w' ⟨A', c', rfl, hle, ⟨ad, rfl⟩, h1, h2, h3, h4⟩
  exact ⟨ad, c', rfl, hle, h1, h2, (Fr.ofExt hW).trans h3, fun ad' ha => Nat.le_trans hW.size (h4 ad' ha)⟩
theorem above_n {base w g l A c vN vM m} (h : MR base w g l vN (.slice A m.stack.length c) vM m) (hls : m.stack.length ≤ 1000000) (ht : topN m.stack = m.stack.length) {W : World} (hW : Ext w W) :
    Calls Try.prog 156 #[.pointer (some ⟨g, 0, none⟩)] W fun e w' => e = .returned (.tuple #[.slice none 0 0, .bool false]) ∧ ∃ n, w' = W.drewN n := above_m0 (h.ext hW) hls ht
theorem take_x {base w g l A c vN vM m} (h : MR base w g l vN (.slice A m.stack.length c) vM m) (hls : m.stack.length ≤ 1000000) (n : Nat) (hn : n ≤ m.stack.length) (h0 : 0 < n) {W : World} (hW : Ext w W) (kids : List Int) (hk : kids = m.stack.drop (m.stack.length - n)) :
    Calls Try.prog 157 #[.pointer (some ⟨g, 0, none⟩), .int .i64 n] W fun e w' => ∃ b c', e = .returned (.slice (some ⟨b, 0, none⟩) kids.length c') ∧ kids.length ≤ c' ∧ IR w' (.slice (some ⟨b, 0, none⟩) kids.length c') kids ∧ w.heap.size ≤ b ∧ Cut base g l vN vM A c m n kids (some ⟨b, 0, none⟩) w w' := by
  have hkl : kids.length = n := by rw [hk, List.length_drop]; omega
  subst hk
  refine (take_m (h.ext hW) n hn hls).mono ?_
  rw [hkl]
  rintro e w' ⟨A', c', rfl, hle, hI, hf, h1, h2, h3, h4⟩
  obtain ⟨b, rfl, _⟩ := IR.hdr hI (by omega)
  exact ⟨b, c', rfl, hle, hI, Nat.le_trans hW.size (hf b rfl), h1, h2, (Fr.ofExt hW).trans h3, fun ad' ha => Nat.le_trans hW.size (h4 ad' ha)⟩
theorem Cut.mk {base g l A c vN vM m n kids A' w w1} (hc : Cut base g l vN vM A c m n kids A' w w1) (kind val : Int) (cK : Nat) (hln : m.nodes.length ≤ 1000000) (hls : m.stack.length ≤ 1000000) (hkl : kids.length ≤ 1000000) {W : World} (hW : Ext w1 W) :
    Calls Try.prog 154 #[.pointer (some ⟨g, 0, none⟩), .int .i64 kind, .int .i64 val, .slice A' kids.length cK] W (Does base g l vN (.slice A m.stack.length c) vM m (mk (drop m n) kind val kids) w) :=
  (make_m (hc.1.ext hW) kind val A' cK kids (hc.2.1.ext hW) hln (by rw [drop_len]; omega) hkl).mono (fun _ _ hd => (hd.ext hW).cut hc)
theorem Cut.set {B base g l A c vN vM m n kids A' w w1} (hc : Cut base g l vN vM A c m n kids A' w w1) (h : MR base w g l vN (.slice A m.stack.length c) vM m) (hok : okM B m) (hB : B ≤ 2000000) (cK : Nat) (hkl : kids.length ≤ 300) (hki : ∀ x ∈ kids, 0 ≤ x ∧ x < m.nodes.length) {W : World} (hW : Ext w1 W) :
    Calls Try.prog 159 #[.pointer (some ⟨g, 0, none⟩), .slice A' kids.length cK] W (Does base g l vN (.slice A m.stack.length c) vM m (setP (drop m n) kids) w) :=
  (set_m (hc.1.ext hW) (hok.drop n) hB A' cK kids (hc.2.1.ext hW) hkl (fun ad had hf => by
    rw [foot_cut g l vN vM A _ m.stack.length c] at hf
    have := h.foot_lt _ hf
    have := hc.2.2.2 ad had
    omega) hki).mono (fun _ _ hd => (hd.ext hW).cut hc)

set_option maxRecDepth 100000 in
set_option maxHeartbeats 1000000 in
/-- OcTuple. -/
theorem do_3 {B base w g l vN vS vM m} (h : MR base w g l vN vS vM m) (hok : okM B m) (arg : Int) :
    Calls Try.prog 134 #[.pointer (some ⟨g, 0, none⟩), .agg #[.int .i64 3, .int .i64 arg]] w (Does base g l vN vS vM m (doP m ⟨3, arg⟩) w) := by
  have hln := hok.nl
  have hls := hok.sl
  obtain ⟨A, c, rfl, _, _⟩ := h.rdS (by omega)
  have H := As.mk h
  clear h
  by_cases ht : topN m.stack = m.stack.length
  · have hr : doP m ⟨3, arg⟩ = none := by simp [doP, above_none ht]
    have HR := As.mk hr
    have HT := As.mk ht
    clear hr ht
    go_enter Try.func134, Try.ntmps134
    go_wp2_with (first | (go_at_call 153; refine (nodes_m H.out (by omega) (by (repeat (first | exact Ext.rf _ | refine Ext.al ?_ _ | refine Ext.dr ?_ | refine Ext.dN ?_ _)))).mono ?_; rintro e w1 ⟨rfl, nq, rfl⟩) | (go_at_call 156; refine (above_n H.out (by omega) HT.out (by (repeat (first | exact Ext.rf _ | refine Ext.al ?_ _ | refine Ext.dr ?_ | refine Ext.dN ?_ _)))).mono ?_; rintro e w2 ⟨rfl, nr, rfl⟩))
    go_ret
    exact Does.no H.out HR.out (by (repeat (first | exact Ext.rf _ | refine Ext.al ?_ _ | refine Ext.dr ?_ | refine Ext.dN ?_ _)))
  · obtain ⟨kids, hk⟩ : ∃ kids, kids = m.stack.drop (m.stack.length - topN m.stack) := ⟨_, rfl⟩
    have hkl : kids.length ≤ 300 := by rw [hk, List.length_drop]; omega
    have hr : doP m ⟨3, arg⟩ = mk (drop m (topN m.stack + 1)) 2 0 kids := by rw [hk]; simp [doP, above_some ht]
    rw [hr]
    have HK := As.mk hk
    have HT := As.mk ht
    clear hr ht hk
    go_enter Try.func134, Try.ntmps134
    go_wp2_with (first | (go_at_call 153; refine (nodes_m H.out (by omega) (by (repeat (first | exact Ext.rf _ | refine Ext.al ?_ _ | refine Ext.dr ?_ | refine Ext.dN ?_ _)))).mono ?_; rintro e w1 ⟨rfl, nq, rfl⟩) | (go_at_call 156; refine (above_x H.out (by omega) HT.out (by (repeat (first | exact Ext.rf _ | refine Ext.al ?_ _ | refine Ext.dr ?_ | refine Ext.dN ?_ _))) kids HK.out).mono ?_; rintro e w2 ⟨ad, cK, rfl, _, hc⟩; have HC := As.mk hc; clear hc) | (go_at_call 154; refine (HC.out.mk _ _ _ (by omega) (by omega) (by omega) (by (repeat (first | exact Ext.rf _ | refine Ext.al ?_ _ | refine Ext.dr ?_ | refine Ext.dN ?_ _)))).mono ?_; rintro e w3 ⟨rfl, hd⟩; have HD := As.mk hd; clear hd))
    go_ret
    exact ⟨rfl, HD.out⟩
set_option maxRecDepth 100000 in
set_option maxHeartbeats 1000000 in
/-- OcSetItems. -/
theorem do_12 {B base w g l vN vS vM m} (h : MR base w g l vN vS vM m) (hok : okM B m) (hB : B ≤ 2000000) (arg : Int) :
    Calls Try.prog 134 #[.pointer (some ⟨g, 0, none⟩), .agg #[.int .i64 12, .int .i64 arg]] w (Does base g l vN vS vM m (doP m ⟨12, arg⟩) w) := by
  have hln := hok.nl
  have hls := hok.sl
  have htl := topN_le m.stack
  obtain ⟨A, c, rfl, _, _⟩ := h.rdS (by omega)
  have H := As.mk h
  have HO := As.mk hok
  clear h hok
  by_cases ht : topN m.stack = m.stack.length
  · have hr : doP m ⟨12, arg⟩ = none := by simp [doP, above_none ht]
    have HR := As.mk hr
    have HT := As.mk ht
    clear hr ht
    go_enter Try.func134, Try.ntmps134
    go_wp2_with (first | (go_at_call 153; refine (nodes_m H.out (by omega) (by (repeat (first | exact Ext.rf _ | refine Ext.al ?_ _ | refine Ext.dr ?_ | refine Ext.dN ?_ _)))).mono ?_; rintro e w1 ⟨rfl, nq, rfl⟩) | (go_at_call 156; refine (above_n H.out (by omega) HT.out (by (repeat (first | exact Ext.rf _ | refine Ext.al ?_ _ | refine Ext.dr ?_ | refine Ext.dN ?_ _)))).mono ?_; rintro e w2 ⟨rfl, nr, rfl⟩))
    go_ret
    exact Does.no H.out HR.out (by (repeat (first | exact Ext.rf _ | refine Ext.al ?_ _ | refine Ext.dr ?_ | refine Ext.dN ?_ _)))
  · obtain ⟨kids, hk⟩ : ∃ kids, kids = m.stack.drop (m.stack.length - topN m.stack) := ⟨_, rfl⟩
    have hkl : kids.length ≤ 300 := by rw [hk, List.length_drop]; omega
    have hki := HO.out.top _ (Nat.le_refl _)
    rw [← hk] at hki
    have hr : doP m ⟨12, arg⟩ = setP (drop m (topN m.stack + 1)) kids := by rw [hk]; simp [doP, above_some ht]
    rw [hr]
    have HK := As.mk hk
    have HT := As.mk ht
    have HKI := As.mk hki
    clear hr ht hk hki
    go_enter Try.func134, Try.ntmps134
    go_wp2_with (first | (go_at_call 153; refine (nodes_m H.out (by omega) (by (repeat (first | exact Ext.rf _ | refine Ext.al ?_ _ | refine Ext.dr ?_ | refine Ext.dN ?_ _)))).mono ?_; rintro e w1 ⟨rfl, nq, rfl⟩) | (go_at_call 156; refine (above_x H.out (by omega) HT.out (by (repeat (first | exact Ext.rf _ | refine Ext.al ?_ _ | refine Ext.dr ?_ | refine Ext.dN ?_ _))) kids HK.out).mono ?_; rintro e w2 ⟨ad, cK, rfl, _, hc⟩; have HC := As.mk hc; clear hc) | (go_at_call 159; refine (HC.out.set H.out HO.out hB _ (by omega) HKI.out (by (repeat (first | exact Ext.rf _ | refine Ext.al ?_ _ | refine Ext.dr ?_ | refine Ext.dN ?_ _)))).mono ?_; rintro e w3 ⟨rfl, hd⟩; have HD := As.mk hd; clear hd))
    go_ret
    exact ⟨rfl, HD.out⟩

set_option maxRecDepth 100000 in
set_option maxHeartbeats 1000000 in
/-- OcPopMark. -/
theorem do_18 {B base w g l vN vS vM m} (h : MR base w g l vN vS vM m) (hok : okM B m) (arg : Int) :
    Calls Try.prog 134 #[.pointer (some ⟨g, 0, none⟩), .agg #[.int .i64 18, .int .i64 arg]] w (Does base g l vN vS vM m (doP m ⟨18, arg⟩) w) := by
  have hln := hok.nl
  have hls := hok.sl
  have htl := topN_le m.stack
  obtain ⟨A, c, rfl, _, _⟩ := h.rdS (by omega)
  have H := As.mk h
  have HO := As.mk hok
  clear h hok
  by_cases ht : topN m.stack = m.stack.length
  · have hr : doP m ⟨18, arg⟩ = none := by simp [doP, above_none ht]
    have HR := As.mk hr
    have HT := As.mk ht
    clear hr ht
    go_enter Try.func134, Try.ntmps134
    go_wp2_with (first | (go_at_call 153; refine (nodes_m H.out (by omega) (by (repeat (first | exact Ext.rf _ | refine Ext.al ?_ _ | refine Ext.dr ?_ | refine Ext.dN ?_ _)))).mono ?_; rintro e w1 ⟨rfl, nq, rfl⟩) | (go_at_call 156; refine (above_n H.out (by omega) HT.out (by (repeat (first | exact Ext.rf _ | refine Ext.al ?_ _ | refine Ext.dr ?_ | refine Ext.dN ?_ _)))).mono ?_; rintro e w2 ⟨rfl, nr, rfl⟩))
    go_ret
    exact Does.no H.out HR.out (by (repeat (first | exact Ext.rf _ | refine Ext.al ?_ _ | refine Ext.dr ?_ | refine Ext.dN ?_ _)))
  · obtain ⟨kids, hk⟩ : ∃ kids, kids = m.stack.drop (m.stack.length - topN m.stack) := ⟨_, rfl⟩
    have hkl : kids.length ≤ 300 := by rw [hk, List.length_drop]; omega
    have hr : doP m ⟨18, arg⟩ = some (drop m (topN m.stack + 1)) := by simp [doP, above_some ht]
    have HR := As.mk hr
    have HK := As.mk hk
    have HT := As.mk ht
    clear hr ht hk
    go_enter Try.func134, Try.ntmps134
    go_wp2_with (first | (go_at_call 153; refine (nodes_m H.out (by omega) (by (repeat (first | exact Ext.rf _ | refine Ext.al ?_ _ | refine Ext.dr ?_ | refine Ext.dN ?_ _)))).mono ?_; rintro e w1 ⟨rfl, nq, rfl⟩) | (go_at_call 156; refine (above_x H.out (by omega) HT.out (by (repeat (first | exact Ext.rf _ | refine Ext.al ?_ _ | refine Ext.dr ?_ | refine Ext.dN ?_ _))) kids HK.out).mono ?_; rintro e w2 ⟨ad, cK, rfl, _, hc⟩; have HC := As.mk hc; clear hc))
    go_ret
    exact Does.cutYes HC.out HR.out (by (repeat (first | exact Ext.rf _ | refine Ext.al ?_ _ | refine Ext.dr ?_ | refine Ext.dN ?_ _)))

set_option maxRecDepth 100000 in
set_option maxHeartbeats 1000000 in
/-- OcTuple1. -/
theorem do_5 {B base w g l vN vS vM m} (h : MR base w g l vN vS vM m) (hok : okM B m) (arg : Int) :
    Calls Try.prog 134 #[.pointer (some ⟨g, 0, none⟩), .agg #[.int .i64 5, .int .i64 arg]] w (Does base g l vN vS vM m (doP m ⟨5, arg⟩) w) := by
  have hln := hok.nl
  have hls := hok.sl
  have htl := topN_le m.stack
  obtain ⟨A, c, rfl, _, _⟩ := h.rdS (by omega)
  have H := As.mk h
  have HO := As.mk hok
  clear h hok
  rcases bcase ((1 : Int) ≤ topN m.stack) with ht | ht
  · have hn : 1 ≤ topN m.stack := by omega
    have hkk : m.stack.drop (m.stack.length - 1) = [st m.stack 0] := drop_one _ (by omega)
    have hr : doP m ⟨5, arg⟩ = mk (drop m 1) 2 0 [st m.stack 0] := by simp [doP, hn]
    rw [hr]
    have HKK := As.mk hkk
    clear hr hkk hn
    go_enter Try.func134, Try.ntmps134
    go_wp2_with (first | (go_at_call 153; refine (nodes_m H.out (by omega) (by (repeat (first | exact Ext.rf _ | refine Ext.al ?_ _ | refine Ext.dr ?_ | refine Ext.dN ?_ _)))).mono ?_; rintro e w1 ⟨rfl, nq, rfl⟩) | (go_at_call 157; refine (take_x H.out (by omega) 1 (by omega) (by omega) (by (repeat (first | exact Ext.rf _ | refine Ext.al ?_ _ | refine Ext.dr ?_ | refine Ext.dN ?_ _))) [st m.stack 0] HKK.out.symm).mono ?_; rintro e w2 ⟨b, cK, rfl, _, hI, hb, hc⟩; have HC := As.mk hc; clear hc hI hb) | (go_at_call 154; refine (HC.out.mk _ _ _ (by omega) (by omega) (by simp) (by (repeat (first | exact Ext.rf _ | refine Ext.al ?_ _ | refine Ext.dr ?_ | refine Ext.dN ?_ _)))).mono ?_; rintro e w3 ⟨rfl, hd⟩; have HD := As.mk hd; clear hd))
    go_ret
    exact ⟨rfl, HD.out⟩
  · have hn : ¬ 1 ≤ topN m.stack := by simp at ht; omega
    have hr : doP m ⟨5, arg⟩ = none := by simp [doP, hn]
    have HR := As.mk hr
    clear hr hn
    go_enter Try.func134, Try.ntmps134
    go_wp2_with (go_at_call 153; refine (nodes_m H.out (by omega) (by (repeat (first | exact Ext.rf _ | refine Ext.al ?_ _ | refine Ext.dr ?_ | refine Ext.dN ?_ _)))).mono ?_; rintro e w1 ⟨rfl, nq, rfl⟩)
    go_ret
    exact Does.no H.out HR.out (by (repeat (first | exact Ext.rf _ | refine Ext.al ?_ _ | refine Ext.dr ?_ | refine Ext.dN ?_ _)))

set_option maxRecDepth 100000 in
set_option maxHeartbeats 1000000 in
/-- OcTuple2. -/
theorem do_6 {B base w g l vN vS vM m} (h : MR base w g l vN vS vM m) (hok : okM B m) (arg : Int) :
    Calls Try.prog 134 #[.pointer (some ⟨g, 0, none⟩), .agg #[.int .i64 6, .int .i64 arg]] w (Does base g l vN vS vM m (doP m ⟨6, arg⟩) w) := by
  have hln := hok.nl
  have hls := hok.sl
  have htl := topN_le m.stack
  obtain ⟨A, c, rfl, _, _⟩ := h.rdS (by omega)
  have H := As.mk h
  have HO := As.mk hok
  clear h hok
  rcases bcase ((2 : Int) ≤ topN m.stack) with ht | ht
  · have hn : 2 ≤ topN m.stack := by omega
    have hkk : m.stack.drop (m.stack.length - 2) = [st m.stack 1, st m.stack 0] := drop_two _ (by omega)
    have hr : doP m ⟨6, arg⟩ = mk (drop m 2) 2 0 [st m.stack 1, st m.stack 0] := by simp [doP, hn]
    rw [hr]
    have HKK := As.mk hkk
    clear hr hkk hn
    go_enter Try.func134, Try.ntmps134
    go_wp2_with (first | (go_at_call 153; refine (nodes_m H.out (by omega) (by (repeat (first | exact Ext.rf _ | refine Ext.al ?_ _ | refine Ext.dr ?_ | refine Ext.dN ?_ _)))).mono ?_; rintro e w1 ⟨rfl, nq, rfl⟩) | (go_at_call 157; refine (take_x H.out (by omega) 2 (by omega) (by omega) (by (repeat (first | exact Ext.rf _ | refine Ext.al ?_ _ | refine Ext.dr ?_ | refine Ext.dN ?_ _))) [st m.stack 1, st m.stack 0] HKK.out.symm).mono ?_; rintro e w2 ⟨b, cK, rfl, _, hI, hb, hc⟩; have HC := As.mk hc; clear hc hI hb) | (go_at_call 154; refine (HC.out.mk _ _ _ (by omega) (by omega) (by simp) (by (repeat (first | exact Ext.rf _ | refine Ext.al ?_ _ | refine Ext.dr ?_ | refine Ext.dN ?_ _)))).mono ?_; rintro e w3 ⟨rfl, hd⟩; have HD := As.mk hd; clear hd))
    go_ret
    exact ⟨rfl, HD.out⟩
  · have hn : ¬ 2 ≤ topN m.stack := by simp at ht; omega
    have hr : doP m ⟨6, arg⟩ = none := by simp [doP, hn]
    have HR := As.mk hr
    clear hr hn
    go_enter Try.func134, Try.ntmps134
    go_wp2_with (go_at_call 153; refine (nodes_m H.out (by omega) (by (repeat (first | exact Ext.rf _ | refine Ext.al ?_ _ | refine Ext.dr ?_ | refine Ext.dN ?_ _)))).mono ?_; rintro e w1 ⟨rfl, nq, rfl⟩)
    go_ret
    exact Does.no H.out HR.out (by (repeat (first | exact Ext.rf _ | refine Ext.al ?_ _ | refine Ext.dr ?_ | refine Ext.dN ?_ _)))

set_option maxRecDepth 100000 in
set_option maxHeartbeats 1000000 in
/-- OcSetItem. -/
theorem do_11 {B base w g l vN vS vM m} (h : MR base w g l vN vS vM m) (hok : okM B m) (hB : B ≤ 2000000) (arg : Int) :
    Calls Try.prog 134 #[.pointer (some ⟨g, 0, none⟩), .agg #[.int .i64 11, .int .i64 arg]] w (Does base g l vN vS vM m (doP m ⟨11, arg⟩) w) := by
  have hln := hok.nl
  have hls := hok.sl
  have htl := topN_le m.stack
  obtain ⟨A, c, rfl, _, _⟩ := h.rdS (by omega)
  have H := As.mk h
  have HO := As.mk hok
  clear h hok
  rcases bcase ((3 : Int) ≤ topN m.stack) with ht | ht
  · have hn : 3 ≤ topN m.stack := by omega
    have hkk : m.stack.drop (m.stack.length - 2) = [st m.stack 1, st m.stack 0] := drop_two _ (by omega)
    have hr : doP m ⟨11, arg⟩ = setP (drop m 2) [st m.stack 1, st m.stack 0] := by simp [doP, hn]
    rw [hr]
    have hki := HO.out.top 2 (by omega)
    rw [hkk] at hki
    have HKK := As.mk hkk
    have HKI := As.mk hki
    clear hr hkk hn hki
    go_enter Try.func134, Try.ntmps134
    go_wp2_with (first | (go_at_call 153; refine (nodes_m H.out (by omega) (by (repeat (first | exact Ext.rf _ | refine Ext.al ?_ _ | refine Ext.dr ?_ | refine Ext.dN ?_ _)))).mono ?_; rintro e w1 ⟨rfl, nq, rfl⟩) | (go_at_call 157; refine (take_x H.out (by omega) 2 (by omega) (by omega) (by (repeat (first | exact Ext.rf _ | refine Ext.al ?_ _ | refine Ext.dr ?_ | refine Ext.dN ?_ _))) [st m.stack 1, st m.stack 0] HKK.out.symm).mono ?_; rintro e w2 ⟨b, cK, rfl, _, hI, hb, hc⟩; have HC := As.mk hc; clear hc hI hb) | (go_at_call 159; refine (HC.out.set H.out HO.out hB _ (by simp) HKI.out (by (repeat (first | exact Ext.rf _ | refine Ext.al ?_ _ | refine Ext.dr ?_ | refine Ext.dN ?_ _)))).mono ?_; rintro e w3 ⟨rfl, hd⟩; have HD := As.mk hd; clear hd))
    go_ret
    exact ⟨rfl, HD.out⟩
  · have hn : ¬ 3 ≤ topN m.stack := by simp at ht; omega
    have hr : doP m ⟨11, arg⟩ = none := by simp [doP, hn]
    have HR := As.mk hr
    clear hr hn
    go_enter Try.func134, Try.ntmps134
    go_wp2_with (go_at_call 153; refine (nodes_m H.out (by omega) (by (repeat (first | exact Ext.rf _ | refine Ext.al ?_ _ | refine Ext.dr ?_ | refine Ext.dN ?_ _)))).mono ?_; rintro e w1 ⟨rfl, nq, rfl⟩)
    go_ret
    exact Does.no H.out HR.out (by (repeat (first | exact Ext.rf _ | refine Ext.al ?_ _ | refine Ext.dr ?_ | refine Ext.dN ?_ _)))

set_option maxRecDepth 100000 in
set_option maxHeartbeats 1000000 in
/-- OcPop. -/
theorem do_17 {B base w g l vN vS vM m} (h : MR base w g l vN vS vM m) (hok : okM B m) (arg : Int) :
    Calls Try.prog 134 #[.pointer (some ⟨g, 0, none⟩), .agg #[.int .i64 17, .int .i64 arg]] w (Does base g l vN vS vM m (doP m ⟨17, arg⟩) w) := by
  have hln := hok.nl
  have hls := hok.sl
  have htl := topN_le m.stack
  obtain ⟨A, c, rfl, _, _⟩ := h.rdS (by omega)
  have H := As.mk h
  have HO := As.mk hok
  clear h hok
  rcases bcase ((1 : Int) ≤ topN m.stack) with ht | ht
  · have hn : 1 ≤ topN m.stack := by omega
    have hkk : m.stack.drop (m.stack.length - 1) = [st m.stack 0] := drop_one _ (by omega)
    have hr : doP m ⟨17, arg⟩ = some (drop m 1) := by simp [doP, hn]
    have HR := As.mk hr
    have HKK := As.mk hkk
    clear hr hkk hn
    go_enter Try.func134, Try.ntmps134
    go_wp2_with (first | (go_at_call 153; refine (nodes_m H.out (by omega) (by (repeat (first | exact Ext.rf _ | refine Ext.al ?_ _ | refine Ext.dr ?_ | refine Ext.dN ?_ _)))).mono ?_; rintro e w1 ⟨rfl, nq, rfl⟩) | (go_at_call 157; refine (take_x H.out (by omega) 1 (by omega) (by omega) (by (repeat (first | exact Ext.rf _ | refine Ext.al ?_ _ | refine Ext.dr ?_ | refine Ext.dN ?_ _))) [st m.stack 0] HKK.out.symm).mono ?_; rintro e w2 ⟨b, cK, rfl, _, hI, hb, hc⟩; have HC := As.mk hc; clear hc hI hb))
    go_ret
    exact Does.cutYes HC.out HR.out (by (repeat (first | exact Ext.rf _ | refine Ext.al ?_ _ | refine Ext.dr ?_ | refine Ext.dN ?_ _)))
  · have hn : ¬ 1 ≤ topN m.stack := by simp at ht; omega
    have ht2 : (topN m.stack : Int) < 1 := by omega
    clear ht
    have hr : doP m ⟨17, arg⟩ = none := by simp [doP, hn]
    have HR := As.mk hr
    clear hr hn
    go_enter Try.func134, Try.ntmps134
    go_wp2_with (go_at_call 153; refine (nodes_m H.out (by omega) (by (repeat (first | exact Ext.rf _ | refine Ext.al ?_ _ | refine Ext.dr ?_ | refine Ext.dN ?_ _)))).mono ?_; rintro e w1 ⟨rfl, nq, rfl⟩)
    go_ret
    exact Does.no H.out HR.out (by (repeat (first | exact Ext.rf _ | refine Ext.al ?_ _ | refine Ext.dr ?_ | refine Ext.dN ?_ _)))
end Go.Proofs.Ytcodbpjaamggeaa.C
