/- More methods of the machine. -/
import Derived.Test.YtcodbpjaamggeaaCb
set_option linter.unusedVariables false
set_option linter.unusedSimpArgs false
namespace Go.Proofs.Ytcodbpjaamggeaa.C
open Go.RowKit Go.Proofs.Ytcodbpjaamggeaa.W Go.Proofs.Ytcodbpjaamggeaa.P

theorem top_c0 (g : Nat) (vN vM : Value) (d : Bool) (A : Option Addr) (c : Nat) (s : List Int) (kind : Int) (w : World) (hg : MB w g vN (.slice A s.length c) vM d) (hr : RdI w A s) (h0 : topN s = 0) :
    Calls Try.prog 158 #[.pointer (some ⟨g, 0, none⟩), .int .i64 kind] w fun e w' => e = .returned (.tuple #[.pointer none, .bool false]) ∧ ∃ n, w' = w.drewN n := by
  have HR := As.mk hr; have HG := As.mk hg; have H0 := As.mk h0
  clear hr hg h0
  go_enter Try.func158, Try.ntmps158
  go_wp2_with ((go_at_call 153; refine (nodes_c g vN vM d A c s _ HG.out HR.out).mono ?_; rw [H0.out]; rintro e w1 ⟨rfl, nq, rfl⟩))
  go_ret2
  exact ⟨rfl, nq, rfl⟩
theorem top_c1 (g : Nat) (vM : Value) (d : Bool) (A : Option Addr) (c : Nat) (s : List Int) (ad : Addr) (cN : Nat) (nodes : List Nd) (x : Nat) (kind : Int) (w : World) (hg : MB w g (.slice (some ad) nodes.length cN) (.slice A s.length c) vM d) (hr : RdI w A s) (hN : RdN w (some ad) nodes)
    (h0 : 0 < topN s) (hx : st s 0 = x) (hxl : x < nodes.length) :
    Calls Try.prog 158 #[.pointer (some ⟨g, 0, none⟩), .int .i64 kind] w fun e w' => e = .returned (.tuple #[.pointer (some (ad.add (x * 3))), .bool (nodes[x].kind == kind)]) ∧ ∃ n, w' = w.drewN n := by
  have c0 := hg.c0
  have c1 := hg.c1
  have hlen := hr.1
  have hlenN := hN.1
  have hs0 : 0 < s.length := Nat.lt_of_lt_of_le h0 (topN_le s)
  obtain ⟨aS, rfl, hc⟩ := hr.2 (s.length - 1) (by omega)
  have hsx : s[s.length - 1] = (x : Int) := by rw [← hx, st_at _ _ hs0]; rfl
  rw [hsx] at hc
  obtain ⟨ad', K, cK, had, k0, k1, k2, _⟩ := hN.2 x hxl
  cases had
  clear k1 k2
  have hsub : ((s.length : Int) - 1).toNat = s.length - 1 := by omega
  have HR := As.mk hr; have HG := As.mk hg; have HX := As.mk hx; have HSX := As.mk hsx
  have hne : ((topN s : Int) == 0) = false := by simp; omega
  have H0 := As.mk h0
  clear hr hg hN hx hsx h0
  have q1 : (0 : Int) ≤ x := by omega
  have q2 : (x : Int) < nodes.length := by omega
  go_enter Try.func158, Try.ntmps158
  go_wp2_with ((go_at_call 153; refine (nodes_c g _ vM d _ c s _ HG.out HR.out).mono ?_; rintro e w1 ⟨rfl, nq, rfl⟩))
  go_quiet (fail)
  go_wp2
  go_quiet (fail)
  go_wp2
  go_ret2
  exact ⟨rfl, _, by rw [World.drewN_drewN, World.drewN_drewN]⟩

def AbovePost (g : Nat) (vN vM : Value) (d : Bool) (A : Option Addr) (c : Nat) (s : List Int) (w : World) (e : Ending) (w' : World) : Prop :=
  ∃ A' c', e = .returned (.tuple #[.slice A' (s.drop (s.length - topN s)).length c', .bool true]) ∧ (s.drop (s.length - topN s)).length ≤ c' ∧ MB w' g vN (.slice A (s.length - (topN s + 1)) c) vM d ∧ RdI w' A' (s.drop (s.length - topN s)) ∧ Fr (fun k => k = g) w w' ∧ (∃ ad, A' = some ad ∧ w.heap.size ≤ ad.block)
theorem above_c0 (g : Nat) (vN vM : Value) (d : Bool) (A : Option Addr) (c : Nat) (s : List Int) (w : World) (hg : MB w g vN (.slice A s.length c) vM d) (hr : RdI w A s) (h0 : topN s = s.length) :
    Calls Try.prog 156 #[.pointer (some ⟨g, 0, none⟩)] w fun e w' => e = .returned (.tuple #[.slice none 0 0, .bool false]) ∧ ∃ n, w' = w.drewN n := by
  have c1 := hg.c1
  have hlen := hr.1
  have HR := As.mk hr; have HG := As.mk hg; have H0 := As.mk h0
  clear hr hg h0
  go_enter Try.func156, Try.ntmps156
  go_wp2_with ((go_at_call 153; refine (nodes_c g vN vM d A c s _ HG.out HR.out).mono ?_; rw [H0.out]; rintro e w1 ⟨rfl, nq, rfl⟩))
  go_ret2
  exact ⟨rfl, nq, rfl⟩
theorem above_c1 (g : Nat) (vN vM : Value) (d : Bool) (A : Option Addr) (c : Nat) (s : List Int) (w : World) (hg : MB w g vN (.slice A s.length c) vM d) (hr : RdI w A s) (hc : s.length ≤ c) (h0 : topN s ≠ s.length) :
    Calls Try.prog 156 #[.pointer (some ⟨g, 0, none⟩)] w (AbovePost g vN vM d A c s w) := by
  have c1 := hg.c1
  have hlen := hr.1
  have hle := topN_le s
  obtain ⟨n, hn⟩ : ∃ n, n = topN s := ⟨_, rfl⟩
  have hne : ((n : Int) == s.length) = false := by simp; omega
  have HR := As.mk hr; have HG := As.mk hg
  have HN := As.mk hn
  have hlt : n + 1 ≤ s.length := by omega
  clear hr hg h0 hle hn
  obtain ⟨inf, hi, hsz⟩ := ifoI
  have htn : ((n : Int) + 1).toNat = n + 1 := by omega
  go_enter Try.func156, Try.ntmps156
  go_wp2_with (first | (go_at_call 153; refine (nodes_c g vN vM d A c s _ HG.out HR.out).mono ?_; rw [← HN.out]; rintro e w1 ⟨rfl, nq, rfl⟩) | (go_at_call 157; refine (take_c g vN vM d A c s _ _ (show MB (w.drewN nq) g vN (.slice A s.length c) vM d from HG.out) (HR.out.dN nq) (by omega) (by omega) hc).mono ?_; rw [htn]; rintro e w2 ⟨A', c', rfl, hle', hg', hI, hf, hfr⟩; have hdl : n + 1 = (s.drop (s.length - (n + 1))).length := (by simp; omega); obtain ⟨A2, s1, s2, s3⟩ := slice_from (P := Try.prog) 32 3 (by kernel_rfl) hi hsz A' c' (s.drop (s.length - (n + 1))) 1 (by omega) (by omega) (by omega); rw [← hdl] at s1; have HX := As.mk (And.intro hg' (And.intro hI (And.intro hf (And.intro hfr (And.intro s2 (And.intro hdl s3)))))); clear hg' hI hf hfr s2 hdl s3))
  go_ret2
  obtain ⟨hg', hI, hf, hfr, s2, hdl, s3⟩ := HX.out
  have h1 : 1 ≤ n + 1 := by omega
  have hl : s.drop (s.length - n) = (s.drop (s.length - (n + 1))).drop (Int.toNat 1) := by rw [List.drop_drop, show Int.toNat 1 = 1 from rfl, show s.length - (n + 1) + 1 = s.length - n by omega]
  have hll : (s.drop (s.length - n)).length = n := by rw [List.length_drop]; omega
  have hI' : IR w2 (.slice A' (s.drop (s.length - (n + 1))).length c') (s.drop (s.length - (n + 1))) := by rw [← hdl]; exact hI
  obtain ⟨A3, c3, h2, h3, h4⟩ := IR.rd hI' (by rw [List.length_drop]; omega)
  injection h2 with h5 h6 h7
  subst h5
  unfold AbovePost
  rw [← HN.out, hll]
  refine ⟨A2, c' - 1, rfl, by omega, hg', ?_, (Fr.ofExt ((Ext.rf w).dN nq)).then hf (fun i h => .inl h), ?_⟩
  · rw [hl]; exact s2 _ h4
  · obtain ⟨A4, c4, h8, _, h9⟩ := own_form hI
    injection h8 with h8
    subst h8
    cases hA : A' with
    | none => rw [hA] at h4; obtain ⟨ad, hb, _⟩ := h4.2 0 (by omega); exact nomatch hb
    | some b =>
      obtain ⟨h10, h11, h12⟩ := h9 b hA
      obtain ⟨ad, had, hab⟩ := s3 b.block (by rw [hA]; obtain ⟨b1, b2, b3⟩ := b; cases h10; cases h11; rfl)
      exact ⟨ad, had, by rw [hab]; exact hfr _ h12⟩
end Go.Proofs.Ytcodbpjaamggeaa.C
