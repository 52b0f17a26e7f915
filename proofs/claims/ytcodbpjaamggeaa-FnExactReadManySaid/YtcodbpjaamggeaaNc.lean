/- The law's own functions on machines: marks. -/
import Derived.Test.YtcodbpjaamggeaaNb
set_option linter.unusedVariables false
set_option linter.unusedSimpArgs false
namespace Go.Proofs.Ytcodbpjaamggeaa.C
open Go.RowKit Go.Proofs.Ytcodbpjaamggeaa.W Go.Proofs.Ytcodbpjaamggeaa.P

theorem marksNd_at : ∀ (L : List Nd) (q : Int) (i : Nat) (h : i < L.length), (marksNd q L)[i]'(by rw [marksNd_len]; exact h) = ⟨endNd q (L.take i), endNd q (L.take i) + 1, marksI (endNd q (L.take i) + 2) L[i].kids.length⟩
  | [], _, i, h => by simp at h
  | n :: r, q, 0, h => by simp [marksNd, endNd]
  | n :: r, q, i + 1, h => by
    have := marksNd_at r (q + 2 + n.kids.length) i (by simpa using h)
    simpa [marksNd, endNd] using this
set_option maxRecDepth 100000 in
set_option maxHeartbeats 1000000 in
theorem heldNodeS_c (A : Option Addr) (n c : Nat) (L : List Nd) (q : Int) (w : World) (hR : RdN w A (marksNd q L)) (hn : n = L.length) (hl : n ≤ 300) (hkl : ∀ p ∈ L, p.kids.length ≤ 100000) (h0 : 0 ≤ q) (h1 : q ≤ 1000000) :
    Calls Try.prog 112 #[.slice A n c, .int .i64 q] w fun e w' => e = .returned (.int .i64 (endNd q L)) ∧ w = w' := by
  have HR := As.mk hR
  have HN := As.mk hn
  have HKL := As.mk hkl
  clear hR hn hkl
  go_enter Try.func112, Try.ntmps112
  go_wp2_with fail
  go_loop [1, 5] (fun a i => ∃ k : Nat, k ≤ n ∧ i = .int .i64 k ∧ a = .int .i64 (endNd q (L.take k))) (fun _ i => n - (intOf i).toNat)
  case atStart => exact ⟨0, Nat.zero_le _, rfl, rfl⟩
  case round =>
    obtain ⟨k, hk, rfl, rfl⟩ := hrel
    obtain ⟨z, hz⟩ : ∃ z, z = endNd q (L.take k) := ⟨_, rfl⟩
    rw [← hz]
    have HZ := As.mk hz
    have hz0 : q ≤ z := by rw [hz]; exact endNd_ge _ _
    have hz1 : z ≤ 40000000 := by
      have := endNd_le 100000 (L.take k) q (fun x hx => HKL.out x (List.mem_of_mem_take hx))
      have hlk : (L.take k).length ≤ 300 := by rw [List.length_take]; omega
      rw [hz]; omega
    clear hz
    by_cases hlt : k < n
    · have hkl : k < L.length := by have := HN.out; omega
      obtain ⟨ad, K, cK, rfl, x0, x1, x2, _, hrk⟩ := HR.out.2 k (by rw [marksNd_len]; exact hkl)
      simp only [marksNd_at L q k hkl] at x0 x1 x2 hrk
      rw [← HZ.out] at x0 x1 x2 hrk
      rw [marksI_len] at x2
      obtain ⟨kn, hkn⟩ : ∃ kn, kn = L[k].kids.length := ⟨_, rfl⟩
      have hkb : kn ≤ 100000 := by rw [hkn]; exact HKL.out _ (List.getElem_mem hkl)
      rw [← hkn] at x2 hrk
      have HEN := As.mk (show endNd q (L.take (k + 1)) = z + 2 + kn by
        rw [List.take_succ_eq_append_getElem hkl, endNd_snoc, ← HZ.out, hkn])
      have HRK := As.mk (show RdI w K (marksI (z + 1 + 1) kn) by rw [show z + 1 + 1 = z + 2 by omega]; exact hrk)
      have q1 : (k : Int) < n := by omega
      clear hkn hrk
      go_wp2_with (go_at_call 34; refine (heldIntS_c K kn cK (z + 1 + 1) _ HRK.out (by omega) (by omega) (by omega)).mono ?_; rintro e w3 ⟨rfl, rfl⟩)
      go_round
      case measure => simp only [intOf]; omega
      case rel => exact ⟨k + 1, by omega, by go_num, by rw [HEN.out]; congr 1; omega⟩
    · have hkn : k = n := by omega
      have HF := As.mk (show z = endNd q L by rw [HZ.out, hkn, HN.out, List.take_length])
      have q1 : ¬ (k : Int) < n := by omega
      clear hkn
      go_wp2_with fail
      go_ret
      exact ⟨ret_int HF.out, rfl⟩
/-- A machine that holds the marks from q on. -/
structure MKM (w : World) (AN AS AM : Option Addr) (m : Mc) (q : Int) : Prop where
  n : RdN w AN (marksNd q m.nodes)
  s : RdI w AS (marksI (endNd q m.nodes) m.stack.length)
  e : RdI w AM (marksI (endNd q m.nodes + m.stack.length) m.memo.length)
def endM (q : Int) (m : Mc) : Int := endNd q m.nodes + m.stack.length + m.memo.length
theorem snd_mem {l l' : List (Nd × Value)} (h : l'.map Prod.snd = l.map Prod.snd) (p : Nd × Value) (hp : p ∈ l') : ∃ p' ∈ l, p'.2 = p.2 := by
  have : p.2 ∈ l'.map Prod.snd := List.mem_map.2 ⟨p, hp, rfl⟩
  rw [h] at this
  obtain ⟨p', h1, h2⟩ := List.mem_map.1 this
  exact ⟨p', h1, h2⟩
set_option maxRecDepth 100000 in
set_option maxHeartbeats 4000000 in
theorem markMachine_m {B l AN AS AM cN cS cM m} (q : Int) (w : World) (h : MW B w l (.slice AN m.nodes.length cN) (.slice AS m.stack.length cS) (.slice AM m.memo.length cM) m) (h1 : m.nodes.length ≤ 300) (h2 : m.stack.length ≤ 300) (h3 : m.memo.length ≤ 300) (hkl : ∀ p ∈ m.nodes, p.kids.length ≤ 100000) (h0 : 0 ≤ q) (hq : q ≤ 1000000) :
    Calls Try.prog 61 #[.agg #[.slice AN m.nodes.length cN, .slice AS m.stack.length cS, .slice AM m.memo.length cM, .bool m.done], .int .i64 q] w fun e w' => e = .returned (.int .i64 (endM q m)) ∧ MKM w' AN AS AM m q ∧ Fr B w w' := by
  have hln : m.nodes.length = l.length := by rw [← h.ns, List.length_map]
  have hx : Ext w (w.alloc (.cells #[.slice AN m.nodes.length cN, .slice AS m.stack.length cS, .slice AM m.memo.length cM, .bool m.done] 64)) := (Ext.rf w).al _
  have hb : MB (w.alloc (.cells #[.slice AN m.nodes.length cN, .slice AS m.stack.length cS, .slice AM m.memo.length cM, .bool m.done] 64)) w.heap.size (.slice AN m.nodes.length cN) (.slice AS m.stack.length cS) (.slice AM m.memo.length cM) m.done := al_new _ _
  have HV := As.mk (h.ext hx)
  have HX := As.mk hx
  have HB := As.mk hb
  have HLN := As.mk hln
  have hk2 : ∀ p ∈ l, p.1.kids.length ≤ 100000 := fun p hp => hkl p.1 (by rw [← h.ns]; exact List.mem_map.2 ⟨p, hp, rfl⟩)
  have HK2 := As.mk hk2
  have HLT := As.mk (fun k hk => h.lt k hk)
  have he1 := endNd_ge m.nodes q
  have he2 := endNd_le 100000 m.nodes q hkl
  have HNS := As.mk h.ns
  clear h hx hb hln hkl hk2
  go_enter Try.func61, Try.ntmps61
  go_upto_region 1 with fail
  generalize w.alloc (.cells #[.slice AN m.nodes.length cN, .slice AS m.stack.length cS, .slice AM m.memo.length cM, .bool m.done] 64) = w0 at HX HV HB ⊢
  have HNG : As (∀ k, ((Value.slice AN m.nodes.length cN).ownBlock = some k ∨ (Value.slice AS m.stack.length cS).ownBlock = some k ∨ (Value.slice AM m.memo.length cM).ownBlock = some k ∨ ∃ p ∈ l, p.2.ownBlock = some k) → k ≠ w.heap.size) := ⟨fun k hk e => by have := HLT.out k hk; omega⟩
  obtain ⟨g, hg⟩ : ∃ g, g = w.heap.size := ⟨_, rfl⟩
  rw [← hg] at HB HNG ⊢
  clear hg HLT
  obtain ⟨q1, hq1⟩ : ∃ q1, q1 = endNd q m.nodes := ⟨_, rfl⟩
  rw [← hq1] at he1 he2
  have HQ1 := As.mk hq1
  have z1 : q1 ≤ 40000000 := by omega
  clear hq1 he2
  have c0 := MB.c0 HB.out
  go_upto_region 2 with (go_at_call 111; refine (markNodeS_m AN m.nodes.length cN l q _ HV.out.nr HV.out.kk HLN.out h1 HK2.out h0 hq).mono ?_; rw [HNS.out, ← HQ1.out]; rintro e w1 ⟨rfl, hmq⟩; have HMQ := As.mk hmq; clear hmq)
  have hmq := HMQ.out
  obtain ⟨l', n1, s1, t1, fr1⟩ := hmq
  have hb1 := fr1.blk HB.out (fun e => HNG.out g (e.elim .inl (fun e => .inr (.inr (.inr e)))) rfl)
  have hS1 := HV.out.sr.fr fr1 (fun k hk e => e.elim (fun e => own_ne_type HV.out.sr HV.out.nr.1 (by decide) hk e) (fun ⟨p, hp, e⟩ => HV.out.ks p hp k e hk))
  have hM1 := HV.out.me.fr fr1 (fun k hk e => e.elim (fun e => own_ne_type HV.out.me HV.out.nr.1 (by decide) hk e) (fun ⟨p, hp, e⟩ => HV.out.km p hp k e hk))
  have HB1 := As.mk hb1
  have HS1 := As.mk hS1
  have HM1 := As.mk hM1
  have HN1 := As.mk (And.intro n1 (And.intro s1 (And.intro t1 fr1)))
  clear hb1 hS1 hM1 n1 s1 t1 fr1 HMQ c0 HB
  have c1 := MB.c1 HB1.out
  go_upto_region 3 with (go_at_call 33; refine (markIntS_c AS m.stack.length cS m.stack q1 _ HS1.out rfl (by omega) (by omega) (by omega)).mono ?_; rintro e w2 ⟨rfl, ho, hf⟩; have HO2 := As.mk ho; have HF2 := As.mk hf; clear ho hf)
  have hb2 := HF2.out.blk HB1.out (fun e => HNG.out g (.inr (.inl e)) rfl)
  have hM2 := HM1.out.fr HF2.out (fun k hk e => HV.out.sm k e hk)
  have hN2 := HN1.out.1.fr HF2.out (fun k hk e => own_ne_type HS1.out HN1.out.1.1 (by decide) e hk) (fun p hp k hk e => by
    obtain ⟨p', hp', e'⟩ := snd_mem HN1.out.2.1 p hp
    exact HV.out.ks p' hp' k (by rw [e']; exact hk) e)
  have HB2 := As.mk hb2
  have HM2 := As.mk hM2
  have HN2 := As.mk hN2
  clear hb2 hM2 hN2 c1
  have c2 := MB.c2 HB2.out
  go_wp2_with (go_at_call 33; refine (markIntS_c AM m.memo.length cM m.memo (q1 + m.stack.length) _ HM2.out rfl (by omega) (by omega) (by omega)).mono ?_; rintro e w3 ⟨rfl, ho, hf⟩; have HO3 := As.mk ho; have HF3 := As.mk hf; clear ho hf)
  go_ret
  have hS3 := HO2.out.fr HF3.out (fun k hk e => HV.out.sm k hk e)
  have hN3 := HN2.out.fr HF3.out (fun k hk e => own_ne_type HM2.out HN2.out.1 (by decide) e hk) (fun p hp k hk e => by
    obtain ⟨p', hp', e'⟩ := snd_mem HN1.out.2.1 p hp
    exact HV.out.km p' hp' k (by rw [e']; exact hk) e)
  have hl' : l'.length = l.length := by have := congrArg List.length HN1.out.2.1; simpa using this
  have ht : l'.map Prod.fst = marksNd q m.nodes := by
    rw [HN1.out.2.2.1, HNS.out, List.take_length, List.drop_length, List.append_nil]
  refine ⟨?_, ⟨?_, ?_, ?_⟩, ?_⟩
  · exact ret_int (by unfold endM; rw [HQ1.out])
  · obtain ⟨A', c', hv, _, hr⟩ := hN3.rd (by have := HLN.out; omega)
    injection hv with hv
    rw [hv, ← ht]; exact hr
  · rw [← HQ1.out]; exact rdA_J hS3 (by rw [marksI_len]; omega)
  · rw [← HQ1.out]; exact rdA_J HO3.out (by rw [marksI_len]; omega)
  · exact (((Fr.ofExt HX.out).trans (HN1.out.2.2.2.mono (fun k hk => HV.out.lo k (hk.elim .inl (fun e => .inr (.inr (.inr e))))))).trans (HF2.out.mono (fun k hk => HV.out.lo k (.inr (.inl hk))))).trans (HF3.out.mono (fun k hk => HV.out.lo k (.inr (.inr (.inl hk)))))
set_option maxRecDepth 100000 in
set_option maxHeartbeats 4000000 in
theorem heldMachine_c {AN AS AM cN cS cM} {m : Mc} (q : Int) (w : World) (h : MKM w AN AS AM m q) (h1 : m.nodes.length ≤ 300) (h2 : m.stack.length ≤ 300) (h3 : m.memo.length ≤ 300) (hkl : ∀ p ∈ m.nodes, p.kids.length ≤ 100000) (h0 : 0 ≤ q) (hq : q ≤ 1000000) :
    Calls Try.prog 62 #[.agg #[.slice AN m.nodes.length cN, .slice AS m.stack.length cS, .slice AM m.memo.length cM, .bool m.done], .int .i64 q] w fun e w' => e = .returned (.int .i64 (endM q m)) ∧ Ext w w' := by
  have hx : Ext w (w.alloc (.cells #[.slice AN m.nodes.length cN, .slice AS m.stack.length cS, .slice AM m.memo.length cM, .bool m.done] 64)) := (Ext.rf w).al _
  have hb : MB (w.alloc (.cells #[.slice AN m.nodes.length cN, .slice AS m.stack.length cS, .slice AM m.memo.length cM, .bool m.done] 64)) w.heap.size (.slice AN m.nodes.length cN) (.slice AS m.stack.length cS) (.slice AM m.memo.length cM) m.done := al_new _ _
  have HK := As.mk (And.intro (h.n.ext hx) (And.intro (h.s.ext hx) (h.e.ext hx)))
  have HX := As.mk hx
  have HB := As.mk hb
  have HKL := As.mk hkl
  have he1 := endNd_ge m.nodes q
  have he2 := endNd_le 100000 m.nodes q hkl
  clear h hx hb hkl
  go_enter Try.func62, Try.ntmps62
  go_upto_region 1 with fail
  generalize w.alloc (.cells #[.slice AN m.nodes.length cN, .slice AS m.stack.length cS, .slice AM m.memo.length cM, .bool m.done] 64) = w0 at HX HK HB ⊢
  generalize w.heap.size = g at HB ⊢
  obtain ⟨q1, hq1⟩ : ∃ q1, q1 = endNd q m.nodes := ⟨_, rfl⟩
  rw [← hq1] at he1 he2
  have HQ1 := As.mk hq1
  have z1 : q1 ≤ 40000000 := by omega
  have z0 : 0 ≤ q1 := by omega
  rw [← hq1] at HK
  obtain ⟨q2, hq2⟩ : ∃ q2, q2 = q1 + (m.stack.length : Int) := ⟨_, rfl⟩
  rw [← hq2] at HK
  have HQ2 := As.mk hq2
  have y0 : 0 ≤ q2 := by omega
  have y1 : q2 ≤ 50000000 := by omega
  obtain ⟨q3, hq3⟩ : ∃ q3, q3 = q2 + (m.memo.length : Int) := ⟨_, rfl⟩
  have HQ3 := As.mk hq3
  have x0 : 0 ≤ q3 := by omega
  clear hq1 he2 hq2 hq3 he1
  have c0 := MB.c0 HB.out; have c1 := MB.c1 HB.out; have c2 := MB.c2 HB.out
  go_upto_region 4 with (go_at_call 112; refine (heldNodeS_c AN m.nodes.length cN m.nodes q _ HK.out.1 rfl h1 HKL.out h0 hq).mono ?_; rw [← HQ1.out]; rintro e w1 ⟨rfl, rfl⟩)
  go_upto_region 7 with (go_at_call 34; refine (heldIntS_c AS m.stack.length cS q1 _ HK.out.2.1 (by omega) (by omega) (by omega)).mono ?_; rw [← HQ2.out]; rintro e w1 ⟨rfl, rfl⟩)
  go_wp2_with (go_at_call 34; refine (heldIntS_c AM m.memo.length cM q2 _ HK.out.2.2 (by omega) (by omega) (by omega)).mono ?_; rw [← HQ3.out]; rintro e w1 ⟨rfl, rfl⟩)
  go_ret
  exact ⟨ret_int (by unfold endM; rw [HQ3.out, HQ2.out, HQ1.out]), HX.out⟩
end Go.Proofs.Ytcodbpjaamggeaa.C
