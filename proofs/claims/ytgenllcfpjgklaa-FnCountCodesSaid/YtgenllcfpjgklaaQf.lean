/- Validity of graphs, as the reference checks it. -/
import Derived.Test.YtgenllcfpjgklaaQe
set_option linter.unusedVariables false
set_option linter.unusedSimpArgs false
namespace Go.Proofs.Ytgenllcfpjgklaa.C
open Go.RowKit Go.Proofs.Ytgenllcfpjgklaa.W Go.Proofs.Ytgenllcfpjgklaa.P

def VgV (ns : List Nd) (r : Int) (w : World) (e : Ending) (w' : World) : Prop := ∃ b, e = .returned (.bool b) ∧ (b = true ↔ VG ns r) ∧ Ext w w'
theorem inR_t {n lo hi : Int} (h : lo ≤ n ∧ n ≤ hi) : inR n lo hi = true := by simp [inR, h]
theorem inR_f {n lo hi : Int} (h : ¬ (lo ≤ n ∧ n ≤ hi)) : inR n lo hi = false := by simp only [inR, h, decide_false]
set_option maxRecDepth 100000 in
set_option maxHeartbeats 4000000 in
theorem validGraph_c (A : Option Addr) (cA : Nat) (ns : List Nd) (r : Int) (w : World) (hN : RdN w A ns) :
    Calls Try.prog 133 #[.agg #[.slice A ns.length cA, .int .i64 r]] w (VgV ns r w) := by
  have hx : Ext w (w.alloc (.cells #[.slice A ns.length cA, .int .i64 r] 105)) := (Ext.rf w).al _
  have ha : GB (w.alloc (.cells #[.slice A ns.length cA, .int .i64 r] 105)) w.heap.size (.slice A ns.length cA) (.int .i64 r) := al_new w _
  have hnl := hN.1
  have HX := As.mk hx
  have HN := As.mk (hN.ext hx)
  have HA := As.mk ha
  clear hN hx ha
  go_enter Try.func133, Try.ntmps133
  go_upto_region 1 with fail
  generalize (w.alloc (.cells #[.slice A ns.length cA, .int .i64 r] 105)) = w0 at HX HA HN ⊢
  generalize w.heap.size = g at HA ⊢
  have c0 := gb_c0 HA.out; have c1 := gb_c1 HA.out
  by_cases h1 : 1 ≤ (ns.length : Int) ∧ (ns.length : Int) ≤ 12
  · have H1 := As.mk (inR_t h1)
    have hl1 := h1.1
    have hl2 := h1.2
    clear h1
    by_cases h2 : 0 ≤ r ∧ r ≤ (ns.length : Int) - 1
    · have H2 := As.mk (inR_t h2)
      have HR := As.mk h2
      clear h2
      go_upto_region 3 with (go_at_call 89; refine (inRange_c _ _ _ _).mono ?_; (first | rw [H1.out] | rw [H2.out]); rintro e w1 ⟨rfl, rfl⟩)
      go_upto_region 4 with fail
      clear c0 c1
      go_loopw [3] (fun i wr => ∃ k : Nat, k ≤ ns.length ∧ i = .int .i64 k ∧ As (∀ n ∈ ns.take k, nodeB ns n = true) ∧ As (Ext w0 wr)) (fun i _ => ns.length - (intOf i).toNat)
      case atStart => exact ⟨0, Nat.zero_le _, rfl, ⟨by simp⟩, ⟨Ext.rf _⟩⟩
      case round =>
        obtain ⟨k, hk, rfl, hal, he⟩ := hrel
        have c0 := gb_c0 (he.out.blk HA.out); have c1 := gb_c1 (he.out.blk HA.out)
        by_cases hlt : k < ns.length
        · obtain ⟨aN, K1, ck, rfl, y0, y1, y2, -, hrk⟩ := (HN.out.ext he.out).2 k hlt
          obtain ⟨kd, hkd⟩ : ∃ kd, kd = ns[k].kind := ⟨_, rfl⟩
          obtain ⟨vl, hvl⟩ : ∃ vl, vl = ns[k].val := ⟨_, rfl⟩
          obtain ⟨ks, hks⟩ : ∃ ks, ks = ns[k].kids := ⟨_, rfl⟩
          rw [← hkd] at y0
          rw [← hvl] at y1
          rw [← hks] at y2 hrk
          have HND := As.mk (show ns[k] = ⟨kd, vl, ks⟩ by rw [hkd, hvl, hks])
          have HRK := As.mk hrk
          have HLT := As.mk hlt
          have q1 : (k : Int) < ns.length := by omega
          clear hkd hvl hks hrk
          obtain ⟨b, hb⟩ : ∃ b, b = nodeB ns ⟨kd, vl, ks⟩ := ⟨_, rfl⟩
          have HB := As.mk hb
          clear hb
          go_upto_region 6 with fail
          refine region_perm (fun w' => w'.cell? ⟨g, 0, none⟩ = some (.slice (some aN) ns.length cA) ∧ w'.cell? ⟨g, 1, none⟩ = some (.int .i64 r) ∧ w'.cell? (aN.add (k * 3)) = some (.int .i64 kd) ∧ w'.cell? ⟨(aN.add (k * 3)).block, (aN.add (k * 3)).off + 1, none⟩ = some (.int .i64 vl) ∧ w'.cell? ⟨(aN.add (k * 3)).block, (aN.add (k * 3)).off + 2, none⟩ = some (.slice K1 ks.length ck)) [] [(0, 1), (1, 0), (2, 1), (3, 0), (4, 0), (5, 1), (6, 2), (7, 0)] (by kernel_rfl) (by kernel_rfl) rfl (by kernel_rfl) (fun _ _ _ _ h => h) ?_
          have hS := And.intro c0 (And.intro c1 (And.intro y0 (And.intro y1 y2)))
          repeat (first | refine wpP.c0 (h := ?_) | refine wpP.c1 (w := wr.drew) hS (h := ?_))
          refine wpP.ev (h := fun Kv hKv => ?_)
          have HD := As.mk ((Ext.rf wr).dr)
          generalize wr.drew = wd at HD ⊢
          go_wp2_with (go_at_call 143; refine (validNode_c _ _ _ _ _ _ _ _ _ _ ((HN.out.ext he.out).ext HD.out) (HRK.out.ext HD.out)).mono ?_; rw [← HB.out]; rintro e w3 ⟨rfl, hx⟩; have HX3 := As.mk (HD.out.trans hx); clear hx)
          refine hKv.out _ _ ⟨HX3.out.cellOf c0, HX3.out.cellOf c1, HX3.out.cellOf y0, HX3.out.cellOf y1, HX3.out.cellOf y2⟩ ?_
          clear hKv Kv hS c0 c1 y0 y1 y2
          repeat (first | refine wpP.c0 (h := ?_))
          refine wpP.done ?_
          have HE3 := As.mk (he.out.trans HX3.out)
          cases b with
          | false =>
            have HF : As (¬ VG ns r) := ⟨fun hv => by
              have h9 := hv.nd _ (List.getElem_mem HLT.out)
              rw [HND.out, ← HB.out] at h9; exact nomatch h9⟩
            go_wp2_with fail
            go_ret
            exact ⟨false, rfl, ⟨fun h => absurd h (by decide), fun h => absurd h HF.out⟩, HX.out.trans HE3.out⟩
          | true =>
            go_wp2_with fail
            go_roundw
            case measure => simp only [intOf]; omega
            case rel => exact ⟨k + 1, by omega, by go_num, ⟨fun n hn => by
              rw [List.take_succ_eq_append_getElem HLT.out] at hn
              rcases List.mem_append.1 hn with hn | hn
              · exact hal.out n hn
              · rw [List.mem_singleton] at hn; rw [hn, HND.out]; exact HB.out.symm⟩, HE3⟩
        · have HAL : As (∀ n ∈ ns, nodeB ns n = true) := ⟨fun n hn => hal.out n (by rw [List.take_of_length_le (by omega)]; exact hn)⟩
          have q1 : ¬ (k : Int) < ns.length := by omega
          have HKD : As (∀ n ∈ ns, n.kids.length ≤ 6 ∧ ∀ x ∈ n.kids, 0 ≤ x ∧ x < ns.length) := ⟨fun n hn => nodeB_kids (HAL.out n hn)⟩
          go_upto_region 9 with fail
          clear c0 c1
          obtain ⟨wo, hwo⟩ : ∃ wo : World, wo = wr := ⟨_, rfl⟩
          rw [← hwo]
          have HEO : As (Ext w0 wo) := ⟨by rw [hwo]; exact he.out⟩
          clear hwo hal he
          go_loopw [4] (fun i wi => ∃ m : Nat, m ≤ ns.length ∧ i = .int .i64 m ∧ As (∀ j : Nat, j < m → tupB (atN ns j) = true → ¬ Wy tupB ns j j) ∧ As (Ext w0 wi)) (fun i _ => ns.length - (intOf i).toNat)
          case atStart => exact ⟨0, Nat.zero_le _, rfl, ⟨fun j hj => absurd hj (by omega)⟩, HEO⟩
          case round =>
            obtain ⟨m, hm, rfl, hac, he⟩ := hrel
            have c0 := gb_c0 (he.out.blk HA.out); have c1 := gb_c1 (he.out.blk HA.out)
            by_cases hlt : m < ns.length
            · obtain ⟨aN, K1, ck, hA, y0, -, -, -, -⟩ := (HN.out.ext he.out).2 m hlt
              subst hA
              obtain ⟨kd, hkd⟩ : ∃ kd, kd = ns[m].kind := ⟨_, rfl⟩
              rw [← hkd] at y0
              have HKD2 := As.mk (show tupB (atN ns m) = (kd == 2) by rw [atN_get m hlt]; unfold tupB; rw [hkd])
              have HLT := As.mk hlt
              have q2 : (m : Int) < ns.length := by omega
              clear hkd
              rcases bceq kd 2 with rfl | hk2
              · by_cases hw : Wy tupB ns (m : Int) (m : Int)
                · have HW := As.mk hw
                  have HF : As (¬ VG ns r) := ⟨fun h => h.ac m HLT.out (by rw [HKD2.out]; rfl) hw⟩
                  clear hw
                  go_wp2_with (first | (go_at_call 144; refine (tupleReach_c _ _ _ _ m _ (HN.out.ext he.out) HKD.out (by omega) HLT.out).mono ?_; rintro e w5 ⟨out, Ao, co, rfl, hro, hx, hiff⟩; have HRO := As.mk hro; have HX5 := As.mk (he.out.trans hx); have HIF := As.mk (hiff m); clear hro hx hiff) | (go_at_call 78; refine (placeIn_c _ _ _ _ _ HRO.out).mono ?_; rintro e w6 ⟨rfl, rfl⟩; have hz : 0 ≤ plc out m := (by have h1 := (plc_mem out m).1; have h2 := HIF.out; have h3 := HW.out; exact h1.2 (h2.2 h3)); generalize plc out m = z at hz ⊢))
                  go_ret
                  exact ⟨false, rfl, ⟨fun h => absurd h (by decide), fun h => absurd h HF.out⟩, HX.out.trans HX5.out⟩
                · have HW := As.mk hw
                  have HNX : As (∀ j : Nat, j < m + 1 → tupB (atN ns j) = true → ¬ Wy tupB ns j j) := ⟨fun j hj ht => by
                    rcases Nat.lt_or_ge j m with h9 | h9
                    · exact hac.out j h9 ht
                    · rw [show j = m by omega]; exact hw⟩
                  clear hw
                  go_wp2_with (first | (go_at_call 144; refine (tupleReach_c _ _ _ _ m _ (HN.out.ext he.out) HKD.out (by omega) HLT.out).mono ?_; rintro e w5 ⟨out, Ao, co, rfl, hro, hx, hiff⟩; have HRO := As.mk hro; have HX5 := As.mk (he.out.trans hx); have HIF := As.mk (hiff m); clear hro hx hiff) | (go_at_call 78; refine (placeIn_c _ _ _ _ _ HRO.out).mono ?_; rintro e w6 ⟨rfl, rfl⟩; have hz : plc out m < 0 := (by have h1 := (plc_mem out m).1; have h2 := HIF.out; have h3 := HW.out; exact Int.not_le.1 (fun e => h3 (h2.1 (h1.1 e)))); generalize plc out m = z at hz ⊢))
                  go_roundw
                  case measure => simp only [intOf]; omega
                  case rel => exact ⟨m + 1, by omega, by go_num, HNX, HX5⟩
              · have HNX : As (∀ j : Nat, j < m + 1 → tupB (atN ns j) = true → ¬ Wy tupB ns j j) := ⟨fun j hj ht => by
                  rcases Nat.lt_or_ge j m with h9 | h9
                  · exact hac.out j h9 ht
                  · rw [show j = m by omega, HKD2.out, hk2] at ht; exact nomatch ht⟩
                go_wp2_with fail
                go_roundw
                case measure => simp only [intOf]; omega
                case rel => exact ⟨m + 1, by omega, by go_num, HNX, he⟩
            · have q2 : ¬ (m : Int) < ns.length := by omega
              have HV : As (VG ns r) := ⟨⟨by omega, by omega, HR.out.1, by have := HR.out.2; omega, HAL.out, fun i hi ht => hac.out i (by omega) ht⟩⟩
              go_wp2_with fail
              go_ret
              exact ⟨true, rfl, ⟨fun _ => HV.out, fun _ => rfl⟩, HX.out.trans he.out⟩
    · have H2 := As.mk (inR_f h2)
      have HF : As (¬ VG ns r) := ⟨fun h => h2 ⟨h.r0, by have := h.r1; omega⟩⟩
      clear h2
      go_wp2_with (go_at_call 89; refine (inRange_c _ _ _ _).mono ?_; (first | rw [H1.out] | rw [H2.out]); rintro e w1 ⟨rfl, rfl⟩)
      go_ret
      exact ⟨false, rfl, ⟨fun h => absurd h (by decide), fun h => absurd h HF.out⟩, HX.out⟩
  · have H1 := As.mk (inR_f h1)
    have HF : As (¬ VG ns r) := ⟨fun h => h1 ⟨by have := h.lo; omega, by have := h.hi; omega⟩⟩
    clear h1
    go_wp2_with (go_at_call 89; refine (inRange_c _ _ _ _).mono ?_; rw [H1.out]; rintro e w1 ⟨rfl, rfl⟩)
    go_ret
    exact ⟨false, rfl, ⟨fun h => absurd h (by decide), fun h => absurd h HF.out⟩, HX.out⟩
end Go.Proofs.Ytgenllcfpjgklaa.C
