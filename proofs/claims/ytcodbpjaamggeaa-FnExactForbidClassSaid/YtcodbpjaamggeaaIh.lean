/- impl.EndOps. -/
import Derived.Test.YtcodbpjaamggeaaIg
import Derived.Test.YtcodbpjaamggeaaCr
import Derived.Deep.DeepCutAuto
set_option linter.unusedVariables false
set_option linter.unusedSimpArgs false
namespace Go.Proofs.Ytcodbpjaamggeaa.C
open Go.RowKit Go.Proofs.Ytcodbpjaamggeaa.W Go.Proofs.Ytcodbpjaamggeaa.P

/-- A fresh row of orders and a bool are returned. -/
def OwnOB (l : List Opr) (b : Bool) (w : World) (e : Ending) (w' : World) : Prop := ∃ A' c', e = .returned (.tuple #[.slice A' l.length c', .bool b]) ∧ OR w' (.slice A' l.length c') l ∧ Ext w w' ∧ Fresh (.slice A' l.length c') w
theorem OwnOB.nil {w w' : World} (h : Ext w w') (b : Bool) : OwnOB [] b w (.returned (.tuple #[.slice none 0 0, .bool b])) w' := ⟨none, 0, rfl, World.ownsRow_nil _ _ _ _, h, by simp [Fresh, Value.ownBlock]⟩
theorem nilO (w : World) : OR w (.slice none 0 0) [] := World.ownsRow_nil _ _ _ _
theorem nil_own {k : Nat} : ¬ (Value.slice none 0 0).ownBlock = some k := by simp [Value.ownBlock]
theorem EI.make {w W : World} {b g Bd : Nat} {l : List (Nd × Value)} {vN vS vM : Value} {m : Mc} (h : MV b W l vN vS vM m) (hb : MB W g vN vS vM m.done) (hg : b ≤ g) (hw : b ≤ W.heap.size) (hok : okM Bd m) (hl : w.heap.size ≤ b) (he : Ext w W) :
    EI w W g Bd m (.slice none 0 0) [] (.slice none 0 0) [] :=
  ⟨⟨_, _, _, _, _, h.mr hb hg hw, fun k hk => Nat.le_trans hl hk, fun k hk => (nil_own hk).elim, fun k hk => (nil_own hk).elim⟩, hok, nilO W, nilO W, he, fun k hk => (nil_own hk).elim, fun k hk => (nil_own hk).elim, fun k hk => (nil_own hk).elim⟩
/-- An empty row was made. -/
theorem EI.lit {w W g Bd m v x} (h : EI w W g Bd m v x (.slice none 0 0) []) : EI w (W.alloc (.cells #[] 82)) g Bd m v x (.slice (some ⟨W.heap.size, 0, none⟩) 0 0) [] :=
  h.put (own_zero (World.ownsRow_lit (base := 0) (size := 2) W #[] 0 (Nat.zero_le _) (by simp) rfl)) (Fr.ofExt ((Ext.rf _).al _)) (.inr ⟨W.heap.size, rfl, Nat.le_refl _⟩)
theorem EI.cells {w W g Bd m v x u y} (h : EI w W g Bd m v x u y) : ∃ vN AS cS vM, W.cell? ⟨g, 0, none⟩ = some vN ∧ W.cell? ⟨g, 1, none⟩ = some (.slice AS m.stack.length cS) ∧ W.cell? ⟨g, 2, none⟩ = some vM ∧ W.cell? ⟨g, 3, none⟩ = some (.bool m.done) ∧ RdI W AS m.stack := by
  obtain ⟨B, l, vN, vS, vM, h1, _, _, _⟩ := h.mm
  obtain ⟨AS, cS, rfl, _, hr⟩ := h1.rdS (by have := h.ok.sl; omega)
  exact ⟨vN, AS, cS, vM, MB.c0 h1.mb, MB.c1 h1.mb, MB.c2 h1.mb, MB.c3 h1.mb, hr⟩
/-- The out row after k marks. -/
def Out1 (w : World) (g : Nat) (m : Mc) (k : Nat) (o : Value) (W : World) : Prop := ∃ A' c', o = .slice A' k c' ∧ EI w W g 100000 m (.slice none 0 0) [] (.slice A' k c') (List.replicate k tupO)
theorem out1_next {w W W' : World} {g : Nat} {m : Mc} {k : Nat} {A' : Option Addr} {c' gP cP : Nat} (h : EI w W g 100000 m (.slice none 0 0) [] (.slice A' k c') (List.replicate k tupO))
    (hap : AppO (.slice A' k c') (List.replicate k tupO) (List.replicate k tupO ++ [tupO]) W gP cP W') : Out1 w g m (k + 1) (.slice (some ⟨gP, 0, none⟩) (k + 1) cP) W' := by
  have := h.app hap
  rw [← List.replicate_succ', List.length_replicate] at this
  exact ⟨_, _, rfl, this⟩
/-- After j orders of a list, on the variable's machine. -/
def StA (w : World) (g Bd : Nat) (m : Mc) (v : Value) (x : List Opr) (u : Value) (y l : List Opr) (j : Nat) (W : World) : Prop := ∃ mj, runP m (l.take j) = (mj, (l.take j).length) ∧ EI w W g (Bd + 301 * j) mj v x u y
theorem stA_next {w W : World} {g Bd : Nat} {m mj m' : Mc} {v u : Value} {x y l : List Opr} {j : Nat} (hj : j < l.length) (h1 : runP m (l.take j) = (mj, (l.take j).length)) (hs : stepP mj l[j] = some m') (h : EI w W g (Bd + 301 * j + 301) m' v x u y) : StA w g Bd m v x u y l (j + 1) W := by
  refine ⟨m', ?_, by rw [show Bd + 301 * (j + 1) = Bd + 301 * j + 301 by omega]; exact h⟩
  rw [List.take_succ_eq_append_getElem hj]
  have := (runP_snoc (l.take j) m mj l[j] h1).1
  rw [hs] at this
  rw [this]
  simp
  omega
theorem runP_fail {m mj : Mc} {l : List Opr} {j : Nat} (hj : j < l.length) (h1 : runP m (l.take j) = (mj, (l.take j).length)) (hs : stepP mj l[j] = none) (r : List Opr) : (runP m (l ++ r)).2 ≠ (l ++ r).length := by
  have h2 := (runP_stop (l.take j) (l.drop (j + 1) ++ r) m mj l[j] h1 hs).1
  have e : l.take j ++ l[j] :: (l.drop (j + 1) ++ r) = l ++ r := by
    have e2 : l = l.take j ++ l[j] :: l.drop (j + 1) := by rw [← List.drop_eq_getElem_cons hj, List.take_append_drop]
    have e3 : l ++ r = (l.take j ++ l[j] :: l.drop (j + 1)) ++ r := congrArg (· ++ r) e2
    rw [e3, List.append_assoc]
    rfl
  rw [e] at h2
  rw [h2]
  simp
  omega
theorem runP_app : ∀ (a b : List Opr) (m m' : Mc), runP m a = (m', a.length) → runP m (a ++ b) = ((runP m' b).1, a.length + (runP m' b).2)
  | [], b, m, m', h => by
    simp only [runP, Prod.mk.injEq] at h
    obtain ⟨rfl, _⟩ := h
    simp
  | x :: a, b, m, m', h => by
    simp only [runP, List.cons_append] at h ⊢
    cases hs : stepP m x with
    | none => rw [hs] at h; simp at h
    | some m1 =>
      rw [hs] at h
      simp only [Prod.mk.injEq, List.length_cons, Nat.add_right_cancel_iff] at h
      have h1 := runP_app a b m1 m' (Prod.ext h.1 h.2)
      simp only [h1, List.length_cons, Prod.mk.injEq, true_and]
      omega
theorem endOk_eq {ops : List Opr} {m mj : Mc} {j ns : Nat} (hm : m = (runP newM ops).1) (heo : endOut m.stack = List.replicate j tupO ++ endRest ns) (hr : runP m (List.replicate j tupO) = (mj, j)) :
    endOk ops = (decide ((runP mj (endRest ns)).2 = (endRest ns).length) && decide ((runP newM ops).2 + (j + (endRest ns).length) ≤ 300)) := by
  unfold endOk
  rw [← hm, heo, runP_app _ _ m mj (by rw [List.length_replicate]; exact hr)]
  simp
theorem endRest_ok (n : Nat) : (endRest n).all okO = true := by
  have h6 : ∀ k, (List.replicate k (⟨6, 0⟩ : Opr)).all okO = true := fun k => by
    rw [List.all_eq_true]
    intro x hx
    rw [List.mem_replicate] at hx
    rw [hx.2]; decide
  unfold endRest
  rw [List.all_append, List.all_append, h6]
  by_cases h : n = 0
  · rw [if_pos h]; decide
  · rw [if_neg h]; decide
theorem endRest_le (n : Nat) : (endRest n).length ≤ n + 2 := by
  unfold endRest
  by_cases h : n = 0 <;> simp [h] <;> omega
/-- The other row after k equal orders. -/
def OutR (w : World) (g Bd : Nat) (m : Mc) (v : Value) (x : List Opr) (y : Opr) (k : Nat) (o : Value) (W : World) : Prop := ∃ A' c', o = .slice A' k c' ∧ EI w W g Bd m v x (.slice A' k c') (List.replicate k y)
theorem outR_next {w W W' : World} {g Bd : Nat} {m : Mc} {v : Value} {x : List Opr} {y : Opr} {k : Nat} {A' : Option Addr} {c' gP cP : Nat} (h : EI w W g Bd m v x (.slice A' k c') (List.replicate k y))
    (hap : AppO (.slice A' k c') (List.replicate k y) (List.replicate k y ++ [y]) W gP cP W') : OutR w g Bd m v x y (k + 1) (.slice (some ⟨gP, 0, none⟩) (k + 1) cP) W' := by
  have := h.app hap
  rw [← List.replicate_succ', List.length_replicate] at this
  exact ⟨_, _, rfl, this⟩
/-- The other row is a list. -/
def OutE (w : World) (g Bd : Nat) (m : Mc) (v : Value) (x y : List Opr) (o : Value) (W : World) : Prop := ∃ A' n c', o = .slice A' n c' ∧ n = y.length ∧ EI w W g Bd m v x (.slice A' n c') y
theorem EndOps1_c (vN vS vM : Value) (d : Bool) (w : World) : Calls Try.prog 95 #[.agg #[vN, vS, vM, .bool d]] w fun e w' => (∃ v, e = .returned v) ∧ Ext w w' := by
  go_enter Try.func95, Try.ntmps95
  go_wp2_with fail
  go_end0
  exact ⟨⟨_, rfl⟩, (Ext.rf w).al _⟩
theorem EndOps1_e (args : Array Value) (w : World) : (callFunc 95 args).run Try.prog w = .ok (.enter 95 args) w :=
  call_enter Try.func95 (by kernel_rfl) (by kernel_rfl) args w
set_option maxRecDepth 100000 in
set_option maxHeartbeats 4000000 in
theorem EndOps_c (A : Option Addr) (c : Nat) (ops : List Opr) (w : World) (hr : RdO w A ops) :
    Calls Try.prog 42 #[.slice A ops.length c] w (OwnOB (endOps ops).1 (endOps ops).2 w) := by
  have hlen := hr.1
  have HR := As.mk hr
  clear hr
  cases hv : vOps ops with
  | false =>
    have HB : As (endOps ops = ([], false)) := ⟨by simp [endOps, hv]⟩
    have HV := As.mk hv
    clear hv
    go_enter Try.func42, Try.ntmps42
    go_wp2_with (go_at_call 76; refine (ValidOps_c _ _ _ _ HR.out).mono ?_; rw [HV.out]; rintro e w1 ⟨rfl, he⟩; have HE := As.mk he; clear he)
    go_ret2
    rw [HB.out]
    exact OwnOB.nil HE.out false
  | true =>
    have HV := As.mk hv
    have hx : endOps ops = (if (runP newM ops).1.done = true then ([], true) else if endOk ops = true then (endOut (runP newM ops).1.stack, true) else ([], false)) := by simp [endOps, hv]
    have HX := As.mk hx
    obtain ⟨nn, hnn⟩ : ∃ nn, nn = (runP newM ops).2 := ⟨_, rfl⟩
    have hnl : nn ≤ 300 := by rw [hnn]; exact Nat.le_trans (runP_le ops newM) (vOps_all hv).2
    have HNN := As.mk hnn
    clear hv hx hnn
    go_enter Try.func42, Try.ntmps42
    go_upto_region 4 with (first | (go_at_call 76; refine (ValidOps_c _ _ _ _ HR.out).mono ?_; rw [HV.out]; rintro e w1 ⟨rfl, he⟩; have HE := As.mk he; clear he) | (go_at_call 77; refine (running_q EndOps1_e EndOps1_c _ _ _ _ (HR.out.ext HE.out) HV.out).mono ?_; rw [← HNN.out]; rintro e w2 ⟨l, vN, vS, vM, rfl, hmv, hok, he⟩; obtain ⟨B3, c3, rfl, _, _⟩ := own_form hmv.nr.1; obtain ⟨B4, c4, rfl, _, _⟩ := own_form hmv.sr; obtain ⟨B5, c5, rfl, _, _⟩ := own_form hmv.me; have HMV := As.mk hmv; have HOK := As.mk hok; have HE2 := As.mk he; clear he hmv hok))
    have hei : EI w (w2.alloc (.cells #[.slice B3 l.length c3, .slice B4 (runP newM ops).1.stack.length c4, .slice B5 (runP newM ops).1.memo.length c5, .bool (runP newM ops).1.done] 64)) w2.heap.size 100000 (runP newM ops).1 (.slice none 0 0) [] (.slice none 0 0) [] :=
      EI.make (HMV.out.ext ((Ext.rf _).al _)) (al_new _ _) HE2.out.size (by have := HE2.out.size; simp [al_size]; omega) HOK.out HE.out.size ((HE.out.trans HE2.out).al _)
    have HEI := As.mk hei
    generalize w2.alloc (.cells #[.slice B3 l.length c3, .slice B4 (runP newM ops).1.stack.length c4, .slice B5 (runP newM ops).1.memo.length c5, .bool (runP newM ops).1.done] 64) = w3 at HEI ⊢
    generalize w2.heap.size = g4 at HEI ⊢
    clear hei HMV HE2 HOK HE
    obtain ⟨m, hm⟩ : ∃ m, m = (runP newM ops).1 := ⟨_, rfl⟩
    have HM := As.mk hm
    rw [← hm] at HEI HX
    clear hm
    go_upto_region 5 with fail
    have HL := As.mk HEI.out.lit
    generalize w3.alloc (.cells #[] 82) = w4 at HL ⊢
    generalize w3.heap.size = b0 at HL ⊢
    clear HEI
    obtain ⟨vN, AS, cS, vM, p0, p1, p2, p3, hst⟩ := HL.out.cells
    cases hd : m.done with
    | true =>
      have HB : As (endOps ops = ([], true)) := ⟨by rw [HX.out, hd]; rfl⟩
      rw [hd] at p3
      clear hd
      go_wp2_with fail
      go_ret2
      rw [HB.out]
      exact ⟨_, _, rfl, HL.out.ou, HL.out.e, HL.out.fu⟩
    | false =>
      have HB : As (endOps ops = (if endOk ops = true then (endOut m.stack, true) else ([], false))) := ⟨by rw [HX.out, hd]; rfl⟩
      rw [hd] at p3
      have HD := As.mk hd
      have HST := As.mk hst
      clear hd hst HX
      have hcn : cntN m.stack ≤ 300 := Nat.le_trans (cntN_le _) HL.out.ok.sl
      obtain ⟨cn, hcnn⟩ : ∃ cn, cn = cntN m.stack := ⟨_, rfl⟩
      have HCN := As.mk hcnn
      rw [← hcnn] at hcn
      clear hcnn
      go_upto_region 8 with (go_at_call 84; refine (marks_c _ _ _ _ _ _ _ HST.out).mono ?_; rw [← HCN.out]; rintro e w5 ⟨rfl, he⟩; have HL5 := As.mk (HL.out.ext he); clear he)
      clear p0 p1 p2 p3 HL
      go_loopw [6, 26] (fun o i wr => ∃ k : Nat, k ≤ cn ∧ i = .int .i64 k ∧ As (Out1 w g4 m k o wr)) (fun _ i _ => cn - (intOf i).toNat)
      case atStart => exact ⟨0, Nat.zero_le _, rfl, ⟨⟨_, _, rfl, HL5.out⟩⟩⟩
      case round =>
        obtain ⟨k, hk, rfl, ho⟩ := hrel
        obtain ⟨A', c', rfl, hei⟩ := ho.out
        have HEI := As.mk hei
        clear ho hei HL5
        by_cases hlt : k < cn
        · have q1 : (k : Int) < cn := by omega
          go_wp2_with ((at_builtin; refine app_op rfl _ _ rfl (.slice A' k c') (List.replicate k tupO) tupO rfl rfl HEI.out.ou (by simp; omega) ?_; intro gP cP w6 hap; have HO := As.mk (out1_next HEI.out hap); clear hap))
          go_roundw
          case measure => simp only [intOf]; omega
          case rel => exact ⟨k + 1, by omega, by go_num, HO⟩
        · have hkl : k = cn := by omega
          subst hkl
          go_upto_region 12 with fail
          have HS0 : As (StA w g4 100000 m (.slice none 0 0) [] (.slice A' k c') (List.replicate k tupO) (List.replicate k tupO) 0 wr) := ⟨⟨m, rfl, HEI.out⟩⟩
          clear HEI hlt
          go_loopw [35] (fun i wr => ∃ j : Nat, j ≤ k ∧ i = .int .i64 j ∧ As (StA w g4 100000 m (.slice none 0 0) [] (.slice A' k c') (List.replicate k tupO) (List.replicate k tupO) j wr)) (fun i _ => k - (intOf i).toNat)
          case atStart => exact ⟨0, Nat.zero_le _, rfl, HS0⟩
          case round =>
            obtain ⟨j, hj, rfl, hst⟩ := hrel
            obtain ⟨mj, h1, hei⟩ := hst.out
            have H1 := As.mk h1
            have HEI := As.mk hei
            clear hst h1 hei HS0
            by_cases hlt : j < k
            · have q1 : (j : Int) < k := by omega
              have hjl : j < (List.replicate k tupO).length := by simp; exact hlt
              obtain ⟨ad, rfl, g1, g2⟩ := (rdA_O HEI.out.ou (by simp; omega)).2 j hjl
              have HJL := As.mk hjl
              have hge : (List.replicate k tupO)[j] = tupO := by simp
              rw [hge] at g1 g2
              have HGE := As.mk hge
              clear hge
              have g1' : wr.cell? (ad.add (j * 2)) = some (.int .i64 3) := g1
              have g2' : wr.cell? ⟨(ad.add (j * 2)).block, (ad.add (j * 2)).off + 1, none⟩ = some (.int .i64 0) := g2
              clear g1 g2
              cases hs : stepP mj tupO with
              | none =>
                have HSS := As.mk hs
                have HBF : As (endOps ops = ([], false)) := ⟨by
                  rw [HB.out, if_neg]
                  intro hok
                  simp only [endOk, Bool.and_eq_true, decide_eq_true_eq] at hok
                  rw [← HM.out] at hok
                  unfold endOut at hok
                  rw [← HCN.out] at hok
                  exact runP_fail HJL.out H1.out (by rw [HGE.out]; exact hs) _ hok.1⟩
                clear hs
                go_wp2_with (go_at_call 91; refine (EI.step (HEI.out.ext ((Ext.rf _).al _)) (by omega) tupO (by decide)).mono ?_; rw [HSS.out]; rintro e w7 ⟨rfl, he⟩; have HE7 := As.mk he; clear he)
                go_ret2
                rw [HBF.out]
                exact OwnOB.nil HE7.out.e false
              | some m' =>
                have HSS := As.mk hs
                clear hs
                go_wp2_with (go_at_call 91; refine (EI.step (HEI.out.ext ((Ext.rf _).al _)) (by omega) tupO (by decide)).mono ?_; rw [HSS.out]; rintro e w7 ⟨rfl, he⟩; have HE7 := As.mk he; clear he)
                go_roundw
                case measure => first | (simp only [intOf]; omega) | (simp [intOf]; omega)
                case rel => exact ⟨j + 1, by omega, by go_num, ⟨stA_next HJL.out H1.out (by rw [HGE.out]; exact HSS.out) HE7.out⟩⟩
            · have hjk : j = k := by omega
              subst hjk
              have htk : (List.replicate j tupO).take j = List.replicate j tupO := List.take_of_length_le (by simp)
              have hrj : runP m (List.replicate j tupO) = (mj, j) := by have := H1.out; rwa [htk, List.length_replicate] at this
              have htr := tups_rest j m mj HCN.out.symm hrj
              obtain ⟨ns, hns⟩ : ∃ ns, ns = mj.stack.length := ⟨_, rfl⟩
              have hn3 : ns ≤ 300 := by rw [hns]; exact HEI.out.ok.sl
              have heo : endOut m.stack = List.replicate j tupO ++ endRest ns := by
                unfold endOut
                rw [← HCN.out, ← htr.1, ← hns]
              have HOK2 := As.mk (endOk_eq HM.out heo hrj)
              have HEO := As.mk heo
              have HNS := As.mk hns
              clear htk hrj htr hns heo H1 hlt hj
              go_upto_region 18 with fail
              have HL := As.mk HEI.out.swap.lit
              generalize wr.alloc (.cells #[] 82) = w8 at HL ⊢
              generalize wr.heap.size = b1 at HL ⊢
              clear HEI
              obtain ⟨vN, AS, cS, vM, p0, p1, p2, p3, hst⟩ := HL.out.cells
              rw [← HNS.out] at p1
              have HST := As.mk hst
              clear hst
              have q2 : (ns : Int) ≤ 300 := by omega
              go_upto_region 19 with fail
              clear p0 p1 p2 p3 HST
              go_loopw [9, 48] (fun o i wr => ∃ k : Nat, k ≤ ns - 1 ∧ i = .int .i64 k ∧ As (OutR w g4 (100000 + 301 * j) mj (.slice A' j c') (List.replicate j tupO) ⟨6, 0⟩ k o wr)) (fun _ i _ => ns - (intOf i).toNat)
              case atStart => exact ⟨0, Nat.zero_le _, rfl, ⟨⟨_, _, rfl, HL.out⟩⟩⟩
              case round =>
                obtain ⟨k, hk, rfl, ho⟩ := hrel
                obtain ⟨A2, c2, rfl, hei⟩ := ho.out
                have HEI := As.mk hei
                clear ho hei HL
                by_cases hlt : k + 1 < ns
                · have q1 : (k : Int) < (ns : Int) - 1 := by omega
                  go_wp2_with ((at_builtin; refine app_op rfl _ _ rfl (.slice A2 k c2) (List.replicate k ⟨6, 0⟩) ⟨6, 0⟩ rfl rfl HEI.out.ou (by simp; omega) ?_; intro gP cP w6 hap; have HO := As.mk (outR_next HEI.out hap); clear hap))
                  go_roundw
                  case measure => simp only [intOf]; omega
                  case rel => exact ⟨k + 1, by omega, by go_num, HO⟩
                · have q1 : ¬ (k : Int) < (ns : Int) - 1 := by omega
                  have hkk : k = ns - 1 := by omega
                  have HKK := As.mk hkk
                  clear hkk hlt hk
                  obtain ⟨vN, AS, cS, vM, p0, p1, p2, p3, hst⟩ := HEI.out.cells
                  rw [← HNS.out] at p1
                  clear hst
                  go_upto_if 58 with fail
                  clear p0 p1 p2 p3
                  obtain ⟨y1, hy1⟩ : ∃ y1, y1 = List.replicate (ns - 1) (⟨6, 0⟩ : Opr) ++ (if ns = 0 then [⟨4, 0⟩] else []) := ⟨_, rfl⟩
                  have HY := As.mk hy1
                  clear hy1
                  go_cut [9] (fun s9 wx => As (OutE w g4 (100000 + 301 * j) mj (.slice A' j c') (List.replicate j tupO) y1 s9 wx))
                  case first =>
                    by_cases h0 : ns = 0
                    · subst h0
                      have hk0 : k = 0 := HKK.out
                      subst hk0
                      go_wp2_with ((at_builtin; refine app_op rfl _ _ rfl (.slice A2 0 c2) (List.replicate 0 ⟨6, 0⟩) ⟨4, 0⟩ rfl rfl HEI.out.ou (by simp) ?_; intro gP cP w6 hap; have HO := As.mk (HEI.out.app hap); clear hap))
                      go_meet
                      exact ⟨_, _, _, rfl, by rw [HY.out]; simp, by rw [HY.out]; exact HO.out⟩
                    · have q3 : ¬ (ns : Int) = 0 := by omega
                      have q4 : ((ns : Int) == 0) = false := by simpa using q3
                      go_wp2_with fail
                      go_meet
                      have hy : y1 = List.replicate k ⟨6, 0⟩ := by rw [HY.out, if_neg h0, List.append_nil, HKK.out]
                      exact ⟨_, _, _, rfl, by rw [hy]; simp, by rw [hy]; exact HEI.out⟩
                  case rest =>
                    obtain ⟨A3, n3, c3, rfl, hn3y, hei⟩ := hcut.out
                    have HE10 := As.mk hei
                    have hyl : y1.length ≤ 400 := by
                      rw [HY.out, List.length_append, List.length_replicate]
                      split <;> simp <;> omega
                    have HN3 := As.mk hn3y
                    clear hei hcut hn3y HEI HKK
                    obtain ⟨n1, hn1⟩ : ∃ n1, n1 = y1.length := ⟨_, rfl⟩
                    have hn14 : n1 ≤ 400 := by omega
                    have hn31 : n3 = n1 := by rw [HN3.out, hn1]
                    subst hn31
                    have HN1 := As.mk hn1
                    clear hn1 HN3 hyl
                    go_upto_region 25 with ((at_builtin; refine app_op rfl _ _ rfl (.slice A3 n3 c3) y1 ⟨19, 0⟩ rfl rfl HE10.out.ou (by rw [← HN1.out]; omega) ?_; rw [← HN1.out]; intro gP cP w10 hap; have HS := As.mk (HE10.out.app hap); clear hap))
                    obtain ⟨l, hl⟩ : ∃ l, l = y1 ++ [(⟨19, 0⟩ : Opr)] := ⟨_, rfl⟩
                    have HL : As (l = endRest ns) := ⟨by rw [hl, HY.out]; unfold endRest; rw [List.append_assoc]⟩
                    have hll : l.length = n3 + 1 := by rw [hl, List.length_append, ← HN1.out]; rfl
                    have hs2 := HS.out
                    rw [← hl, ← HN1.out] at hs2
                    have HS2 := As.mk hs2
                    have HLL := As.mk hll
                    have HALL : As (l.all okO = true) := ⟨by rw [HL.out]; exact endRest_ok ns⟩
                    clear hs2 HS hl hll HE10 HN1 HY
                    go_upto_region 26 with fail
                    have HS0 : As (StA w g4 (100000 + 301 * j) mj (.slice A' j c') (List.replicate j tupO) (.slice (some ⟨gP, 0, none⟩) (n3 + 1) cP) l l 0 w10) := ⟨⟨mj, rfl, HS2.out⟩⟩
                    clear HS2
                    go_loopw [69] (fun i wr => ∃ q : Nat, q ≤ n3 + 1 ∧ i = .int .i64 q ∧ As (StA w g4 (100000 + 301 * j) mj (.slice A' j c') (List.replicate j tupO) (.slice (some ⟨gP, 0, none⟩) (n3 + 1) cP) l l q wr)) (fun i _ => n3 + 1 - (intOf i).toNat)
                    case atStart => exact ⟨0, Nat.zero_le _, rfl, HS0⟩
                    case round =>
                      obtain ⟨q, hq, rfl, hst⟩ := hrel
                      obtain ⟨mq, h1, hei⟩ := hst.out
                      have H1 := As.mk h1
                      have HEI := As.mk hei
                      clear hst h1 hei HS0
                      by_cases hlt : q < n3 + 1
                      · have q1 : (q : Int) < (n3 : Int) + 1 := by omega
                        have hql : q < l.length := by rw [HLL.out]; exact hlt
                        have hou := HEI.out.ou
                        rw [← HLL.out] at hou
                        obtain ⟨ad, had, g1, g2⟩ := (rdA_O hou (by rw [HLL.out]; omega)).2 q hql
                        injection had with had
                        subst had
                        rw [(add_at gP (q * 2) 0).1] at g1
                        rw [(add_at gP (q * 2) 1).2] at g2
                        have HQL := As.mk hql
                        clear hou
                        obtain ⟨o, ho⟩ : ∃ o, o = l[q] := ⟨_, rfl⟩
                        rw [← ho] at g1 g2
                        have HO := As.mk ho
                        have HOO : As (okO o = true) := ⟨by rw [ho]; exact List.all_eq_true.1 HALL.out _ (List.getElem_mem hql)⟩
                        clear ho
                        cases hs : stepP mq o with
                        | none =>
                          have HSS := As.mk hs
                          have HBF : As (endOps ops = ([], false)) := ⟨by
                            rw [HB.out, if_neg]
                            intro hok
                            rw [HOK2.out, Bool.and_eq_true, decide_eq_true_eq, ← HL.out] at hok
                            have := runP_fail HQL.out H1.out (by rw [← HO.out]; exact hs) []
                            rw [List.append_nil] at this
                            exact this hok.1⟩
                          clear hs
                          go_wp2_with (go_at_call 91; refine (EI.step (HEI.out.ext ((Ext.rf _).al _)) (by omega) o HOO.out).mono ?_; rw [HSS.out]; rintro e w7 ⟨rfl, he⟩; have HE7 := As.mk he; clear he)
                          go_ret2
                          rw [HBF.out]
                          exact OwnOB.nil HE7.out.e false
                        | some m' =>
                          have HSS := As.mk hs
                          clear hs
                          go_wp2_with (go_at_call 91; refine (EI.step (HEI.out.ext ((Ext.rf _).al _)) (by omega) o HOO.out).mono ?_; rw [HSS.out]; rintro e w7 ⟨rfl, he⟩; have HE7 := As.mk he; clear he)
                          go_roundw
                          case measure => first | (simp only [intOf]; omega) | (simp [intOf]; omega)
                          case rel => exact ⟨q + 1, by omega, by go_num, ⟨stA_next HQL.out H1.out (by rw [← HO.out]; exact HSS.out) HE7.out⟩⟩
                      · have hqq : q = n3 + 1 := by omega
                        subst hqq
                        have hrun : (runP mj l).2 = l.length := by
                          have h1 := H1.out
                          rw [List.take_of_length_le (by rw [HLL.out]; exact Nat.le_refl _)] at h1
                          rw [h1]
                        have hout : endOut m.stack = List.replicate j tupO ++ l := by rw [HEO.out, HL.out]
                        have hok3 : endOk ops = decide (nn + (j + (n3 + 1)) ≤ 300) := by
                          rw [HOK2.out, ← HL.out, hrun, HLL.out, ← HNN.out]
                          simp
                        have HR3 := As.mk hok3
                        have HT3 := As.mk hout
                        have hou := HEI.out.ou
                        have hv := HEI.out.ov
                        rw [← HLL.out] at hou
                        have HRD := As.mk (rdA_O hou (by rw [HLL.out]; omega))
                        have HOV : As (OR wr (.slice A' j c') (List.replicate j tupO)) := ⟨hv⟩
                        clear hrun hout hok3 hou hv hlt hq H1
                        go_upto_region 32 with ((at_builtin; refine app_ops rfl _ _ rfl (.slice A' j c') (List.replicate j tupO) ⟨gP, 0, none⟩ (n3 + 1) cP l rfl rfl HLL.out HRD.out HOV.out (by simp; omega) ?_; rw [List.length_replicate]; intro A5 c5 w11 ho hf hfr; have HO5 := As.mk (HEI.out.swap.put ho hf hfr); clear ho hf hfr))
                        have hl2 : (List.replicate j tupO ++ l).length = j + (n3 + 1) := by rw [List.length_append, List.length_replicate, HLL.out]
                        have HL2 := As.mk hl2
                        clear hl2
                        by_cases hle : nn + (j + (n3 + 1)) ≤ 300
                        · have q3 : (nn : Int) + ((j : Int) + ((n3 : Int) + 1)) ≤ 300 := by omega
                          have HBT : As (endOps ops = (List.replicate j tupO ++ l, true)) := ⟨by rw [HB.out, if_pos (by rw [HR3.out]; simpa using hle), HT3.out]⟩
                          clear hle
                          go_wp2_with fail
                          go_ret2
                          rw [HBT.out]
                          exact ⟨A5, c5, by rw [HL2.out]; rfl, by rw [HL2.out]; exact HO5.out.ou, HO5.out.e, by rw [HL2.out]; exact HO5.out.fu⟩
                        · have q3 : ¬ (nn : Int) + ((j : Int) + ((n3 : Int) + 1)) ≤ 300 := by omega
                          have HBT : As (endOps ops = ([], false)) := ⟨by rw [HB.out, if_neg (by rw [HR3.out]; simpa using hle)]⟩
                          clear hle
                          go_wp2_with fail
                          go_ret2
                          rw [HBT.out]
                          exact OwnOB.nil HO5.out.e false
end Go.Proofs.Ytcodbpjaamggeaa.C
