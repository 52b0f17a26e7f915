/- Programs as bytes: both sides write the same. -/
import Derived.Test.YtgenllcfpjgklaaDk
set_option linter.unusedVariables false
set_option linter.unusedSimpArgs false
namespace Go.Proofs.Ytgenllcfpjgklaa.P
def encB (o : Opr) : List Int := if mostA o.code = 0 then [o.code] else if o.arg < 128 then [o.code, o.arg] else [o.code, 128 + o.arg % 128, o.arg / 128]
def encP (l : List Opr) : List Int := l.flatMap encB
def encode (l : List Opr) : List Int := if vOps l = true then encP l else []
theorem encB_len (o : Opr) : 1 ≤ (encB o).length ∧ (encB o).length ≤ 3 := by
  unfold encB
  split
  · simp
  · split <;> simp
theorem encP_succ (l : List Opr) (k : Nat) (h : k < l.length) : encP (l.take (k + 1)) = encP (l.take k) ++ encB l[k] := by
  rw [List.take_succ_eq_append_getElem h]
  unfold encP
  rw [List.flatMap_append]
  simp
theorem encP_len (l : List Opr) : (encP l).length ≤ 3 * l.length := by
  induction l with
  | nil => simp [encP]
  | cons o l ih =>
    have h1 := (encB_len o).2
    have h2 : encP (o :: l) = encB o ++ encP l := by simp [encP]
    rw [h2, List.length_append, List.length_cons]
    omega
theorem mostA_nn (c : Int) : 0 ≤ mostA c := by unfold mostA; repeat' split
                                               all_goals omega
end Go.Proofs.Ytgenllcfpjgklaa.P
namespace Go.Proofs.Ytgenllcfpjgklaa.C
open Go.RowKit Go.Proofs.Ytgenllcfpjgklaa.W Go.Proofs.Ytgenllcfpjgklaa.P

theorem argS_mostA (c : Int) : argS c < 0 ↔ mostA c = 0 := by
  unfold argS mostA
  repeat' split
  all_goals omega
/-- A row of numbers of the call's own. -/
structure EnR (w : World) (A : Option Addr) (n c : Nat) (ys : List Int) (wr : World) : Prop where
  nn : n = ys.length
  r : IR wr (.slice A n c) ys
  f : ∀ j, (Value.slice A n c).ownBlock = some j → w.heap.size ≤ j
  e : Ext w wr
theorem EnR.ext {w A n c ys wr w'} (h : EnR w A n c ys wr) (e : Ext wr w') : EnR w A n c ys w' := ⟨h.nn, h.r.ext e, h.f, h.e.trans e⟩
theorem EnR.app1 {w A n c ys wr w' gP cP} {y : Int} (h : EnR w A n c ys wr) (hap : AppI (.slice A n c) ys (ys ++ [y]) wr gP cP w') : EnR w (some ⟨gP, 0, none⟩) (n + 1) cP (ys ++ [y]) w' := by
  obtain ⟨a1, a2, a3, _, _⟩ := hap
  have hs : (ys ++ [y]).length = n + 1 := by rw [h.nn]; simp
  rw [hs] at a1
  refine ⟨hs.symm, a1, fun j hj => ?_, (Fr.then (S := fun _ => False) (Fr.ofExt h.e) a2 (fun i hi => .inr (h.f i hi))).ext (fun _ h => h.elim)⟩
  have e : gP = j := by injection hj
  rcases a3 with a3 | a3
  · have := h.f _ a3; omega
  · have := h.e.size; omega
theorem EnR.apps {w A n c ys wr w' A' c'} {zs : List Int} (h : EnR w A n c ys wr) (hap : AppS (.slice A n c) ys (ys ++ zs) wr A' c' w') : EnR w A' (ys ++ zs).length c' (ys ++ zs) w' := by
  obtain ⟨a1, a2, a3, _⟩ := hap
  exact ⟨rfl, a1, fo_lo a3 h.f h.e.size, (Fr.then (S := fun _ => False) (Fr.ofExt h.e) a2 (fun i hi => .inr (h.f i hi))).ext (fun _ h => h.elim)⟩
theorem EnR.lit (w : World) : EnR w (some ⟨w.heap.size, 0, none⟩) 0 0 [] (w.alloc (.cells #[] 3)) :=
  ⟨rfl, World.ownsRow_lit (base := 0) (size := 1) w #[] 0 (Nat.zero_le _) (by simp) rfl, fun j hj => by simp [Value.ownBlock] at hj; omega, (Ext.rf w).al _⟩
theorem EnR.base {w w0 A n c ys wr} (h : EnR w0 A n c ys wr) (e : Ext w w0) : EnR w A n c ys wr := ⟨h.nn, h.r, fun j hj => Nat.le_trans e.size (h.f j hj), e.trans h.e⟩
theorem EnR.out {w A n c ys wr} (h : EnR w A n c ys wr) : ClonePost ys w (.returned (.slice A n c)) wr := by
  obtain ⟨h1, h2, h3, h4⟩ := h
  subst h1
  exact ⟨A, c, rfl, h2, h4, h3⟩
theorem ClonePost.nil {w w' : World} (h : Ext w w') : ClonePost [] w (.returned (.slice none 0 0)) w' := ⟨none, 0, rfl, IR.nil _, h, fun k hk => by simp [Value.ownBlock] at hk⟩
theorem bytesOf_c (a b : Int) (w : World) (hb : 0 ≤ b) (hb2 : b ≤ 100000) : Calls Try.prog 81 #[.agg #[.int .i64 a, .int .i64 b]] w (ClonePost (encB ⟨a, b⟩) w) := by
  have hx : Ext w (w.alloc (.cells #[.int .i64 a, .int .i64 b] 52)) := (Ext.rf w).al _
  have hob : OB (w.alloc (.cells #[.int .i64 a, .int .i64 b] 52)) w.heap.size a b := al_new _ _
  have HX := As.mk hx
  have HOB := As.mk hob
  clear hx hob
  go_enter Try.func81, Try.ntmps81
  go_upto_region 1 with fail
  generalize (w.alloc (.cells #[.int .i64 a, .int .i64 b] 52)) = w0 at HX HOB ⊢
  generalize w.heap.size = g at HOB ⊢
  have c0 := OB.c0 HOB.out; have c1 := OB.c1 HOB.out
  have HM := As.mk (argS_mostA a)
  obtain ⟨m, hm⟩ : ∃ m, m = argS a := ⟨_, rfl⟩
  have HMM := As.mk hm
  rw [← hm] at HM
  clear hm
  by_cases h0 : m < 0
  · have HE : As (encB ⟨a, b⟩ = [a]) := ⟨by unfold encB; rw [if_pos (HM.out.1 h0)]⟩
    go_wp2_with (go_at_call 112; refine (argOf_c _ _).mono ?_; rw [← HMM.out]; rintro e w1 ⟨rfl, rfl⟩)
    go_ret
    rw [HE.out]
    exact ⟨some ⟨w0.heap.size, 0, none⟩, 1, rfl, World.ownsRow_lit (base := 0) (e := 3) (size := 1) w0 #[.int .i64 a] 1 (Nat.zero_le _) (by decide) rfl, HX.out.al _, fun k hk => by simp [Value.ownBlock] at hk; have := HX.out.size; omega⟩
  · have hne : ¬ mostA a = 0 := fun e => h0 (HM.out.2 e)
    have HNE := As.mk hne
    clear hne
    by_cases hlt : b < 128
    · have HE : As (encB ⟨a, b⟩ = [a, b]) := ⟨by unfold encB; rw [if_neg HNE.out, if_pos hlt]⟩
      go_wp2_with (go_at_call 112; refine (argOf_c _ _).mono ?_; rw [← HMM.out]; rintro e w1 ⟨rfl, rfl⟩)
      go_ret
      rw [HE.out]
      exact ⟨some ⟨w0.heap.size, 0, none⟩, 2, rfl, World.ownsRow_lit (base := 0) (e := 3) (size := 1) w0 #[.int .i64 a, .int .i64 b] 2 (Nat.zero_le _) (by decide) rfl, HX.out.al _, fun k hk => by simp [Value.ownBlock] at hk; have := HX.out.size; omega⟩
    · have HE : As (encB ⟨a, b⟩ = [a, 128 + b % 128, b / 128]) := ⟨by unfold encB; rw [if_neg HNE.out, if_neg hlt]⟩
      have hw1 : IntKind.i64.wrap (128 + b % 128) = 128 + b % 128 := wrapQ _ (by omega) (by omega)
      go_wp2_with (go_at_call 112; refine (argOf_c _ _).mono ?_; rw [← HMM.out]; rintro e w1 ⟨rfl, rfl⟩)
      go_ret
      rw [HE.out]
      exact ⟨some ⟨w0.heap.size, 0, none⟩, 3, rfl, World.ownsRow_lit (base := 0) (e := 3) (size := 1) w0 #[.int .i64 a, .int .i64 (128 + b % 128), .int .i64 (b / 128)] 3 (Nat.zero_le _) (by decide) rfl, HX.out.al _, fun k hk => by simp [Value.ownBlock] at hk; have := HX.out.size; omega⟩
/-- After some orders. -/
def EnA (w : World) (l : List Opr) (k : Nat) (A : Option Addr) (n c : Nat) (wr : World) : Prop := EnR w A n c (encP (l.take k)) wr
set_option maxRecDepth 100000 in
set_option maxHeartbeats 1000000 in
theorem sEncodeOps_c (A : Option Addr) (cA : Nat) (l : List Opr) (w : World) (hr : RdO w A l) :
    Calls Try.prog 43 #[.slice A l.length cA] w (ClonePost (encode l) w) := by
  have HR := As.mk hr
  clear hr
  obtain ⟨b, hb⟩ : ∃ b, b = vOps l := ⟨_, rfl⟩
  have HV := As.mk hb
  clear hb
  cases b with
  | false =>
    have HE : As (encode l = []) := ⟨by unfold encode; rw [← HV.out]; rfl⟩
    go_enter Try.func43, Try.ntmps43
    go_wp2_with (go_at_call 72; refine (validOps_c _ _ _ _ HR.out).mono ?_; rw [← HV.out]; rintro e w2 ⟨rfl, he⟩; have HE2 := As.mk he; clear he)
    go_ret
    rw [HE.out]
    exact ClonePost.nil HE2.out
  | true =>
    have HE : As (encode l = encP l) := ⟨by unfold encode; rw [← HV.out]; rfl⟩
    have hall := vOps_all HV.out.symm
    have hl3 := hall.2
    have HALL := As.mk hall.1
    clear hall
    go_enter Try.func43, Try.ntmps43
    go_upto_region 3 with (go_at_call 72; refine (validOps_c _ _ _ _ HR.out).mono ?_; rw [← HV.out]; rintro e w2 ⟨rfl, he⟩; have HE2 := As.mk he; clear he)
    have HQ0 : As (EnA w l 0 (some ⟨w2.heap.size, 0, none⟩) 0 0 (w2.alloc (.cells #[] 3))) := ⟨(EnR.lit w2).base HE2.out⟩
    go_upto_region 5 with fail
    go_loopw [3, 4] (fun v i wr => ∃ (k n c : Nat) (B : Option Addr), k ≤ l.length ∧ i = .int .i64 k ∧ v = .slice B n c ∧ As (EnA w l k B n c wr)) (fun _ i _ => l.length - (intOf i).toNat)
    case atStart => exact ⟨0, 0, 0, _, Nat.zero_le _, rfl, rfl, HQ0⟩
    case round =>
      obtain ⟨k, n, c, B, hk, rfl, rfl, hst⟩ := hrel
      clear HQ0
      by_cases hlt : k < l.length
      · obtain ⟨ad, rfl, h1, h2⟩ := (HR.out.ext hst.out.e).2 k hlt
        have hok := List.all_eq_true.1 HALL.out l[k] (List.getElem_mem hlt)
        have HS := As.mk (encP_succ l k hlt)
        have hnn : n ≤ 1000 := by have h3 := hst.out.nn; have h4 := encP_len (l.take k); rw [List.length_take] at h4; omega
        obtain ⟨o, ho⟩ : ∃ o, o = l[k] := ⟨_, rfl⟩
        rw [← ho] at h1 h2 hok HS
        clear ho
        obtain ⟨x, y⟩ := o
        dsimp only at h1 h2
        have hy : 0 ≤ y ∧ y ≤ 100000 := by
          simp only [okO, decide_eq_true_eq] at hok
          have h3 := hok.2.2.2
          unfold mostA at h3
          (try dsimp only at hok h3)
          refine ⟨hok.2.2.1, ?_⟩
          repeat' split at h3
          all_goals omega
        clear hok
        have q1 : (k : Int) < l.length := by omega
        go_wp2_with (first | (go_at_call 81; refine (bytesOf_c x y _ hy.1 hy.2).mono ?_; rintro e w3 ⟨A3, c3, rfl, hi, he, hf⟩; have HI3 := As.mk hi; have HEN3 := As.mk (EnR.ext hst.out he); clear hi he hf) | (at_builtin; refine app_intsA rfl _ _ rfl (.slice B n c) (encP (l.take k)) A3 _ c3 (encB ⟨x, y⟩) rfl rfl rfl (rdA_J5 HI3.out (by have := (encB_len ⟨x, y⟩).2; omega)) HEN3.out.r (by have := HEN3.out.nn; omega) ?_; rw [← HS.out]; intro A4 c4 w4 hap; rw [HS.out] at hap; have HEN4 := As.mk (HEN3.out.apps hap); rw [← HS.out] at HEN4; clear hap))
        go_roundw
        case measure => simp only [intOf]; omega
        case rel => exact ⟨k + 1, _, c4, A4, by omega, by go_num, rfl, HEN4⟩
      · have HN : As (EnR w B n c (encP l) _) := ⟨by have h3 := hst.out; unfold EnA at h3; rwa [List.take_of_length_le (by omega)] at h3⟩
        have q1 : ¬ (k : Int) < l.length := by omega
        go_wp2_with fail
        go_ret
        rw [HE.out]
        exact HN.out.out
set_option maxRecDepth 100000 in
set_option maxHeartbeats 1000000 in
theorem EncodeOps_c (A : Option Addr) (cA : Nat) (l : List Opr) (w : World) (hr : RdO w A l) :
    Calls Try.prog 42 #[.slice A l.length cA] w (ClonePost (encode l) w) := by
  have HR := As.mk hr
  clear hr
  obtain ⟨b, hb⟩ : ∃ b, b = vOps l := ⟨_, rfl⟩
  have HV := As.mk hb
  clear hb
  cases b with
  | false =>
    have HE : As (encode l = []) := ⟨by unfold encode; rw [← HV.out]; rfl⟩
    go_enter Try.func42, Try.ntmps42
    go_wp2_with (go_at_call 20; refine (ValidOps_c _ _ _ _ HR.out).mono ?_; rw [← HV.out]; rintro e w2 ⟨rfl, he⟩; have HE2 := As.mk he; clear he)
    go_ret
    rw [HE.out]
    exact ClonePost.nil HE2.out
  | true =>
    have HE : As (encode l = encP l) := ⟨by unfold encode; rw [← HV.out]; rfl⟩
    have hall := vOps_all HV.out.symm
    have hl3 := hall.2
    have HALL := As.mk hall.1
    clear hall
    go_enter Try.func42, Try.ntmps42
    go_upto_region 3 with (go_at_call 20; refine (ValidOps_c _ _ _ _ HR.out).mono ?_; rw [← HV.out]; rintro e w2 ⟨rfl, he⟩; have HE2 := As.mk he; clear he)
    have HQ0 : As (EnA w l 0 (some ⟨w2.heap.size, 0, none⟩) 0 0 (w2.alloc (.cells #[] 3))) := ⟨(EnR.lit w2).base HE2.out⟩
    go_upto_region 5 with fail
    go_loopw [3, 12] (fun v i wr => ∃ (k n c : Nat) (B : Option Addr), k ≤ l.length ∧ i = .int .i64 k ∧ v = .slice B n c ∧ As (EnA w l k B n c wr)) (fun _ i _ => l.length - (intOf i).toNat)
    case atStart => exact ⟨0, 0, 0, _, Nat.zero_le _, rfl, rfl, HQ0⟩
    case round =>
      obtain ⟨k, n, c, B, hk, rfl, rfl, hst⟩ := hrel
      clear HQ0
      by_cases hlt : k < l.length
      · obtain ⟨ad, rfl, h1, h2⟩ := (HR.out.ext hst.out.e).2 k hlt
        have hok := List.all_eq_true.1 HALL.out l[k] (List.getElem_mem hlt)
        have HS := As.mk (encP_succ l k hlt)
        have hnn : n ≤ 1000 := by have h3 := hst.out.nn; have h4 := encP_len (l.take k); rw [List.length_take] at h4; omega
        obtain ⟨o, ho⟩ : ∃ o, o = l[k] := ⟨_, rfl⟩
        rw [← ho] at h1 h2 hok HS
        clear ho
        obtain ⟨x, y⟩ := o
        dsimp only at h1 h2
        have hy : 0 ≤ y ∧ y ≤ 100000 := by
          simp only [okO, decide_eq_true_eq] at hok
          have h3 := hok.2.2.2
          unfold mostA at h3
          (try dsimp only at hok h3)
          refine ⟨hok.2.2.1, ?_⟩
          repeat' split at h3
          all_goals omega
        obtain ⟨hy0, hy1⟩ := hy
        clear hok
        have q1 : (k : Int) < l.length := by omega
        go_upto_region 7 with fail
        have hx1 : Ext wr (wr.alloc (.cells #[.int .i64 x, .int .i64 y] 52)) := (Ext.rf _).al _
        have hob : OB (wr.alloc (.cells #[.int .i64 x, .int .i64 y] 52)) wr.heap.size x y := al_new _ _
        have HEN1 := As.mk (EnR.ext hst.out hx1)
        have HOB := As.mk hob
        clear hx1 hob
        generalize wr.alloc (.cells #[.int .i64 x, .int .i64 y] 52) = w1 at HEN1 HOB ⊢
        generalize wr.heap.size = b5 at HOB ⊢
        have d0 := OB.c0 HOB.out
        clear h1 h2
        go_upto_region 9 with ((at_builtin; refine app_int rfl _ _ rfl (.slice B n c) (encP (l.take k)) x rfl rfl HEN1.out.r (by have := HEN1.out.nn; omega) ?_; rw [← HEN1.out.nn]; intro gP cP w3 hap; have HEN3 := As.mk (HEN1.out.app1 hap); have HOB3 := As.mk (hap.2.1.blk HOB.out (fun e => own_ne_blk HEN1.out.r HOB.out (by decide) e)); clear hap))
        clear d0
        have d0 := OB.c0 HOB3.out; have d1 := OB.c1 HOB3.out
        obtain ⟨ys, hys⟩ : ∃ ys, ys = encP (l.take k) ++ [x] := ⟨_, rfl⟩
        rw [← hys] at HEN3
        have HYS := As.mk hys
        have HEN4 := HEN3
        clear hys HEN3 HEN1 HOB
        obtain ⟨m, hm⟩ : ∃ m, m = mostA x := ⟨_, rfl⟩
        have HMM := As.mk hm
        clear hm
        by_cases h0 : m = 0
        · have HZ : As (EnA w l (k + 1) (some ⟨gP, 0, none⟩) (n + 1) cP w3) := ⟨by
            have h5 : encB ⟨x, y⟩ = [x] := by unfold encB; rw [if_pos (by rw [← HMM.out]; exact h0)]
            unfold EnA
            rw [HS.out, h5, ← HYS.out]
            exact HEN4.out⟩
          subst h0
          go_wp2_with (go_at_call 80; refine (mostArg_c _ _).mono ?_; rw [← HMM.out]; rintro e w4 ⟨rfl, rfl⟩)
          go_roundw
          case measure => simp only [intOf]; omega
          case rel => exact ⟨k + 1, n + 1, cP, _, by omega, by go_num, rfl, HZ⟩
        · by_cases hlt2 : y < 128
          · have h5 : As (encB ⟨x, y⟩ = [x, y]) := ⟨by unfold encB; rw [if_neg (by rw [← HMM.out]; exact h0), if_pos hlt2]⟩
            go_wp2_with (first | (go_at_call 80; refine (mostArg_c _ _).mono ?_; rw [← HMM.out]; rintro e w4 ⟨rfl, rfl⟩) | (at_builtin; refine app_int rfl _ _ rfl (.slice (some ⟨gP, 0, none⟩) (n + 1) cP) ys y rfl rfl HEN4.out.r (by have := HEN4.out.nn; omega) ?_; rw [← HEN4.out.nn]; intro gQ cQ w5 hap; have HEN5 := As.mk (HEN4.out.app1 hap); clear hap))
            have HZ : As (EnA w l (k + 1) (some ⟨gQ, 0, none⟩) (n + 1 + 1) cQ w5) := ⟨by
              unfold EnA
              rw [HS.out, h5.out]
              have h6 := HEN5.out
              rw [HYS.out, List.append_assoc] at h6
              exact h6⟩
            go_roundw
            case measure => simp only [intOf]; omega
            case rel => exact ⟨k + 1, n + 1 + 1, cQ, _, by omega, by go_num, rfl, HZ⟩
          · have h5 : As (encB ⟨x, y⟩ = [x, 128 + y % 128, y / 128]) := ⟨by unfold encB; rw [if_neg (by rw [← HMM.out]; exact h0), if_neg hlt2]⟩
            have hw1 : IntKind.i64.wrap (128 + y % 128) = 128 + y % 128 := wrapQ _ (by omega) (by omega)
            go_wp2_with (first | (go_at_call 80; refine (mostArg_c _ _).mono ?_; rw [← HMM.out]; rintro e w4 ⟨rfl, rfl⟩) | (at_builtin; refine app_ints rfl _ _ rfl (.slice (some ⟨gP, 0, none⟩) (n + 1) cP) ys ⟨w3.heap.size, 0, none⟩ 2 2 [128 + y % 128, y / 128] rfl rfl rfl (rdA_J5 (n := 2) (c := 2) (l := [128 + y % 128, y / 128]) (World.ownsRow_lit (base := 0) (e := 3) (size := 1) w3 #[.int .i64 (128 + y % 128), .int .i64 (y / 128)] 2 (Nat.zero_le _) (by decide) rfl) (by simp)) (HEN4.out.r.ext ((Ext.rf _).al _)) (by have := HEN4.out.nn; omega) ?_; intro A5 c5 w5 hap; have HEN5 := As.mk ((HEN4.out.ext ((Ext.rf w3).al _)).apps hap); clear hap))
            have HZ : As (EnA w l (k + 1) A5 (ys ++ [128 + y % 128, y / 128]).length c5 w5) := ⟨by
              unfold EnA
              rw [HS.out, h5.out]
              have h6 := HEN5.out
              have e : encP (l.take k) ++ [x, 128 + y % 128, y / 128] = ys ++ [128 + y % 128, y / 128] := by rw [HYS.out, List.append_assoc]; rfl
              rw [e]
              exact h6⟩
            go_roundw
            case measure => simp only [intOf]; omega
            case rel => exact ⟨k + 1, (ys ++ [128 + y % 128, y / 128]).length, c5, A5, by omega, by go_num, (by first | rfl | simp), HZ⟩
      · have HN : As (EnR w B n c (encP l) _) := ⟨by have h3 := hst.out; unfold EnA at h3; rwa [List.take_of_length_le (by omega)] at h3⟩
        have q1 : ¬ (k : Int) < l.length := by omega
        go_wp2_with fail
        go_ret
        rw [HE.out]
        exact HN.out.out
def sizeP (l : List Opr) : Int := if vOps l = true then ((encP l).length : Int) else -1
theorem SizeOf_c (A : Option Addr) (cA n : Nat) (l : List Opr) (w : World) (hr : RdO w A l) (hn : l.length = n) :
    Calls Try.prog 35 #[.slice A n cA] w fun e w' => e = .returned (.int .i64 (sizeP l)) ∧ Ext w w' := by
  have HR := As.mk hr
  have HN := As.mk hn
  clear hr
  obtain ⟨b, hb⟩ : ∃ b, b = vOps l := ⟨_, rfl⟩
  have HV := As.mk hb
  clear hb
  subst hn
  cases b with
  | false =>
    go_enter Try.func35, Try.ntmps35
    go_wp2_with (go_at_call 20; refine (ValidOps_c _ _ _ _ HR.out).mono ?_; rw [← HV.out]; rintro e w2 ⟨rfl, he⟩; have HE2 := As.mk he; clear he)
    go_ret
    exact ⟨by unfold sizeP; rw [← HV.out]; rfl, HE2.out⟩
  | true =>
    have HE : As (encode l = encP l) := ⟨by unfold encode; rw [← HV.out]; rfl⟩
    go_enter Try.func35, Try.ntmps35
    go_wp2_with (first | (go_at_call 20; refine (ValidOps_c _ _ _ _ HR.out).mono ?_; rw [← HV.out]; rintro e w2 ⟨rfl, he⟩; have HE2 := As.mk he; clear he) | (go_at_call 42; refine (EncodeOps_c _ _ _ _ (HR.out.ext HE2.out)).mono ?_; rw [HE.out]; rintro e w3 ⟨A3, c3, rfl, -, he, -⟩; have HE3 := As.mk (HE2.out.trans he); clear he))
    go_ret
    exact ⟨by unfold sizeP; rw [← HV.out]; rfl, HE3.out⟩
theorem sSizeOf_c (A : Option Addr) (cA : Nat) (l : List Opr) (w : World) (hr : RdO w A l) :
    Calls Try.prog 36 #[.slice A l.length cA] w fun e w' => e = .returned (.int .i64 (sizeP l)) ∧ Ext w w' := by
  have HR := As.mk hr
  clear hr
  obtain ⟨b, hb⟩ : ∃ b, b = vOps l := ⟨_, rfl⟩
  have HV := As.mk hb
  clear hb
  cases b with
  | false =>
    go_enter Try.func36, Try.ntmps36
    go_wp2_with (go_at_call 72; refine (validOps_c _ _ _ _ HR.out).mono ?_; rw [← HV.out]; rintro e w2 ⟨rfl, he⟩; have HE2 := As.mk he; clear he)
    go_ret
    exact ⟨by unfold sizeP; rw [← HV.out]; rfl, HE2.out⟩
  | true =>
    have HE : As (encode l = encP l) := ⟨by unfold encode; rw [← HV.out]; rfl⟩
    go_enter Try.func36, Try.ntmps36
    go_wp2_with (first | (go_at_call 72; refine (validOps_c _ _ _ _ HR.out).mono ?_; rw [← HV.out]; rintro e w2 ⟨rfl, he⟩; have HE2 := As.mk he; clear he) | (go_at_call 43; refine (sEncodeOps_c _ _ _ _ (HR.out.ext HE2.out)).mono ?_; rw [HE.out]; rintro e w3 ⟨A3, c3, rfl, -, he, -⟩; have HE3 := As.mk (HE2.out.trans he); clear he))
    go_ret
    exact ⟨by unfold sizeP; rw [← HV.out]; rfl, HE3.out⟩
end Go.Proofs.Ytgenllcfpjgklaa.C
