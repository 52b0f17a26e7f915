/- The reference's copies of machines. -/
import Derived.Test.YtcodbpjaamggeaaMg
import Derived.Deep.DeepCutAuto
import Derived.Deep.CutBlock
set_option linter.unusedVariables false
set_option linter.unusedSimpArgs false
namespace Go.Proofs.Ytcodbpjaamggeaa.C
open Go.RowKit Go.Proofs.Ytcodbpjaamggeaa.W Go.Proofs.Ytcodbpjaamggeaa.P

/-- The copy while its nodes are filled. -/
def CopyQ (w : World) (g : Nat) (pN pS pM : Value) (m : Mc) (h k : Nat) (wr : World) : Prop :=
  g = w.heap.size ∧ ∃ l BN nN eN BS nS eS BM nM eM, MX (w.heap.size ≤ ·) (fun j => j = g ∨ j = g + 1 ∨ j = h) w wr h (g + 1) l (.slice BN nN eN) (.slice BS nS eS) (.slice BM nM eM) { m with nodes := m.nodes.take k } ∧ MB wr g pN pS pM m.done ∧ g + 1 < h
theorem copy_start {w W : World} {g : Nat} (hg : g = w.heap.size) {pN pS pM a b c : Value} {d : Bool} {m : Mc} {h : Nat} {BS : Option Addr} {nS eS : Nat} {BM : Option Addr} {nM eM : Nat} (hE : Ext w W) (hs : IR W (.slice BS nS eS) m.stack) (hm : IR W (.slice BM nM eM) m.memo)
    (fS : ∀ k, (Value.slice BS nS eS).ownBlock = some k → w.heap.size ≤ k) (fM : ∀ k, (Value.slice BM nM eM).ownBlock = some k → w.heap.size ≤ k) (hsm : Apart (.slice BS nS eS) (.slice BM nM eM)) (hb : MB W h a b c d) (h2 : MB W (g + 1) (.slice none 0 0) (.slice none 0 0) (.slice none 0 0) false) (hp : MB W g pN pS pM m.done) (hh : g + 1 < h) :
    CopyQ w g pN pS pM m h 0 ((((W.setCell ⟨h, 0, none⟩ (.slice none 0 0)).setCell ⟨h, 1, none⟩ (.slice BS nS eS)).setCell ⟨h, 2, none⟩ (.slice BM nM eM)).setCell ⟨h, 3, none⟩ (.bool m.done)) := by
  have hf := Fr.set4 (S := fun k => k = h) (w := W) (g := h) rfl (.slice none 0 0) (.slice BS nS eS) (.slice BM nM eM) (.bool m.done)
  have hlt : h < W.heap.size := (Array.getElem?_eq_some_iff.1 hb).1
  have nS' : ∀ k, (Value.slice BS nS eS).ownBlock = some k → ¬ (k = g ∨ k = g + 1 ∨ k = h) := fun k hk e => by
    rcases e with e | e | e
    · subst e; exact own_ne_blk hs hp (by decide) hk
    · subst e; exact own_ne_blk hs h2 (by decide) hk
    · subst e; exact own_ne_blk hs hb (by decide) hk
  have nM' : ∀ k, (Value.slice BM nM eM).ownBlock = some k → ¬ (k = g ∨ k = g + 1 ∨ k = h) := fun k hk e => by
    rcases e with e | e | e
    · subst e; exact own_ne_blk hm hp (by decide) hk
    · subst e; exact own_ne_blk hm h2 (by decide) hk
    · subst e; exact own_ne_blk hm hb (by decide) hk
  refine ⟨hg, [], none, 0, 0, BS, nS, eS, BM, nM, eM, ⟨⟨MB.all _ _ _ _ hb, NR.nil _, rfl, hs.keep (fun k hk => hf.block k (own_lt hs hk) (fun e => nS' k hk (.inr (.inr e)))), hm.keep (fun k hk => hf.block k (own_lt hm hk) (fun e => nM' k hk (.inr (.inr e)))), fun k hk => ?_, List.Pairwise.nil, by simp, by simp, hsm, fun k hk => ?_⟩, hf.blk h2 (by omega), (Fr.ofExt hE).then hf (fun k hk => .inr (by rw [hk]; omega)), .inr (.inr rfl), .inr (.inl rfl), by omega, fun k hk => ?_, fun k hk => hk⟩, hf.blk hp (by omega), hh⟩
  · rcases hk with e | e | e | e | ⟨p, hp, _⟩
    · exact .inl e
    · simp [Value.ownBlock] at e
    · exact .inr ⟨fS k e, nS' k e⟩
    · exact .inr ⟨fM k e, nM' k e⟩
    · simp at hp
  · have h1 := hE.size
    have h3 := hf.size
    exact .inr ⟨by omega, fun e => by rcases e with e | e | e <;> omega⟩
  · have h1 := hE.size
    have h3 := hf.size
    rcases hk with e | e | e
    · omega
    · omega
    · omega
set_option maxRecDepth 100000 in
set_option maxHeartbeats 4000000 in
theorem scopyMachine_c (AN AS AM : Option Addr) (cN cS cM : Nat) (m : Mc) (w : World) (hr : RM w AN AS AM m) (hl : m.nodes.length ≤ 1000000) (hkl : ∀ n ∈ m.nodes, n.kids.length ≤ 1000000) :
    Calls Try.prog 118 #[.agg #[.slice AN m.nodes.length cN, .slice AS m.stack.length cS, .slice AM m.memo.length cM, .bool m.done]] w (MachS (w.heap.size ≤ ·) m w) := by
  have HR := As.mk hr
  have HKL := As.mk hkl
  clear hr hkl
  go_enter Try.func118, Try.ntmps118
  go_upto_region 1 with fail
  have HE1 := As.mk (((Ext.rf w).al (.cells #[.slice AN m.nodes.length cN, .slice AS m.stack.length cS, .slice AM m.memo.length cM, .bool m.done] 64)).al (.cells #[.slice none 0 0, .slice none 0 0, .slice none 0 0, .bool false] 64))
  have HP := As.mk (show MB ((w.alloc (.cells #[.slice AN m.nodes.length cN, .slice AS m.stack.length cS, .slice AM m.memo.length cM, .bool m.done] 64)).alloc (.cells #[.slice none 0 0, .slice none 0 0, .slice none 0 0, .bool false] 64)) w.heap.size (.slice AN m.nodes.length cN) (.slice AS m.stack.length cS) (.slice AM m.memo.length cM) m.done from ((Ext.rf _).al _).blk (al_new _ _))
  have HB2 := As.mk (show MB ((w.alloc (.cells #[.slice AN m.nodes.length cN, .slice AS m.stack.length cS, .slice AM m.memo.length cM, .bool m.done] 64)).alloc (.cells #[.slice none 0 0, .slice none 0 0, .slice none 0 0, .bool false] 64)) (w.heap.size + 1) (.slice none 0 0) (.slice none 0 0) (.slice none 0 0) false from by have := al_new (w.alloc (.cells #[.slice AN m.nodes.length cN, .slice AS m.stack.length cS, .slice AM m.memo.length cM, .bool m.done] 64)) (.cells #[.slice none 0 0, .slice none 0 0, .slice none 0 0, .bool false] 64); rw [al_size] at this; exact this)
  have hsz : ((w.alloc (.cells #[.slice AN m.nodes.length cN, .slice AS m.stack.length cS, .slice AM m.memo.length cM, .bool m.done] 64)).alloc (.cells #[.slice none 0 0, .slice none 0 0, .slice none 0 0, .bool false] 64)).heap.size = w.heap.size + 1 + 1 := by rw [al_size, al_size]
  generalize (w.alloc (.cells #[.slice AN m.nodes.length cN, .slice AS m.stack.length cS, .slice AM m.memo.length cM, .bool m.done] 64)).alloc (.cells #[.slice none 0 0, .slice none 0 0, .slice none 0 0, .bool false] 64) = w1 at HE1 HP HB2 hsz ⊢
  obtain ⟨g, hg⟩ : ∃ g, g = w.heap.size := ⟨_, rfl⟩
  have HG := As.mk hg
  rw [← hg] at HP HB2 hsz ⊢
  clear hg
  have c1 := MB.c1 HP.out; have c2 := MB.c2 HP.out; have c3 := MB.c3 HP.out
  go_cut [3] (fun s3 wx => ∃ h : Nat, s3 = .pointer (some ⟨h, 0, none⟩) ∧ As (CopyQ w g (.slice AN m.nodes.length cN) (.slice AS m.stack.length cS) (.slice AM m.memo.length cM) m h 0 wx))
  case first =>
    refine region_tree (fun w' => w'.cell? ⟨g, 1, none⟩ = some (.slice AS m.stack.length cS) ∧ w'.cell? ⟨g, 2, none⟩ = some (.slice AM m.memo.length cM) ∧ w'.cell? ⟨g, 3, none⟩ = some (.bool m.done)) [10] (.fork [(0, 0), (1, 1), (3, 0), (4, 1), (6, 0), (7, 1)] 2 9 (.fork [] 5 9 (.lin [(8, 0), (9, 2), (10, 3)]) (.lin [(5, 2), (8, 0), (10, 3)])) (.lin [(2, 2), (5, 2), (8, 0), (10, 3)])) (by kernel_rfl) (by kernel_rfl) rfl (by kernel_rfl) (fun _ _ _ _ h => h) (wpT.fork ?_)
    have hS := And.intro c1 (And.intro c2 c3)
    repeat (first | refine wpP.c0 (h := ?_) | refine wpP.c1 (w := w1.drew) hS (h := ?_))
    have HEwa : As (Ext w1 w1.drew) := ⟨(Ext.rf _).dr⟩
    generalize w1.drew = wa at HEwa ⊢
    clear hS
    refine wpP.fork ?br1 ?br2
    case' br1 =>
      refine wpT.ev (h := fun Kv hKv => ?_)
      go_wp2_with (go_at_call 132; refine (copyInts_c _ _ _ _ (HR.out.s.ext (HE1.out.trans HEwa.out))).mono ?_; rintro e wb ⟨AS_, eS, rfl, hI, he, hf⟩; have HIS := As.mk hI; have HXS := As.mk he; have HEwb := As.mk (HEwa.out.trans he); have HFS := As.mk hf; clear hI he hf)
      refine hKv.out _ _ ⟨HEwb.out.cellOf c1, HEwb.out.cellOf c2, HEwb.out.cellOf c3⟩ (wpT.fork (wpP.fork ?br3 ?br4))
      clear hKv Kv
      case' br3 =>
        refine wpT.ev (h := fun Kv hKv => ?_)
        go_wp2_with (go_at_call 132; refine (copyInts_c _ _ _ _ (HR.out.e.ext (HE1.out.trans HEwb.out))).mono ?_; rintro e wc ⟨AM_, eM, rfl, hI, he, hf⟩; have HIM := As.mk hI; have HXM := As.mk he; have HEwc := As.mk (HEwb.out.trans he); have HFM := As.mk hf; clear hI he hf)
        refine hKv.out _ _ ⟨HEwc.out.cellOf c1, HEwc.out.cellOf c2, HEwc.out.cellOf c3⟩ (wpT.lin ?_)
        clear hKv Kv
        repeat (first | refine wpP.c0 (h := ?_))
        refine wpP.ev (h := fun Kv hKv => ?_)
        go_wp2_with fail
        have hE := HEwc.out.al (.cells #[.slice none 0 0, .slice none 0 0, .slice none 0 0, .bool false] 64)
        have hbh : MB _ _ (.slice none 0 0) (.slice none 0 0) (.slice none 0 0) false := al_new wc (.cells #[.slice none 0 0, .slice none 0 0, .slice none 0 0, .bool false] 64)
        have HBH := As.mk hbh
        have HEwd := As.mk hE
        have HXwd := As.mk ((Ext.rf wc).al (.cells #[.slice none 0 0, .slice none 0 0, .slice none 0 0, .bool false] 64))
        have HHH : As (g + 1 < wc.heap.size) := ⟨by have := HEwc.out.size; omega⟩
        clear hE hbh
        obtain ⟨h, hh⟩ : ∃ h, h = wc.heap.size := ⟨_, rfl⟩
        rw [← hh] at HBH HHH ⊢
        clear hh
        generalize wc.alloc (.cells #[.slice none 0 0, .slice none 0 0, .slice none 0 0, .bool false] 64) = wd at HBH HEwd HXwd ⊢
        refine hKv.out _ _ ⟨HEwd.out.cellOf c1, HEwd.out.cellOf c2, HEwd.out.cellOf c3⟩ ?_
        clear hKv Kv
        have HEZ := HEwd
        have HSZ := As.mk (HXM.out.trans HXwd.out)
        have HMZ := HXwd
        have HEWS := HEwa
        have HEWM := HEwb
        have HAP : As (Apart (.slice AS_ m.stack.length eS) (.slice AM_ m.memo.length eM)) := ⟨Apart.fresh (fun k hk => own_lt HIS.out hk) HFM.out⟩
        repeat (first | refine wpP.c0 (h := ?_))
        refine wpP.last (h := fun Kv hKv => ?_)
        have a0 := MB.c0 HBH.out; have a1 := MB.c1 HBH.out; have a2 := MB.c2 HBH.out; have a3 := MB.c3 HBH.out
        have f0 := MB.fz HBH.out 0; have f1 := MB.fz HBH.out 1; have f2 := MB.fz HBH.out 2; have f3 := MB.fz HBH.out 3
        go_wp2_with fail
        refine hKv.out _ _ (wpP.done ?_)
        clear hKv Kv a0 a1 a2 a3 f0 f1 f2 f3
        have hq := copy_start HG.out (HE1.out.trans HEZ.out) (HIS.out.ext HSZ.out) (HIM.out.ext HMZ.out) (fun k hk => Nat.le_trans HE1.out.size (Nat.le_trans HEWS.out.size (HFS.out k hk))) (fun k hk => Nat.le_trans HE1.out.size (Nat.le_trans HEWM.out.size (HFM.out k hk))) HAP.out HBH.out (HEZ.out.blk HB2.out) (HEZ.out.blk HP.out) HHH.out
        clear HIS HIM HFS HFM HBH
        go_wp2_with fail
        go_meet
        exact ⟨_, rfl, ⟨hq⟩⟩
      case' br4 =>
        refine wpT.ev (h := fun Kv hKv => ?_)
        go_wp2_with fail
        have hE := HEwb.out.al (.cells #[.slice none 0 0, .slice none 0 0, .slice none 0 0, .bool false] 64)
        have hbh : MB _ _ (.slice none 0 0) (.slice none 0 0) (.slice none 0 0) false := al_new wb (.cells #[.slice none 0 0, .slice none 0 0, .slice none 0 0, .bool false] 64)
        have HBH := As.mk hbh
        have HEwc := As.mk hE
        have HXwc := As.mk ((Ext.rf wb).al (.cells #[.slice none 0 0, .slice none 0 0, .slice none 0 0, .bool false] 64))
        have HHH : As (g + 1 < wb.heap.size) := ⟨by have := HEwb.out.size; omega⟩
        clear hE hbh
        obtain ⟨h, hh⟩ : ∃ h, h = wb.heap.size := ⟨_, rfl⟩
        rw [← hh] at HBH HHH ⊢
        clear hh
        generalize wb.alloc (.cells #[.slice none 0 0, .slice none 0 0, .slice none 0 0, .bool false] 64) = wc at HBH HEwc HXwc ⊢
        refine hKv.out _ _ ⟨HEwc.out.cellOf c1, HEwc.out.cellOf c2, HEwc.out.cellOf c3⟩ (wpT.lin ?_)
        clear hKv Kv
        refine wpP.ev (h := fun Kv hKv => ?_)
        go_wp2_with (go_at_call 132; refine (copyInts_c _ _ _ _ (HR.out.e.ext (HE1.out.trans HEwc.out))).mono ?_; rintro e wd ⟨AM_, eM, rfl, hI, he, hf⟩; have HIM := As.mk hI; have HXM := As.mk he; have HEwd := As.mk (HEwc.out.trans he); have HFM := As.mk hf; clear hI he hf)
        refine hKv.out _ _ ⟨HEwd.out.cellOf c1, HEwd.out.cellOf c2, HEwd.out.cellOf c3⟩ ?_
        clear hKv Kv
        have hbh := HXM.out.blk HBH.out
        clear HBH
        have HBH := As.mk hbh
        clear hbh
        have HEZ := HEwd
        have HSZ := As.mk (HXwc.out.trans HXM.out)
        have HMZ := As.mk (Ext.rf wd)
        have HEWS := HEwa
        have HEWM := HEwc
        have HAP : As (Apart (.slice AS_ m.stack.length eS) (.slice AM_ m.memo.length eM)) := ⟨Apart.fresh (fun k hk => own_lt (HIS.out.ext HXwc.out) hk) HFM.out⟩
        repeat (first | refine wpP.c0 (h := ?_))
        refine wpP.last (h := fun Kv hKv => ?_)
        have a0 := MB.c0 HBH.out; have a1 := MB.c1 HBH.out; have a2 := MB.c2 HBH.out; have a3 := MB.c3 HBH.out
        have f0 := MB.fz HBH.out 0; have f1 := MB.fz HBH.out 1; have f2 := MB.fz HBH.out 2; have f3 := MB.fz HBH.out 3
        go_wp2_with fail
        refine hKv.out _ _ (wpP.done ?_)
        clear hKv Kv a0 a1 a2 a3 f0 f1 f2 f3
        have hq := copy_start HG.out (HE1.out.trans HEZ.out) (HIS.out.ext HSZ.out) (HIM.out.ext HMZ.out) (fun k hk => Nat.le_trans HE1.out.size (Nat.le_trans HEWS.out.size (HFS.out k hk))) (fun k hk => Nat.le_trans HE1.out.size (Nat.le_trans HEWM.out.size (HFM.out k hk))) HAP.out HBH.out (HEZ.out.blk HB2.out) (HEZ.out.blk HP.out) HHH.out
        clear HIS HIM HFS HFM HBH
        go_wp2_with fail
        go_meet
        exact ⟨_, rfl, ⟨hq⟩⟩
    case' br2 =>
      refine wpT.ev (h := fun Kv hKv => ?_)
      go_wp2_with fail
      have hE := HEwa.out.al (.cells #[.slice none 0 0, .slice none 0 0, .slice none 0 0, .bool false] 64)
      have hbh : MB _ _ (.slice none 0 0) (.slice none 0 0) (.slice none 0 0) false := al_new wa (.cells #[.slice none 0 0, .slice none 0 0, .slice none 0 0, .bool false] 64)
      have HBH := As.mk hbh
      have HEwb := As.mk hE
      have HXwb := As.mk ((Ext.rf wa).al (.cells #[.slice none 0 0, .slice none 0 0, .slice none 0 0, .bool false] 64))
      have HHH : As (g + 1 < wa.heap.size) := ⟨by have := HEwa.out.size; omega⟩
      clear hE hbh
      obtain ⟨h, hh⟩ : ∃ h, h = wa.heap.size := ⟨_, rfl⟩
      rw [← hh] at HBH HHH ⊢
      clear hh
      generalize wa.alloc (.cells #[.slice none 0 0, .slice none 0 0, .slice none 0 0, .bool false] 64) = wb at HBH HEwb HXwb ⊢
      refine hKv.out _ _ ⟨HEwb.out.cellOf c1, HEwb.out.cellOf c2, HEwb.out.cellOf c3⟩ (wpT.lin ?_)
      clear hKv Kv
      refine wpP.ev (h := fun Kv hKv => ?_)
      go_wp2_with (go_at_call 132; refine (copyInts_c _ _ _ _ (HR.out.s.ext (HE1.out.trans HEwb.out))).mono ?_; rintro e wc ⟨AS_, eS, rfl, hI, he, hf⟩; have HIS := As.mk hI; have HXS := As.mk he; have HEwc := As.mk (HEwb.out.trans he); have HFS := As.mk hf; clear hI he hf)
      refine hKv.out _ _ ⟨HEwc.out.cellOf c1, HEwc.out.cellOf c2, HEwc.out.cellOf c3⟩ ?_
      clear hKv Kv
      refine wpP.ev (h := fun Kv hKv => ?_)
      go_wp2_with (go_at_call 132; refine (copyInts_c _ _ _ _ (HR.out.e.ext (HE1.out.trans HEwc.out))).mono ?_; rintro e wd ⟨AM_, eM, rfl, hI, he, hf⟩; have HIM := As.mk hI; have HXM := As.mk he; have HEwd := As.mk (HEwc.out.trans he); have HFM := As.mk hf; clear hI he hf)
      refine hKv.out _ _ ⟨HEwd.out.cellOf c1, HEwd.out.cellOf c2, HEwd.out.cellOf c3⟩ ?_
      clear hKv Kv
      have hbh := (HXS.out.trans HXM.out).blk HBH.out
      clear HBH
      have HBH := As.mk hbh
      clear hbh
      have HEZ := HEwd
      have HSZ := HXM
      have HMZ := As.mk (Ext.rf wd)
      have HEWS := HEwb
      have HEWM := HEwc
      have HAP : As (Apart (.slice AS_ m.stack.length eS) (.slice AM_ m.memo.length eM)) := ⟨Apart.fresh (fun k hk => own_lt HIS.out hk) HFM.out⟩
      repeat (first | refine wpP.c0 (h := ?_))
      refine wpP.last (h := fun Kv hKv => ?_)
      have a0 := MB.c0 HBH.out; have a1 := MB.c1 HBH.out; have a2 := MB.c2 HBH.out; have a3 := MB.c3 HBH.out
      have f0 := MB.fz HBH.out 0; have f1 := MB.fz HBH.out 1; have f2 := MB.fz HBH.out 2; have f3 := MB.fz HBH.out 3
      go_wp2_with fail
      refine hKv.out _ _ (wpP.done ?_)
      clear hKv Kv a0 a1 a2 a3 f0 f1 f2 f3
      have hq := copy_start HG.out (HE1.out.trans HEZ.out) (HIS.out.ext HSZ.out) (HIM.out.ext HMZ.out) (fun k hk => Nat.le_trans HE1.out.size (Nat.le_trans HEWS.out.size (HFS.out k hk))) (fun k hk => Nat.le_trans HE1.out.size (Nat.le_trans HEWM.out.size (HFM.out k hk))) HAP.out HBH.out (HEZ.out.blk HB2.out) (HEZ.out.blk HP.out) HHH.out
      clear HIS HIM HFS HFM HBH
      go_wp2_with fail
      go_meet
      exact ⟨_, rfl, ⟨hq⟩⟩
  case rest =>
    obtain ⟨h, rfl, hst⟩ := hcut
    clear c1 c2 c3 HE1 HP HB2 hsz
    go_upto_region 3 with fail
    go_loopw [4] (fun i wr => ∃ k : Nat, k ≤ m.nodes.length ∧ i = .int .i64 k ∧ As (CopyQ w g (.slice AN m.nodes.length cN) (.slice AS m.stack.length cS) (.slice AM m.memo.length cM) m h k wr)) (fun i _ => m.nodes.length - (intOf i).toNat)
    case atStart => exact ⟨0, Nat.zero_le _, rfl, hst⟩
    case round =>
      obtain ⟨k, hk, rfl, hst⟩ := hrel
      obtain ⟨-, l, BN, nN, eN, BS, nS, eS, BM, nM, eM, hx, hp, hgh⟩ := hst.out
      have HX := As.mk hx
      have HP := As.mk hp
      have HGH := As.mk hgh
      have hE : Ext w wr := hx.f.ext (fun _ hk => hk)
      have HE := As.mk hE
      clear hst hx hp hE hgh
      have p0 := MB.c0 HP.out
      have a0 := MB.c0 HX.out.a.mb
      by_cases hlt : k < m.nodes.length
      · obtain ⟨ad, K, cK, rfl, k0, k1, k2, hcK, hrK⟩ := HR.out.n.2 k hlt
        have HK := As.mk (hrK.ext HE.out)
        obtain ⟨kd, hkd⟩ : ∃ kd, kd = m.nodes[k].kind := ⟨_, rfl⟩
        obtain ⟨vl, hvl⟩ : ∃ vl, vl = m.nodes[k].val := ⟨_, rfl⟩
        obtain ⟨ks, hks⟩ : ∃ ks, ks = m.nodes[k].kids := ⟨_, rfl⟩
        have hkb : ks.length ≤ 1000000 := by rw [hks]; exact HKL.out _ (List.getElem_mem hlt)
        rw [← hkd] at k0
        rw [← hvl] at k1
        rw [← hks] at k2 HK hcK
        have HV := As.mk (show m.nodes[k] = ⟨kd, vl, ks⟩ by rw [hkd, hvl, hks])
        clear hkd hvl hks hrK
        have HKW := As.mk (And.intro k0 (And.intro k1 k2))
        replace k0 := HE.out.cellOf k0; replace k1 := HE.out.cellOf k1; replace k2 := HE.out.cellOf k2
        have q1 : (k : Int) < m.nodes.length := by omega
        have hll : l.length = k := by
          have := congrArg List.length HX.out.a.ns
          simp at this; omega
        have HLL := As.mk hll
        clear hll
        go_upto_region 5 with fail
        refine region_perm (fun w' => w'.cell? ⟨h, 0, none⟩ = some (.slice BN nN eN) ∧ w'.cell? ⟨g, 0, none⟩ = some (.slice (some ad) m.nodes.length cN) ∧ w'.cell? (ad.add (k * 3)) = some (.int .i64 kd) ∧ w'.cell? ⟨(ad.add (k * 3)).block, (ad.add (k * 3)).off + 1, none⟩ = some (.int .i64 vl) ∧ w'.cell? ⟨(ad.add (k * 3)).block, (ad.add (k * 3)).off + 2, none⟩ = some (.slice K ks.length cK)) [25] [(0, 0), (1, 1), (2, 0), (3, 1), (4, 0), (5, 0), (6, 0), (7, 1), (8, 0), (9, 1), (10, 0), (11, 0), (12, 0), (13, 1), (14, 0), (15, 1), (16, 0), (17, 0), (18, 0), (19, 1), (20, 2), (21, 0), (22, 2), (23, 2), (24, 0), (25, 3)] (by kernel_rfl) (by kernel_rfl) rfl (by kernel_rfl) (fun _ _ _ _ h => h) ?_
        have hS := And.intro a0 (And.intro p0 (And.intro k0 (And.intro k1 k2)))
        repeat (first | refine wpP.c0 (h := ?_) | refine wpP.c1 (w := wr.drew) hS (h := ?_))
        refine wpP.ev (h := fun Kv hKv => ?_)
        have HD := As.mk ((Ext.rf wr).dr)
        generalize wr.drew = wd at HD ⊢
        go_wp2_with (go_at_call 132; refine (copyInts_c _ _ _ _ (HK.out.ext HD.out)).mono ?_; rintro e w2 ⟨A2, c2, rfl, hI, he, hf⟩; have HI := As.mk hI; have HE2 := As.mk (HD.out.trans he); have HF := As.mk (show Fresh (.slice A2 ks.length c2) wr from fun k hk => Nat.le_trans HD.out.size (hf k hk)); clear hI he hf)
        refine hKv.out _ _ ⟨HE2.out.cellOf a0, HE2.out.cellOf p0, HE2.out.cellOf k0, HE2.out.cellOf k1, HE2.out.cellOf k2⟩ ?_
        clear hKv Kv
        repeat (first | refine wpP.c0 (h := ?_))
        refine wpP.ev (h := fun Kv hKv => ?_)
        go_wp2_with fail
        have hE3 : Ext wr (w2.alloc (.cells #[.int .i64 kd, .int .i64 vl, .slice A2 ks.length c2] 96)) := HE2.out.al _
        refine hKv.out _ _ ⟨hE3.cellOf a0, hE3.cellOf p0, hE3.cellOf k0, hE3.cellOf k1, hE3.cellOf k2⟩ ?_
        clear hKv Kv hE3
        have hx2 := HX.out.ext HE2.out
        have HX2 := As.mk hx2
        clear hx2
        refine wpP.ev (h := fun Kv hKv => ?_)
        go_wp2_with ((at_builtin; refine app_node rfl _ _ rfl (.slice BN nN eN) l ⟨kd, vl, ks⟩ A2 ks.length c2 rfl rfl HX2.out.a.nr.1 (by rw [HLL.out]; omega) ?_; intro gN cN2 w3 hap; have HAP := As.mk hap; clear hap))
        have had := MR.addN HX2.out.a ⟨kd, vl, ks⟩ A2 ks.length c2 gN cN2 HAP.out HI.out (by show ks.length ≤ _; omega) (fun j hj => HX.out.a.up j (HF.out j hj)) (fun p hp => Apart.fresh (fun j hj => HX.out.a.foot_lt j (.inr (.inr (.inr (.inr ⟨p, hp, hj⟩))))) HF.out) (Apart.fresh (fun j hj => HX.out.a.foot_lt j (.inr (.inr (.inl hj)))) HF.out).symm (Apart.fresh (fun j hj => HX.out.a.foot_lt j (.inr (.inr (.inr (.inl hj))))) HF.out).symm
        have HX3 := As.mk (HX2.out.to had.1 (HX2.out.foot had.2))
        have hb3 : MB w3 h _ _ _ _ := HAP.out.2.1.blk HX2.out.a.mb (fun e => own_ne_blk HX2.out.a.nr.1 HX2.out.a.mb (by decide) e)
        have b3 := MB.c0 hb3
        have hp3 : MB w3 g _ _ _ _ := (HX2.out.foot (HAP.out.2.1.mono (fun j hj => .inr (.inl hj)))).blk (HE2.out.blk HP.out) (fun e => e.elim (fun e => by have := HGH.out; omega) (fun e => e.2 (.inl rfl)))
        have hE3 : Ext w w3 := ((HX2.out.f.trans ((HX2.out.foot (HAP.out.2.1.mono (fun j hj => .inr (.inl hj)))).mono (fun j hj => hj.elim (fun e => by rw [e]; exact (HX.out.hx h (.inr (.inr rfl))).1) (fun e => e.1)))).ext (fun _ hk => hk))
        refine hKv.out _ _ ⟨b3, MB.c0 hp3, hE3.cellOf HKW.out.1, hE3.cellOf HKW.out.2.1, hE3.cellOf HKW.out.2.2⟩ ?_
        clear hKv Kv hS
        have f3 := MB.fz hb3 0
        have HP3 := As.mk hp3
        clear hb3 hp3 hE3 had a0 p0 k0 k1 k2
        repeat (first | refine wpP.c0 (h := ?_))
        refine wpP.last (h := fun Kv hKv => ?_)
        go_wp2_with fail
        refine hKv.out _ _ (wpP.done ?_)
        clear hKv Kv b3 f3
        have hp4 := (Fr.set (S := fun k => k = h) w3 (.slice (some ⟨gN, 0, none⟩) (l.length + 1) cN2) (p := ⟨h, 0, none⟩) rfl).blk HP3.out (by have := HGH.out; omega)
        have hX3 := HX3.out
        have HM := As.mk (show addN { m with nodes := m.nodes.take k } ⟨kd, vl, ks⟩ = { m with nodes := m.nodes.take (k + 1) } by
          unfold addN
          rw [List.take_succ_eq_append_getElem hlt, HV.out])
        rw [HM.out] at hX3
        have HQ := As.mk (show CopyQ w g _ _ _ m h (k + 1) _ from ⟨HG.out, _, _, _, _, _, _, _, _, _, _, hX3, hp4, HGH.out⟩)
        clear hX3 HX3 hp4 HP3 HX2 HX HAP
        go_wp2_with fail
        go_roundw
        case measure => simp only [intOf]; omega
        case rel => exact ⟨k + 1, by omega, by go_num, HQ⟩
      · have hkn : k = m.nodes.length := by omega
        have q1 : ¬ (k : Int) < m.nodes.length := by omega
        have HKN := As.mk (show ({ m with nodes := m.nodes.take k } : Mc) = m by rw [hkn, List.take_length])
        have hx5 := HX.out
        rw [HKN.out] at hx5
        have HX5 := As.mk hx5
        clear hkn hx5 HX
        have d1 := MB.c1 HX5.out.a.mb; have d2 := MB.c2 HX5.out.a.mb; have d3 := MB.c3 HX5.out.a.mb
        have e0 := MB.c0 HX5.out.r; have e1 := MB.c1 HX5.out.r; have e2 := MB.c2 HX5.out.r; have e3 := MB.c3 HX5.out.r
        have f0 := MB.fz HX5.out.r 0; have f1 := MB.fz HX5.out.r 1; have f2 := MB.fz HX5.out.r 2; have f3 := MB.fz HX5.out.r 3
        go_wp2_with fail
        have ho := HX5.out.out
        refine bodyPost_ret (results_cell rfl _ _ (g + 1) _ rfl (loadM ho.2.2)) rfl ?_
        exact ⟨_, _, _, _, _, _, _, _, _, _, rfl, ho.1, ho.2.1⟩
end Go.Proofs.Ytcodbpjaamggeaa.C
