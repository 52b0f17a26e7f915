/- Marks in rows of orders that may be nil; rows that lie apart. -/
import Derived.Test.YtcodbpjaamggeaaHc
import Derived.Test.YtcodbpjaamggeaaHd
set_option linter.unusedVariables false
set_option linter.unusedSimpArgs false
namespace Go.Proofs.Ytcodbpjaamggeaa.C
open Go.RowKit Go.Proofs.Ytcodbpjaamggeaa.W Go.Proofs.Ytcodbpjaamggeaa.P

theorem markOpS_o (A : Option Addr) (n c : Nat) (l : List Opr) (q : Int) (w : World) (hO : OR w (.slice A n c) l) (hn : n = l.length) (hl : n ≤ 4000000) (h0 : 0 ≤ q) (h1 : q ≤ 1000000000) :
    Calls Try.prog 28 #[.slice A n c, .int .i64 q] w fun e w' => e = .returned (.int .i64 (q + 2 * n)) ∧ OR w' (.slice A n c) (marksO q n) ∧ Fr (fun k => (Value.slice A n c).ownBlock = some k) w w' := by
  cases A with
  | none =>
    have h00 : n = 0 := by
      rcases hO.2 with ⟨hv, h⟩ | ⟨g, cap, cur, hv, _⟩
      · injection hv
      · injection hv with hv; exact nomatch hv
    subst h00
    have hl0 : l = [] := List.length_eq_zero_iff.1 hn.symm
    subst hl0
    have HO := As.mk hO
    clear hO hn
    go_enter Try.func28, Try.ntmps28
    go_wp2_with fail
    go_loopw [1, 5] (fun a i wr => a = .int .i64 q ∧ i = .int .i64 0 ∧ As (wr = w)) (fun _ _ _ => 0)
    case atStart => exact ⟨rfl, rfl, ⟨rfl⟩⟩
    case round =>
      obtain ⟨rfl, rfl, hw⟩ := hrel
      go_wp2_with fail
      go_ret
      rw [hw.out]
      exact ⟨ret_int (by simp), HO.out, Fr.rf _ _⟩
  | some ad => exact markOpS_c ad n c l q w hO hn hl h0 h1
theorem or_lt {w : World} {v : Value} {l : List Opr} (h : OR w v l) : ∀ k, v.ownBlock = some k → k < w.heap.size := fun _ hk => own_lt h hk
theorem or_fresh {w w' : World} {ad : Addr} {n c : Nat} {l : List Opr} (h : OR w' (.slice (some ad) n c) l) (hb : w.heap.size ≤ ad.block) : Fresh (.slice (some ad) n c) w := by
  intro k hk
  have := OR.blk h 0
  rw [this, add_block] at hk
  injection hk with hk
  omega
/-- After two results and a copy that lie apart: what the checks of a law need. -/
structure Res3 (W : World) (v0 v1 x : Value) (r l : List Opr) : Prop where
  o0 : OR W v0 r
  o1 : OR W v1 r
  ox : OR W x l
  a0 : Apart v0 x
  a1 : Apart v1 x
  a2 : Apart v0 v1
theorem Res3.ext {W W' v0 v1 x r l} (h : Res3 W v0 v1 x r l) (e : Ext W W') : Res3 W' v0 v1 x r l := ⟨h.o0.ext e, h.o1.ext e, h.ox.ext e, h.a0, h.a1, h.a2⟩
theorem Res3.mx {W W' v0 v1 x r l l'} (h : Res3 W v0 v1 x r l) (ho : OR W' x l') (hf : Fr (fun k => x.ownBlock = some k) W W') : Res3 W' v0 v1 x r l' := ⟨h.o0.fr hf h.a0, h.o1.fr hf h.a1, ho, h.a0, h.a1, h.a2⟩
/-- After the result's own marks. -/
structure Res2 (W : World) (v0 v1 : Value) (r m : List Opr) : Prop where
  o0 : OR W v0 r
  o1 : OR W v1 m
theorem Res2.ext {W W' v0 v1 r m} (h : Res2 W v0 v1 r m) (e : Ext W W') : Res2 W' v0 v1 r m := ⟨h.o0.ext e, h.o1.ext e⟩
theorem Res3.m1 {W W' v0 v1 x r l m} (h : Res3 W v0 v1 x r l) (ho : OR W' v1 m) (hf : Fr (fun k => v1.ownBlock = some k) W W') : Res2 W' v0 v1 r m := ⟨h.o0.fr hf h.a2, ho⟩
theorem fr_ext {a b c : World} {v : Value} (h : Ext a b) (hf : Fr (fun k => v.ownBlock = some k) b c) (hv : Fresh v a) : Ext a c :=
  (Fr.then (S := fun _ => False) (Fr.ofExt h) hf (fun k hk => .inr (hv k hk))).ext (fun _ h => h.elim)
theorem fresh_le {a b : World} {v : Value} (h : Fresh v b) (e : Ext a b) : Fresh v a := fun k hk => Nat.le_trans e.size (h k hk)
end Go.Proofs.Ytcodbpjaamggeaa.C
