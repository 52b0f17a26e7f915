/- Words of our own, over any program: facts that are kept aside, worlds that grow, rows that are read, rows that are owned. -/
import Derived.WalkKit
import Derived.WalkSpells
import Derived.Below
import Derived.Outline
import Derived.Lib.Hide
import Derived.LoopTactic
import Derived.Deep.LoopGhost
import Derived.Deep.QuietTactic
import Derived.BigQuiet
import Derived.BigRegion
import Derived.Laws.OwnMore
import Derived.Laws.MakeOwn
import Derived.Maps.AppendAt
import Derived.ArgAppend
import Derived.Deep.RegionHeld3
import Derived.Deep.AppendLies
import Derived.Test.YtgenllcfpjgklaaPm
set_option linter.unusedVariables false
set_option linter.unusedSimpArgs false
namespace Go.Proofs.Ytgenllcfpjgklaa.W
open Go.RowKit Go.Proofs.Ytgenllcfpjgklaa.P

/-- A fact that the walk doesn't look into. -/
structure As (p : Prop) : Prop where mk :: (out : p)

/-- All that lay in w is as it was; new blocks alone. -/
abbrev Ext (w w' : World) : Prop := Below w.heap.size w w'
theorem Ext.trans {a b c : World} (h : Ext a b) (k : Ext b c) : Ext a c := Below.trans h (Below.mono k h.size)
theorem Ext.rf (w : World) : Ext w w := Below.refl _ _
theorem Ext.al {w W : World} (h : Ext w W) (o : Obj) : Ext w (W.alloc o) := Below.alloc h h.size o
theorem Ext.dr {w W : World} (h : Ext w W) : Ext w W.drew := Below.drew h
theorem Ext.dN {w W : World} (h : Ext w W) (n : Nat) : Ext w (W.drewN n) := ⟨h.os, h.tape, h.output, h.size, h.block⟩
theorem Ext.st {w W : World} (h : Ext w W) {p : Addr} (hp : w.heap.size ≤ p.block) (u : Value) : Ext w (W.setCell p u) := Below.setCell h hp u
theorem Ext.cellOf {w w' : World} (h : Ext w w') {a : Addr} {v : Value} (hc : w.cell? a = some v) : w'.cell? a = some v := (h.cell (World.block_lt_of_cell? w a hc)).trans hc
theorem Ext.blk {w w' : World} (h : Ext w w') {k : Nat} {o : Obj} (hc : w.heap[k]? = some o) : w'.heap[k]? = some o := (h.block k (Array.getElem?_eq_some_iff.1 hc).1).trans hc

theorem bcase (p : Prop) [Decidable p] : p ∨ decide p = false := by by_cases h : p <;> simp [h]
theorem ret_int {k : IntKind} {a b : Int} (h : a = b) : Ending.returned (.int k a) = .returned (.int k b) := by rw [h]
theorem ret_bool {a b : Bool} (h : a = b) : Ending.returned (.bool a) = .returned (.bool b) := by rw [h]

/-- A slice of ints that is read. -/
def RdI (w : World) (A : Option Addr) (l : List Int) : Prop :=
  l.length ≤ 1000000000000 ∧ ∀ k (h : k < l.length), ∃ ad, A = some ad ∧ w.cell? (ad.add k) = some (.int .i64 l[k])
theorem RdI.ext {w w' : World} {A : Option Addr} {l : List Int} (h : RdI w A l) (e : Ext w w') : RdI w' A l :=
  ⟨h.1, fun k hk => let ⟨ad, ha, hc⟩ := h.2 k hk; ⟨ad, ha, e.cellOf hc⟩⟩
theorem RdI.nil (w : World) (A : Option Addr) : RdI w A [] := ⟨by simp, fun k h => by simp at h⟩

/-- A slice of orders that is read. -/
def RdO (w : World) (A : Option Addr) (l : List Opr) : Prop :=
  l.length ≤ 1000000000000 ∧ ∀ k (h : k < l.length), ∃ ad, A = some ad ∧ w.cell? (ad.add (k * 2)) = some (.int .i64 l[k].code) ∧
    w.cell? ⟨(ad.add (k * 2)).block, (ad.add (k * 2)).off + 1, none⟩ = some (.int .i64 l[k].arg)
theorem RdO.ext {w w' : World} {A : Option Addr} {l : List Opr} (h : RdO w A l) (e : Ext w w') : RdO w' A l :=
  ⟨h.1, fun k hk => let ⟨ad, ha, hc, hd⟩ := h.2 k hk; ⟨ad, ha, e.cellOf hc, e.cellOf hd⟩⟩

theorem add_add (a : Addr) (j k : Nat) : (a.add j).add k = a.add (j + k) := by
  unfold Addr.add
  by_cases h1 : j = 0 <;> by_cases h2 : k = 0 <;> simp [h1, h2, Nat.add_assoc]
/-- 's[i:]', whatever the capacity. -/
theorem slice_from {P : Program} (t e : TypeId) {inf : TypeInfo} (ht : P.underlying t = some (.slice e)) (hi : P.info? e = some inf) (hsz : inf.size = 1) (A : Option Addr) (c : Nat) (l : List Int) (i : Int) (h0 : 0 ≤ i) (hm : i ≤ l.length) (hc : l.length ≤ c) :
    ∃ A' : Option Addr, (∀ W : World, (Instr.slice t (.slice A l.length c) (some (.int .i64 i)) none none).run P W = .ok (.slice A' (l.length - i.toNat) (c - i.toNat)) W) ∧ (∀ w, RdI w A l → RdI w A' (l.drop i.toNat)) ∧ (∀ g, A = some ⟨g, 0, none⟩ → ∃ ad, A' = some ad ∧ ad.block = g) := by
  obtain ⟨m, rfl⟩ := Int.eq_ofNat_of_zero_le h0
  refine ⟨if c = m then A else A.map (·.add m), fun W => ?_, fun w h => ⟨by have := h.1; simp; omega, fun k hk => ?_⟩, fun g hg => ?_⟩
  · have hel : P.elem t = e := by simp [Program.elem, ht]
    have hu : P.underlying t = some (.slice (P.elem t)) := by rw [hel]; exact ht
    rw [run_slice_l W t A l.length c hu .i64 (m : Int) (Int.natCast_nonneg _) (by omega), hel]
    simp [sizeOf, typeInfo, hi, hsz, sliced, Result.andThen]
  · simp only [Int.toNat_natCast, List.length_drop] at hk
    obtain ⟨ad, ha, hcell⟩ := h.2 (m + k) (by omega)
    rw [if_neg (by omega)]
    refine ⟨ad.add m, by rw [ha]; rfl, ?_⟩
    rw [add_add, hcell]
    simp
  · subst hg
    by_cases h : c = m
    · rw [if_pos h]; exact ⟨_, rfl, rfl⟩
    · rw [if_neg h]; exact ⟨_, rfl, by unfold Addr.add; split <;> rfl⟩
/-- 's[:i]' -/
theorem slice_to {P : Program} (t e : TypeId) {inf : TypeInfo} (ht : P.underlying t = some (.slice e)) (hi : P.info? e = some inf) (hsz : inf.size = 1) (A : Option Addr) (n c : Nat) (i : Int) (h0 : 0 ≤ i) (hm : i ≤ n) (hc : n ≤ c) :
    ∀ W : World, (Instr.slice t (.slice A n c) none (some (.int .i64 i)) none).run P W = .ok (.slice A i.toNat c) W := by
  intro W
  have hel : P.elem t = e := by simp [Program.elem, ht]
  have hu : P.underlying t = some (.slice (P.elem t)) := by rw [hel]; exact ht
  have ha : (A.map fun x => x.add 0) = A := by cases A <;> simp [Addr.add]
  rw [run_slice_h W t A n c hu .i64 i h0 (by omega), hel]
  simp [sizeOf, typeInfo, hi, hsz, sliced, Result.andThen, ha]
theorem RdI.take {w : World} {A : Option Addr} {l : List Int} (h : RdI w A l) (n : Nat) : RdI w A (l.take n) :=
  ⟨by have := h.1; simp; omega, fun k hk => by
    have hk' : k < l.length := by simp at hk; omega
    obtain ⟨ad, ha, hc⟩ := h.2 k hk'
    exact ⟨ad, ha, by simpa using hc⟩⟩
/-! ### the blocks of S alone may have been written -/
structure Fr (S : Nat → Prop) (w w' : World) : Prop where
  os : w'.os = w.os
  tape : w'.tape = w.tape
  output : w'.output = w.output
  size : w.heap.size ≤ w'.heap.size
  block : ∀ k, k < w.heap.size → ¬ S k → w'.heap[k]? = w.heap[k]?
theorem Fr.rf (S : Nat → Prop) (w : World) : Fr S w w := ⟨rfl, rfl, rfl, Nat.le_refl _, fun _ _ _ => rfl⟩
theorem Fr.trans {S : Nat → Prop} {a b c : World} (h : Fr S a b) (k : Fr S b c) : Fr S a c :=
  ⟨k.os.trans h.os, k.tape.trans h.tape, k.output.trans h.output, Nat.le_trans h.size k.size, fun i hi hs => (k.block i (Nat.lt_of_lt_of_le hi h.size) hs).trans (h.block i hi hs)⟩
/-- The second step writes what the first may, or what is new. -/
theorem Fr.then {S S' : Nat → Prop} {a b c : World} (h : Fr S a b) (k : Fr S' b c) (hs : ∀ i, S' i → S i ∨ a.heap.size ≤ i) : Fr S a c :=
  ⟨k.os.trans h.os, k.tape.trans h.tape, k.output.trans h.output, Nat.le_trans h.size k.size, fun i hi hn => (k.block i (Nat.lt_of_lt_of_le hi h.size) (fun h' => (hs i h').elim hn (fun h2 => by omega))).trans (h.block i hi hn)⟩
theorem Fr.mono {S S' : Nat → Prop} {a b : World} (h : Fr S a b) (hs : ∀ i, S i → S' i) : Fr S' a b := ⟨h.os, h.tape, h.output, h.size, fun i hi hn => h.block i hi (fun h' => hn (hs i h'))⟩
theorem Fr.ofExt {S : Nat → Prop} {a b : World} (h : Ext a b) : Fr S a b := ⟨h.os, h.tape, h.output, h.size, fun i hi _ => h.block i hi⟩
theorem Fr.ext {S : Nat → Prop} {a b : World} (h : Fr S a b) (hs : ∀ i, S i → a.heap.size ≤ i) : Ext a b := ⟨h.os, h.tape, h.output, h.size, fun i hi => h.block i hi (fun h' => by have := hs i h'; omega)⟩
theorem Fr.grown {S : Nat → Prop} {a b : World} {row : Option Nat} (h : a.grownBy b row) (hs : ∀ i, row = some i → S i) : Fr S a b :=
  ⟨h.os, h.tape, h.output, h.size, fun i hi hn => h.block i hi (fun e => hn (hs i e.symm))⟩
theorem Fr.set {S : Nat → Prop} (w : World) {p : Addr} (u : Value) (hp : S p.block) : Fr S w (w.setCell p u) :=
  ⟨rfl, rfl, rfl, by simp [World.setCell], fun k _ hn => Below.heap_setCell _ _ _ _ (fun e => hn (e ▸ hp))⟩
theorem Fr.cell {S : Nat → Prop} {a b : World} (h : Fr S a b) {p : Addr} {v : Value} (hc : a.cell? p = some v) (hn : ¬ S p.block) : b.cell? p = some v :=
  (World.cell?_of_block (h.block _ (World.block_lt_of_cell? a p hc) hn)).trans hc
theorem Fr.blk {S : Nat → Prop} {a b : World} (h : Fr S a b) {k : Nat} {o : Obj} (hc : a.heap[k]? = some o) (hn : ¬ S k) : b.heap[k]? = some o := (h.block k (Array.getElem?_eq_some_iff.1 hc).1 hn).trans hc

theorem add_block (a : Addr) (k : Nat) : (a.add k).block = a.block := by unfold Addr.add; split <;> rfl
theorem RdI.fr {S : Nat → Prop} {w w' : World} {A : Option Addr} {l : List Int} (h : RdI w A l) (hf : Fr S w w') (hn : ∀ ad, A = some ad → ¬ S ad.block) : RdI w' A l :=
  ⟨h.1, fun k hk => let ⟨ad, ha, hc⟩ := h.2 k hk; ⟨ad, ha, hf.cell hc (by rw [add_block]; exact hn ad ha)⟩⟩
theorem RdI.dN {w : World} {A : Option Addr} {l : List Int} (h : RdI w A l) (n : Nat) : RdI (w.drewN n) A l := h.ext ((Ext.rf w).dN n)
/-! ### rows that are owned -/
def nums (l : List Int) : List Value := l.map (Value.int .i64)
theorem nums_len (l : List Int) : (nums l).length = l.length := by simp [nums]
theorem nums_one (l : List Int) : ∀ u ∈ nums l, u.oneCell' = true := by
  intro u hu
  obtain ⟨x, _, rfl⟩ := List.mem_map.1 hu
  rfl
theorem nums_app (l r : List Int) : nums (l ++ r) = nums l ++ nums r := by simp [nums]
/-- An owned row of ints. -/
def IR (w : World) (v : Value) (l : List Int) : Prop := w.ownsRow 0 3 1 v l.length (nums l)

theorem own_keep {w w' : World} {base : Nat} {e : TypeId} {size n : Nat} {v : Value} {xs : List Value} (h : w.ownsRow base e size v n xs) (hm : ∀ k, v.ownBlock = some k → w'.heap[k]? = w.heap[k]?) : w'.ownsRow base e size v n xs := by
  obtain ⟨h1, h2⟩ := h
  refine ⟨h1, ?_⟩
  rcases h2 with h2 | ⟨g, cap, cur, rfl, hg, hh, r⟩
  · exact .inl h2
  · exact .inr ⟨g, cap, cur, rfl, hg, (hm g rfl).trans hh, r⟩
theorem own_base {w : World} {base base' : Nat} {e : TypeId} {size n : Nat} {v : Value} {xs : List Value} (h : w.ownsRow base e size v n xs) (hb : ∀ k, v.ownBlock = some k → base' ≤ k) : w.ownsRow base' e size v n xs := by
  obtain ⟨h1, h2⟩ := h
  refine ⟨h1, ?_⟩
  rcases h2 with h2 | ⟨g, cap, cur, rfl, hg, r⟩
  · exact .inl h2
  · exact .inr ⟨g, cap, cur, rfl, hb g rfl, r⟩
theorem own_zero {w : World} {base : Nat} {e : TypeId} {size n : Nat} {v : Value} {xs : List Value} (h : w.ownsRow base e size v n xs) : w.ownsRow 0 e size v n xs := own_base h (fun _ _ => Nat.zero_le _)
theorem own_len {w : World} {base : Nat} {e : TypeId} {size n : Nat} {v : Value} {xs : List Value} (h : w.ownsRow base e size v n xs) : n ≤ 9223372036854775807 := by
  rcases h.2 with ⟨_, h⟩ | ⟨g, cap, cur, _, _, _, h1, h2, _⟩
  · omega
  · simp only [maxLen] at h2; omega
theorem own_form {w : World} {base : Nat} {e : TypeId} {size n : Nat} {v : Value} {xs : List Value} (h : w.ownsRow base e size v n xs) : ∃ A c, v = .slice A n c ∧ n ≤ c ∧ (∀ ad, A = some ad → ad.off = 0 ∧ ad.spot = none ∧ v.ownBlock = some ad.block) := by
  rcases h.2 with ⟨rfl, rfl⟩ | ⟨g, cap, cur, rfl, _, _, h1, _⟩
  · exact ⟨none, 0, rfl, Nat.le_refl _, by simp⟩
  · exact ⟨_, cap, rfl, h1, by rintro ad ⟨⟩; exact ⟨rfl, rfl, rfl⟩⟩
/-- A row's block bears its type. -/
theorem own_typed {w : World} {base : Nat} {e : TypeId} {size n : Nat} {v : Value} {xs : List Value} (h : w.ownsRow base e size v n xs) {k : Nat} (hk : v.ownBlock = some k) : ∃ cells, w.heap[k]? = some (.cells cells e (0, 0)) := by
  rcases h.2 with ⟨rfl, _⟩ | ⟨g, cap, cur, rfl, hg, hh, r⟩
  · simp [Value.ownBlock] at hk
  · have : g = k := by simpa [Value.ownBlock] using hk
    subst this
    exact ⟨cur, hh⟩
theorem own_lt {w : World} {base : Nat} {e : TypeId} {size n : Nat} {v : Value} {xs : List Value} (h : w.ownsRow base e size v n xs) {k : Nat} (hk : v.ownBlock = some k) : k < w.heap.size := (h.lt k hk).2
theorem own_ne_type {w : World} {base base' : Nat} {e e' : TypeId} {size size' n n' : Nat} {v v' : Value} {xs xs' : List Value} (h : w.ownsRow base e size v n xs) (h' : w.ownsRow base' e' size' v' n' xs') (hne : e ≠ e') {k : Nat} (hk : v.ownBlock = some k) : v'.ownBlock ≠ some k := by
  intro hk'
  obtain ⟨c, hc⟩ := own_typed h hk
  obtain ⟨c', hc'⟩ := own_typed h' hk'
  rw [hc] at hc'
  injection hc' with hc'
  injection hc' with _ ht
  exact hne ht
theorem own_ne_blk {w : World} {base : Nat} {e e' : TypeId} {size n : Nat} {v : Value} {xs : List Value} (h : w.ownsRow base e size v n xs) {g : Nat} {cs : Array Value} {fr : Nat × Nat} (hb : w.heap[g]? = some (.cells cs e' fr)) (hne : e ≠ e') : v.ownBlock ≠ some g := by
  intro hk
  obtain ⟨c, hc⟩ := own_typed h hk
  rw [hc] at hb
  injection hb with hb
  injection hb with _ ht
  exact hne ht

theorem own_take {w : World} {base : Nat} {e : TypeId} {size n c : Nat} {A : Option Addr} {xs : List Value} (h : w.ownsRow base e size (.slice A n c) n xs) (m : Nat) (hm : m ≤ n) : w.ownsRow base e size (.slice A m c) m (xs.take (m * size)) := by
  have hms : m * size ≤ n * size := Nat.mul_le_mul_right _ hm
  refine ⟨by rw [List.length_take, h.1]; omega, ?_⟩
  rcases h.2 with ⟨hv, h0⟩ | ⟨g, cap, cur, hv, hg, hh, h1, h2, h3, h4⟩
  · injection hv with h5 h6 h7
    subst h5 h7
    have : m = 0 := by omega
    subst this
    exact .inl ⟨rfl, rfl⟩
  · injection hv with h5 h6 h7
    subst h5 h7
    refine .inr ⟨g, c, cur, rfl, hg, hh, by omega, h2, h3, ?_⟩
    rw [← h4, List.take_take]
    congr 1
    omega
/-- append to an owned row, at least one element: where the new row lies; the old header owns what it owned. -/
theorem run_app {P : Program} (w : World) (t ty e : TypeId) (i : TypeInfo) (z : Value) (size bytes : Nat) (ht : P.underlying t = some (.slice e)) (hi : P.info? e = some i) (hz : i.zero = some z)
    (hsize : i.size = size) (hby : i.bytes = bytes) (hzs : z.cells.size = size) (hsz : 0 < size)
    (v : Value) (n : Nat) (xs : List Value) (hown : w.ownsRow 0 e size v n xs)
    (ad : Addr) (m c : Nat) (news : List Value) (hl : news.length = m * size) (hnews : ∀ j u, news[j]? = some u → w.cell? (ad.add j) = some u) (h1 : ∀ u ∈ news, u.oneCell' = true)
    (hm : 0 < m) (h63 : n + m ≤ maxLen) (hbytes : (n + m) * bytes ≤ 140737488355328) :
    ∃ g cap w', (Builtin.append_ #[t, t] ty #[v, .slice (some ad) m c]).run P w = .ok (.slice (some ⟨g, 0, none⟩) (n + m) cap) w' ∧
      w'.ownsRow 0 e size (.slice (some ⟨g, 0, none⟩) (n + m) cap) (n + m) (xs ++ news) ∧ w.grownBy w' v.ownBlock ∧ (v.ownBlock = some g ∨ w.heap.size ≤ g) ∧ g < w'.heap.size ∧ w'.ownsRow 0 e size v n xs := by
  rcases hown.2 with ⟨rfl, rfl⟩ | ⟨g, cap, cur, rfl, hg, hh, h2, h3, h4, h5⟩
  · obtain ⟨v', w', hr, k2, k3, _, k5⟩ := run_append_own_at (P := P) w 0 t ty e i z size bytes ht hi hz hsize hby hzs hsz (.slice none 0 0) 0 xs hown ad m c news hl hnews h1 h63 hbytes (Nat.zero_le _)
    obtain ⟨g, cap, rfl, _, hlt⟩ := k2.form (by omega)
    refine ⟨g, cap, w', hr, k2, k3, ?_, hlt, ⟨hown.1, .inl ⟨rfl, rfl⟩⟩⟩
    rcases k5 with k5 | k5
    · exact absurd k5 (by simp [Value.ownBlock])
    · right
      have : g = w.heap.size := by simpa [Value.ownBlock] using k5
      omega
  · by_cases hr : n + m ≤ cap
    · obtain ⟨w', k1, k2, k3⟩ := run_append_fits (P := P) w 0 t ty e i size ht hi hsize g n cap xs hown ad m c news hl hnews h1 hr
      refine ⟨g, cap, w', k1, k2, k3, .inl rfl, ?_, ?_⟩
      · obtain ⟨_, _, hv, _, hlt⟩ := k2.form (by omega)
        injection hv with hv
        injection hv with hv
        injection hv with hv
        omega
      · have := own_take k2 n (Nat.le_add_right _ _)
        have e1 : (xs ++ news).take (n * size) = xs := by rw [← hown.1]; exact List.take_left
        rw [e1] at this
        exact this
    · have hcell : ∀ j u, xs[j]? = some u → w.cell? ((⟨g, 0, none⟩ : Addr).add j) = some u := hown.cells rfl
      obtain ⟨v', w', k1, k2, k3⟩ := run_append_arg_grows (P := P) w t ty e i z size bytes ht hi hz hsize hby hzs hsz ⟨g, 0, none⟩ n cap xs hown.1 hcell ad m c news hl hnews (by omega) h63 hbytes
      obtain ⟨g', cap', rfl, hb, hlt⟩ := k2.form (by omega)
      refine ⟨g', cap', w', k1, own_zero k2, ⟨k3.os, k3.tape, k3.output, k3.size, fun k hk _ => k3.block k hk (by simp)⟩, .inr hb, hlt, own_keep hown (fun k hk => k3.block k (own_lt hown hk) (by simp))⟩

theorem IR.rd {w : World} {v : Value} {l : List Int} (h : IR w v l) (hl : l.length ≤ 1000000000000) : ∃ A c, v = .slice A l.length c ∧ l.length ≤ c ∧ RdI w A l := by
  obtain ⟨A, c, rfl, hc, ha⟩ := own_form h
  refine ⟨A, c, rfl, hc, hl, fun k hk => ?_⟩
  rcases h.2 with ⟨hv, h0⟩ | ⟨g, cap, cur, hv, _⟩
  · omega
  · injection hv with hv1 hv2 hv3
    subst hv1
    refine ⟨_, rfl, ?_⟩
    have := World.ownsRow.cells h (g := g) rfl k (.int .i64 l[k]) (by simp [nums, hk])
    exact this
theorem IR.take {w : World} {A : Option Addr} {c : Nat} {l : List Int} (h : IR w (.slice A l.length c) l) (n : Nat) (hn : n ≤ l.length) (_hc : l.length ≤ c) (hA : A = none → c = 0) : IR w (.slice A n c) (l.take n) := by
  have hl : (l.take n).length = n := by simp; omega
  unfold IR
  rw [hl]
  refine ⟨by simp [nums]; omega, ?_⟩
  rcases h.2 with ⟨hv, h0⟩ | ⟨g, cap, cur, hv, hg, hh, h1, h2, h3, h4⟩
  · injection hv with h5 h6 h7
    subst h5 h7
    have : n = 0 := by omega
    subst this
    exact .inl ⟨rfl, rfl⟩
  · injection hv with h5 h6 h7
    subst h5 h7
    refine .inr ⟨g, c, cur, rfl, hg, hh, by omega, h2, h3, ?_⟩
    have : cur.toList.take (n * 1) = (cur.toList.take (l.length * 1)).take n := by rw [List.take_take]; congr 1; omega
    rw [this, h4]
    simp [nums]
theorem IR.nil (w : World) : IR w (.slice none 0 0) [] := World.ownsRow_nil _ _ _ _
theorem IR.keep {w w' : World} {v : Value} {l : List Int} (h : IR w v l) (hm : ∀ k, v.ownBlock = some k → w'.heap[k]? = w.heap[k]?) : IR w' v l := own_keep h hm
theorem IR.fr {S : Nat → Prop} {w w' : World} {v : Value} {l : List Int} (h : IR w v l) (hf : Fr S w w') (hn : ∀ k, v.ownBlock = some k → ¬ S k) : IR w' v l := h.keep (fun k hk => hf.block k (own_lt h hk) (hn k hk))
theorem IR.ext {w w' : World} {v : Value} {l : List Int} (h : IR w v l) (hf : Ext w w') : IR w' v l := h.keep (fun k hk => hf.block k (own_lt h hk))

/-- A row lies where it lay, or anew. -/
def FreshOr (v v' : Value) (w : World) : Prop := v'.ownBlock = v.ownBlock ∨ ∃ b, v'.ownBlock = some b ∧ w.heap.size ≤ b
theorem FreshOr.le {v v' : Value} {w w0 : World} (h : FreshOr v v' w) (hs : w0.heap.size ≤ w.heap.size) : FreshOr v v' w0 := h.imp id (fun ⟨b, h1, h2⟩ => ⟨b, h1, Nat.le_trans hs h2⟩)
theorem FreshOr.ne {v v' : Value} {w : World} (h : FreshOr v v' w) {k : Nat} (hk : k < w.heap.size) (hn : v.ownBlock ≠ some k) : v'.ownBlock ≠ some k := by
  rcases h with h | ⟨b, h1, h2⟩
  · rw [h]; exact hn
  · rw [h1]; intro e; injection e with e; omega
theorem FreshOr.rf (v : Value) (w : World) : FreshOr v v w := .inl rfl
theorem FreshOr.trans {a b c : Value} {w w' : World} (h : FreshOr a b w) (k : FreshOr b c w') (hs : w.heap.size ≤ w'.heap.size) : FreshOr a c w := by
  rcases k with k | ⟨x, k1, k2⟩
  · rcases h with h | ⟨x, h1, h2⟩
    · exact .inl (k.trans h)
    · exact .inr ⟨x, k.trans h1, h2⟩
  · exact .inr ⟨x, k1, Nat.le_trans hs k2⟩
/-! ### rows of nodes -/
def ncs (l : List (Nd × Value)) : List Value := l.flatMap (fun p => [.int .i64 p.1.kind, .int .i64 p.1.val, p.2])
theorem ncs_nil : ncs [] = [] := rfl
theorem ncs_cons (p : Nd × Value) (l : List (Nd × Value)) : ncs (p :: l) = .int .i64 p.1.kind :: .int .i64 p.1.val :: p.2 :: ncs l := rfl
theorem ncs_app (l r : List (Nd × Value)) : ncs (l ++ r) = ncs l ++ ncs r := by simp [ncs]
theorem ncs_len (l : List (Nd × Value)) : (ncs l).length = l.length * 3 := by
  induction l with
  | nil => rfl
  | cons p l ih => rw [ncs_cons]; simp only [List.length_cons, ih]; omega
theorem ncs_at (l : List (Nd × Value)) : ∀ (k : Nat) (h : k < l.length), (ncs l)[k * 3]? = some (.int .i64 l[k].1.kind) ∧ (ncs l)[k * 3 + 1]? = some (.int .i64 l[k].1.val) ∧ (ncs l)[k * 3 + 2]? = some l[k].2 := by
  induction l with
  | nil => intro k h; simp at h
  | cons p l ih =>
    intro k h
    cases k with
    | zero => simp [ncs_cons]
    | succ k =>
      have hh := ih k (by simpa using h)
      rw [ncs_cons]
      have e0 : (k + 1) * 3 = k * 3 + 3 := by omega
      rw [e0]
      simpa using hh
theorem ncs_set (l : List (Nd × Value)) : ∀ (k : Nat) (h : k < l.length) (n : Nd) (v : Value), n.kind = l[k].1.kind → n.val = l[k].1.val → ncs (l.set k (n, v)) = (ncs l).set (k * 3 + 2) v := by
  induction l with
  | nil => intro k h; simp at h
  | cons p l ih =>
    intro k h n v h1 h2
    cases k with
    | zero => simp at h1 h2; simp [ncs_cons, h1, h2]
    | succ k =>
      have hh := ih k (by simpa using h) n v (by simpa using h1) (by simpa using h2)
      rw [List.set_cons_succ, ncs_cons, ncs_cons, hh]
      have e0 : (k + 1) * 3 + 2 = k * 3 + 2 + 1 + 1 + 1 := by omega
      rw [e0]
      rfl
/-- A slice of nodes that is read. -/
def RdN (w : World) (A : Option Addr) (l : List Nd) : Prop :=
  l.length ≤ 1000000000000 ∧ ∀ k (h : k < l.length), ∃ ad K c, A = some ad ∧ w.cell? (ad.add (k * 3)) = some (.int .i64 l[k].kind) ∧
    w.cell? ⟨(ad.add (k * 3)).block, (ad.add (k * 3)).off + 1, none⟩ = some (.int .i64 l[k].val) ∧
    w.cell? ⟨(ad.add (k * 3)).block, (ad.add (k * 3)).off + 2, none⟩ = some (.slice K l[k].kids.length c) ∧ l[k].kids.length ≤ c ∧ RdI w K l[k].kids
theorem RdN.ext {w w' : World} {A : Option Addr} {l : List Nd} (h : RdN w A l) (e : Ext w w') : RdN w' A l :=
  ⟨h.1, fun k hk => let ⟨ad, K, c, ha, h1, h2, h3, h4, h5⟩ := h.2 k hk; ⟨ad, K, c, ha, e.cellOf h1, e.cellOf h2, e.cellOf h3, h4, h5.ext e⟩⟩
/-- An owned row of nodes, each with an owned row of kids. -/
def NR (w : World) (v : Value) (l : List (Nd × Value)) : Prop := w.ownsRow 0 73 3 v l.length (ncs l) ∧ ∀ p ∈ l, IR w p.2 p.1.kids ∧ p.1.kids.length ≤ 1000000000000
theorem NR.keep {w w' : World} {v : Value} {l : List (Nd × Value)} (h : NR w v l) (hm : ∀ k, (v.ownBlock = some k ∨ ∃ p ∈ l, p.2.ownBlock = some k) → w'.heap[k]? = w.heap[k]?) : NR w' v l :=
  ⟨own_keep h.1 (fun k hk => hm k (.inl hk)), fun p hp => ⟨(h.2 p hp).1.keep (fun k hk => hm k (.inr ⟨p, hp, hk⟩)), (h.2 p hp).2⟩⟩
theorem NR.fr {S : Nat → Prop} {w w' : World} {v : Value} {l : List (Nd × Value)} (h : NR w v l) (hf : Fr S w w') (h1 : ∀ k, v.ownBlock = some k → ¬ S k) (h2 : ∀ p ∈ l, ∀ k, p.2.ownBlock = some k → ¬ S k) : NR w' v l :=
  ⟨own_keep h.1 (fun k hk => hf.block k (own_lt h.1 hk) (h1 k hk)), fun p hp => ⟨(h.2 p hp).1.fr hf (h2 p hp), (h.2 p hp).2⟩⟩
theorem NR.nil (w : World) : NR w (.slice none 0 0) [] := ⟨World.ownsRow_nil _ _ _ _, by simp⟩
theorem add_at (g k j : Nat) : ((⟨g, 0, none⟩ : Addr).add k) = ⟨g, k, none⟩ ∧ (⟨((⟨g, 0, none⟩ : Addr).add k).block, ((⟨g, 0, none⟩ : Addr).add k).off + j, none⟩ : Addr) = ⟨g, k + j, none⟩ := by
  unfold Addr.add
  by_cases h : k = 0 <;> simp [h]
theorem NR.rd {w : World} {v : Value} {l : List (Nd × Value)} (h : NR w v l) (hl : l.length ≤ 1000000000000) : ∃ A c, v = .slice A l.length c ∧ l.length ≤ c ∧ RdN w A (l.map Prod.fst) := by
  obtain ⟨A, c, rfl, hc, ha⟩ := own_form h.1
  refine ⟨A, c, rfl, hc, by simpa using hl, fun k hk => ?_⟩
  have hk' : k < l.length := by simpa using hk
  rcases h.1.2 with ⟨hv, h0⟩ | ⟨g, cap, cur, hv, _⟩
  · omega
  · injection hv with hv1 hv2 hv3
    subst hv1
    obtain ⟨hI, hlI⟩ := h.2 l[k] (List.getElem_mem hk')
    obtain ⟨K, cK, hK, hcK, hr⟩ := hI.rd hlI
    obtain ⟨c0, c1, c2⟩ := ncs_at l k hk'
    have cc := fun j u hu => World.ownsRow.cells h.1 (g := g) rfl j u hu
    have q0 := cc _ _ c0
    have q1 := cc _ _ c1
    have q2 := cc _ _ c2
    refine ⟨_, K, cK, rfl, ?_, ?_, ?_, ?_, ?_⟩
    · simpa using q0
    · rw [(add_at g (k * 3) 1).2, ← (add_at g (k * 3 + 1) 0).1]; simpa using q1
    · rw [(add_at g (k * 3) 2).2, ← (add_at g (k * 3 + 2) 0).1]; rw [hK] at q2; simpa using q2
    · simpa using hcK
    · simpa using hr
end Go.Proofs.Ytgenllcfpjgklaa.W
