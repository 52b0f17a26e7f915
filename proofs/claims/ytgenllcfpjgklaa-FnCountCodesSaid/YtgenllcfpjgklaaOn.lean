/- Rows of nodes that are owned. -/
import Derived.Test.YtgenllcfpjgklaaCv
set_option linter.unusedVariables false
set_option linter.unusedSimpArgs false
namespace Go.Proofs.Ytgenllcfpjgklaa.C
open Go.RowKit Go.Proofs.Ytgenllcfpjgklaa.W Go.Proofs.Ytgenllcfpjgklaa.P

def FG (vN : Value) (l : List (Nd × Value)) (k : Nat) : Prop := vN.ownBlock = some k ∨ ∃ p ∈ l, p.2.ownBlock = some k
/-- Nodes; their rows lie in blocks of B. -/
structure NW (B : Nat → Prop) (w : World) (l : List (Nd × Value)) (vN : Value) (ns : List Nd) : Prop where
  nr : NR w vN l
  ns : l.map Prod.fst = ns
  lo : ∀ k, FG vN l k → B k
  kk : l.Pairwise (fun p q => Apart p.2 q.2)
theorem NW.lt {B w l vN ns} (h : NW B w l vN ns) (k : Nat) (hk : FG vN l k) : k < w.heap.size := by
  rcases hk with hk | ⟨p, hp, hk⟩
  · exact own_lt h.nr.1 hk
  · exact own_lt (h.nr.2 p hp).1 hk
theorem NW.keep {B w w' l vN ns} (h : NW B w l vN ns) (hk : ∀ k, FG vN l k → w'.heap[k]? = w.heap[k]?) : NW B w' l vN ns := ⟨h.nr.keep hk, h.ns, h.lo, h.kk⟩
theorem NW.ext {B w w' l vN ns} (h : NW B w l vN ns) (e : Ext w w') : NW B w' l vN ns := h.keep (fun k hk => e.block k (h.lt k hk))
theorem NW.fr {B S : Nat → Prop} {w w' l vN ns} (h : NW B w l vN ns) (e : Fr S w w') (hn : ∀ k, FG vN l k → ¬ S k) : NW B w' l vN ns := h.keep (fun k hk => e.block k (h.lt k hk) (hn k hk))
theorem NW.base {B B' : Nat → Prop} {w l vN ns} (h : NW B w l vN ns) (h1 : ∀ k, k < w.heap.size → B k → B' k) : NW B' w l vN ns := ⟨h.nr, h.ns, fun k hk => h1 k (h.lt k hk) (h.lo k hk), h.kk⟩
/-- No row of the nodes is a block of graphs. -/
theorem NW.nb {B w l vN ns} (h : NW B w l vN ns) {g : Nat} {a b : Value} (hb : GB w g a b) : ¬ FG vN l g := by
  rintro (e | ⟨p, hp, e⟩)
  · exact own_ne_blk h.nr.1 hb (by decide) e
  · exact own_ne_blk (h.nr.2 p hp).1 hb (by decide) e
theorem NW.nil (B : Nat → Prop) (w : World) : NW B w [] (.slice none 0 0) [] := ⟨NR.nil _, rfl, fun k hk => by
  rcases hk with e | ⟨p, hp, _⟩
  · simp [Value.ownBlock] at e
  · simp at hp, List.Pairwise.nil⟩
theorem NW.al1 {B w l vN ns} (h : NW B w l vN ns) (o : Obj) : NW (fun k => B k ∧ k ≠ w.heap.size) (w.alloc o) l vN ns := by
  have h1 := h.ext ((Ext.rf w).al o)
  exact ⟨h1.nr, h1.ns, fun k hk => ⟨h.lo k hk, by have := h.lt k hk; omega⟩, h1.kk⟩
theorem NW.rd {B w l A n c ns} (h : NW B w l (.slice A n c) ns) (hl : ns.length ≤ 1000000) : RdN w A ns := by
  have hln : l.length = ns.length := by rw [← h.ns, List.length_map]
  obtain ⟨A', c', hv, _, hr⟩ := h.nr.rd (by omega)
  injection hv with hv
  rw [hv, ← h.ns]; exact hr
theorem own_fz {w : World} {base : Nat} {e : TypeId} {size n n' g c : Nat} {xs : List Value} (h : w.ownsRow base e size (.slice (some ⟨g, 0, none⟩) n' c) n xs) (j : Nat) : w.frozen? ⟨g, j, none⟩ = false := by
  rcases h.2 with ⟨hv, _⟩ | ⟨g', cap, cur, hv, _, hh, _⟩
  · exact nomatch hv
  · injection hv with hv
    injection hv with hv
    injection hv with hv
    subst hv
    simp [World.frozen?, hh]
end Go.Proofs.Ytgenllcfpjgklaa.C
