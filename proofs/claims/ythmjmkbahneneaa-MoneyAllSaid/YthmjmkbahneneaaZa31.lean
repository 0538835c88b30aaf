/- MonBs, struck of what this claim does not name (wip/tools/pack2.py). -/
import Derived.Test.YthmjmkbahneneaaZa30
section
namespace Go.Proofs.Ythmjmkbahneneaa.PMon
open Go.RowKit Go.Proofs.YthmjmkbahneneaaW.PrintWords Go.Proofs.YthmjmkbahneneaaW.PrintLast Go.Proofs.YthmjmkbahneneaaW.PrintMore
set_option linter.unusedVariables false

structure Bx (w w' : World) (l : List (Nat × Array Value × TypeId)) : Prop where
  bel : Below w.heap.size w w'
  box : ∀ p ∈ l, w.heap.size ≤ p.1 ∧ w'.heap[p.1]? = some (.cells p.2.1 p.2.2 (0, 0))
namespace Bx
variable {w w' w2 : World} {l : List (Nat × Array Value × TypeId)}
theorem refl (w : World) : Bx w w [] := ⟨Below.refl _ _, fun p hp => absurd hp (by simp)⟩
theorem get (h : Bx w w' l) (p : Nat × Array Value × TypeId) (hp : p ∈ l) : w'.heap[p.1]? = some (.cells p.2.1 p.2.2 (0, 0)) := (h.2 p hp).2
theorem old (h : Bx w w' l) (p : Nat × Array Value × TypeId) (hp : p ∈ l) : w.heap.size ≤ p.1 := (h.2 p hp).1
theorem sub {l2 : List (Nat × Array Value × TypeId)} (h : Bx w w' l) (hs : ∀ p ∈ l2, p ∈ l) : Bx w w' l2 := ⟨h.1, fun p hp => h.2 p (hs p hp)⟩
theorem below (h : Bx w w' l) (hb : Below w'.heap.size w' w2) : Bx w w2 l := ⟨below_then h.1 h.1.size hb, fun p hp => ⟨(h.2 p hp).1, (hb.block _ (blk_lt (h.2 p hp).2)).trans (h.2 p hp).2⟩⟩
theorem drew (h : Bx w w' l) : Bx w w'.drew l := ⟨h.1.drew, h.2⟩
theorem drewN (h : Bx w w' l) (n : Nat) : Bx w (w'.drewN n) l := ⟨pw_below_drewN h.1 n, h.2⟩
theorem alloc (h : Bx w w' l) (cs : Array Value) (ty : TypeId) : Bx w (w'.alloc (.cells cs ty)) (l ++ [(w'.heap.size, cs, ty)]) := by
  refine ⟨h.1.alloc h.1.size _, fun p hp => ?_⟩
  rcases List.mem_append.1 hp with hp | hp
  · exact ⟨(h.2 p hp).1, (Below.heap_alloc _ _ _ (blk_lt (h.2 p hp).2)).trans (h.2 p hp).2⟩
  · obtain rfl := List.mem_singleton.1 hp
    exact ⟨h.1.size, World.alloc_heap_new _ _⟩
theorem allocs1 (w : World) (a : Array Value) (t : TypeId) : Bx w (w.alloc (.cells a t)) [(w.heap.size, a, t)] := (refl w).alloc a t
theorem allocs2 (w : World) (a b : Array Value) (t u : TypeId) : Bx w ((w.alloc (.cells a t)).alloc (.cells b u)) [(w.heap.size, a, t), (w.heap.size + 1, b, u)] := by
  have h := ((refl w).alloc a t).alloc b u
  rw [World.size_alloc] at h
  exact h
theorem allocs3 (w : World) (a b c : Array Value) (t u v : TypeId) : Bx w (((w.alloc (.cells a t)).alloc (.cells b u)).alloc (.cells c v)) [(w.heap.size, a, t), (w.heap.size + 1, b, u), (w.heap.size + 1 + 1, c, v)] := by
  have h := (((refl w).alloc a t).alloc b u).alloc c v
  simp only [World.size_alloc] at h
  exact h
theorem fresh (h : Bx w w' l) : w.heap.size ≤ w'.heap.size ∧ ∀ p ∈ l, p.1 ≠ w'.heap.size := ⟨h.1.size, fun p hp e => by have := blk_lt (h.2 p hp).2; omega⟩
theorem set {cs : Array Value} {g : Nat} {ty : TypeId} {l2 : List (Nat × Array Value × TypeId)} (h : Bx w w' ((g, cs, ty) :: l2)) (hn : ∀ p ∈ l2, p.1 ≠ g) (j : Nat) (v : Value) :
    Bx w (w'.setCell ⟨g, j, none⟩ v) ((g, cs.setIfInBounds j v, ty) :: l2) := by
  have h0 := h.2 (g, cs, ty) List.mem_cons_self
  refine ⟨h.1.setCell h0.1 _, fun p hp => ?_⟩
  rcases List.mem_cons.1 hp with rfl | hp
  · exact ⟨h0.1, blk_set h0.2 j v⟩
  · have hk : p.1 ≠ g := hn p hp
    exact ⟨(h.2 p (List.mem_cons_of_mem _ hp)).1, (Below.heap_setCell _ _ _ _ hk).trans (h.2 p (List.mem_cons_of_mem _ hp)).2⟩
theorem cons (h : Bx w w' l) {g : Nat} {cs : Array Value} {ty : TypeId} (hg : w.heap.size ≤ g) (hb : w'.heap[g]? = some (.cells cs ty (0, 0))) : Bx w w' ((g, cs, ty) :: l) := ⟨h.1, fun p hp => by
  rcases List.mem_cons.1 hp with rfl | hp
  · exact ⟨hg, hb⟩
  · exact h.2 p hp⟩
end Bx
end Go.Proofs.Ythmjmkbahneneaa.PMon
end
