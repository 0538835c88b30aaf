/- MoneyAdds, walked. -/
import Derived.Test.YthmjmkbahneneaaMonQ
import Derived.Test.YthmjmkbahneneaaMonK
import Derived.Deep.DeepCutAuto
namespace Go.Proofs.Ythmjmkbahneneaa.PMon
open Go.RowKit Go.Proofs.YthmjmkbahneneaaW.PrintWords Go.Proofs.YthmjmkbahneneaaW.PrintLast Go.Proofs.YthmjmkbahneneaaW.PrintMore
set_option linter.unusedVariables false
set_option linter.unusedSimpArgs false

/-- Boxes of the call's own. -/
structure Bs (w w' : World) (l : List (Nat × Array Value × TypeId)) : Prop where
  bel : Below w.heap.size w w'
  box : ∀ p ∈ l, w'.heap[p.1]? = some (.cells p.2.1 p.2.2 (0, 0))
namespace Bs
variable {w w' w2 : World} {l : List (Nat × Array Value × TypeId)}
theorem get (h : Bs w w' l) (p : Nat × Array Value × TypeId) (hp : p ∈ l) : w'.heap[p.1]? = some (.cells p.2.1 p.2.2 (0, 0)) := h.2 p hp
theorem sub {l2 : List (Nat × Array Value × TypeId)} (h : Bs w w' l) (hs : ∀ p ∈ l2, p ∈ l) : Bs w w' l2 := ⟨h.1, fun p hp => h.2 p (hs p hp)⟩
theorem below (h : Bs w w' l) (hb : Below w'.heap.size w' w2) : Bs w w2 l := ⟨below_then h.1 h.1.size hb, fun p hp => (hb.block _ (blk_lt (h.2 p hp))).trans (h.2 p hp)⟩
theorem below' (hb : Below w'.heap.size w' w2) (h : Bs w w' l) : Bs w w2 l := h.below hb
theorem drew (h : Bs w w' l) : Bs w w'.drew l := ⟨h.1.drew, h.2⟩
theorem drewN (h : Bs w w' l) (n : Nat) : Bs w (w'.drewN n) l := ⟨pw_below_drewN h.1 n, h.2⟩
theorem alloc (h : Bs w w' l) (cs : Array Value) (ty : TypeId) : Bs w (w'.alloc (.cells cs ty)) (l ++ [(w'.heap.size, cs, ty)]) := by
  refine ⟨h.1.alloc h.1.size _, fun p hp => ?_⟩
  rcases List.mem_append.1 hp with hp | hp
  · exact (Below.heap_alloc _ _ _ (blk_lt (h.2 p hp))).trans (h.2 p hp)
  · obtain rfl := List.mem_singleton.1 hp
    exact World.alloc_heap_new _ _
theorem new (h : Bs w w' l) (o : Obj) : Bs w (w'.alloc o) l := ⟨h.1.alloc h.1.size _, fun p hp => (Below.heap_alloc _ _ _ (blk_lt (h.2 p hp))).trans (h.2 p hp)⟩
theorem fresh (h : Bs w w' l) : w.heap.size ≤ w'.heap.size ∧ ∀ p ∈ l, p.1 ≠ w'.heap.size := ⟨h.1.size, fun p hp e => by have := blk_lt (h.2 p hp); omega⟩
theorem keep3 {u : World} (h0 : Bs w u l) (h : Bs w w' l) (a b c : Value) : Bs w (((w'.setCell ⟨u.heap.size, 0, none⟩ a).setCell ⟨u.heap.size, 1, none⟩ b).setCell ⟨u.heap.size, 2, none⟩ c) l :=
  ⟨((h.1.setCell h0.1.size _).setCell h0.1.size _).setCell h0.1.size _, fun p hp => by
    have hk : p.1 ≠ u.heap.size := (fresh h0).2 p hp
    exact (Below.heap_setCell _ _ _ _ hk).trans ((Below.heap_setCell _ _ _ _ hk).trans ((Below.heap_setCell _ _ _ _ hk).trans (h.2 p hp)))⟩
theorem cons (h : Bs w w' l) {g : Nat} {cs : Array Value} {ty : TypeId} (hb : w'.heap[g]? = some (.cells cs ty (0, 0))) : Bs w w' (l ++ [(g, cs, ty)]) := ⟨h.1, fun p hp => by
  rcases List.mem_append.1 hp with hp | hp
  · exact h.2 p hp
  · obtain rfl := List.mem_singleton.1 hp
    exact hb⟩
/-- A box of three is written anew. -/
theorem set3 (h : Bs w w' l) (g : Nat) (cs : Array Value) (ty : TypeId) (hg : w.heap.size ≤ g) (hn : ∀ p ∈ l, p.1 ≠ g) (hb : w'.heap[g]? = some (.cells cs ty (0, 0))) (a b c : Value) (hs : cs.size = 3) :
    Bs w (((w'.setCell ⟨g, 0, none⟩ a).setCell ⟨g, 1, none⟩ b).setCell ⟨g, 2, none⟩ c) (l ++ [(g, #[a, b, c], ty)]) := by
  have e : ((cs.setIfInBounds 0 a).setIfInBounds 1 b).setIfInBounds 2 c = #[a, b, c] := by
    obtain ⟨l⟩ := cs
    match l, hs with
    | [x, y, z], _ => rfl
  refine ⟨((h.1.setCell hg _).setCell hg _).setCell hg _, fun p hp => ?_⟩
  rcases List.mem_append.1 hp with hp | hp
  · have hk : p.1 ≠ g := hn p hp
    exact (Below.heap_setCell _ _ _ _ hk).trans ((Below.heap_setCell _ _ _ _ hk).trans ((Below.heap_setCell _ _ _ _ hk).trans (h.2 p hp)))
  · obtain rfl := List.mem_singleton.1 hp
    have := blk_set (blk_set (blk_set hb 0 a) 1 b) 2 c
    rw [e] at this
    exact this
end Bs
/-- What region 21 leaves: a box of nothing, no error. -/
def OutR (w : World) (l : List (Nat × Array Value × TypeId)) (v24 v25 : Value) (wc : World) : Prop := ∃ gO, v24 = .pointer (some ⟨gO, 0, none⟩) ∧ v25 = .int .i64 0 ∧ Bs w wc (l ++ [(gO, #[.int .u64 0, .int .u64 0, .bool false], 40)])
/-- A new box behind a call. -/
theorem new_box {W w' : World} {cs : Array Value} {ty : TypeId} (hb : Below (W.alloc (.cells cs ty)).heap.size (W.alloc (.cells cs ty)) w') : w'.heap[W.heap.size]? = some (.cells cs ty (0, 0)) :=
  (hb.block _ (by rw [World.size_alloc]; omega)).trans (World.alloc_heap_new W _)
theorem new_box' {W w' : World} {cs : Array Value} {ty : TypeId} (hb : Below (W.alloc (.cells cs ty)).drew.heap.size (W.alloc (.cells cs ty)).drew w') : w'.heap[W.heap.size]? = some (.cells cs ty (0, 0)) :=
  (hb.block _ (by show W.heap.size < (W.alloc _).heap.size; rw [World.size_alloc]; omega)).trans (World.alloc_heap_new W _)
theorem box_cells {w : World} {g : Nat} {a b c : Value} {ty : TypeId} (h : w.heap[g]? = some (.cells #[a, b, c] ty (0, 0))) : w.cell? ⟨g, 0, none⟩ = some a ∧ w.cell? ⟨g, 1, none⟩ = some b ∧ w.cell? ⟨g, 2, none⟩ = some c ∧ w.frozen? ⟨g, 0, none⟩ = false ∧ w.frozen? ⟨g, 1, none⟩ = false ∧ w.frozen? ⟨g, 2, none⟩ = false :=
  ⟨(blk_cell h 0).trans rfl, (blk_cell h 1).trans rfl, (blk_cell h 2).trans rfl, blk_frozen h 0, blk_frozen h 1, blk_frozen h 2⟩

set_option maxHeartbeats 32000000 in
set_option maxRecDepth 100000 in
theorem adds_walk (a0 a1 b0 b1 c0 c1 hx lx hy ly hz lz hu lu hp lp hq lq hn ln ea eb ec eu ep eq pu ru px rx pp rp cp cn cs sg : Int) (sx sy sz su sp sq sn qa qb qc : Bool) (T : ByteArray) (w : World)
    (HFa : Aside0 (∀ W, Calls Try.prog 29 #[.agg #[.int .u64 a0, .int .u64 a1]] W fun e w' => e = .returned (.tuple #[.agg #[.int .u64 hx, .int .u64 lx, .bool sx], .int .i64 ea]) ∧ Below W.heap.size W w'))
    (HFb : Aside0 (∀ W, Calls Try.prog 29 #[.agg #[.int .u64 b0, .int .u64 b1]] W fun e w' => e = .returned (.tuple #[.agg #[.int .u64 hy, .int .u64 ly, .bool sy], .int .i64 eb]) ∧ Below W.heap.size W w'))
    (HFc : Aside0 (∀ W, Calls Try.prog 29 #[.agg #[.int .u64 c0, .int .u64 c1]] W fun e w' => e = .returned (.tuple #[.agg #[.int .u64 hz, .int .u64 lz, .bool sz], .int .i64 ec]) ∧ Below W.heap.size W w'))
    (HEa : (∀ W, (Op.equalIn 10000 38 (.agg #[.int .u64 a0, .int .u64 a1]) (.agg #[.int .u64 9223372036854775808, .int .u64 0])).run Try.prog W = .ok qa W))
    (HEb : (∀ W, (Op.equalIn 10000 38 (.agg #[.int .u64 b0, .int .u64 b1]) (.agg #[.int .u64 9223372036854775808, .int .u64 0])).run Try.prog W = .ok qb W))
    (HEc : (∀ W, (Op.equalIn 10000 38 (.agg #[.int .u64 c0, .int .u64 c1]) (.agg #[.int .u64 9223372036854775808, .int .u64 0])).run Try.prog W = .ok qc W))
    (ka : (ea == 0) = !qa)
    (kb : (eb == 0) = !qb)
    (kc : (ec == 0) = !qc)
    (HXY : Aside0 (∀ W, Calls Try.prog 34 #[.agg #[.int .u64 hx, .int .u64 lx, .bool sx], .agg #[.int .u64 hy, .int .u64 ly, .bool sy]] W fun e w' => e = .returned (.tuple #[.agg #[.int .u64 hu, .int .u64 lu, .bool su], .int .i64 eu]) ∧ Below W.heap.size W w'))
    (HYX : Aside0 (∀ W, Calls Try.prog 34 #[.agg #[.int .u64 hy, .int .u64 ly, .bool sy], .agg #[.int .u64 hx, .int .u64 lx, .bool sx]] W fun e w' => e = .returned (.tuple #[.agg #[.int .u64 hu, .int .u64 lu, .bool su], .int .i64 eu]) ∧ Below W.heap.size W w'))
    (HWs : Aside0 (∀ W, Calls Try.prog 26 #[.agg #[.int .u64 hu, .int .u64 lu, .bool su]] W fun e w' => e = .returned (.agg #[.int .u64 pu, .int .u64 ru]) ∧ Below W.heap.size W w'))
    (HEs : (∀ W, (Op.equalIn 10000 38 (.agg #[.int .u64 pu, .int .u64 ru]) (.agg #[.int .u64 pu, .int .u64 ru])).run Try.prog W = .ok true W))
    (HCxy : Aside0 (∀ W, Calls Try.prog 32 #[.agg #[.int .u64 hx, .int .u64 lx, .bool sx], .agg #[.int .u64 hy, .int .u64 ly, .bool sy]] W fun e w' => e = .returned (.int .i64 cp) ∧ Below W.heap.size W w'))
    (HCyx : Aside0 (∀ W, Calls Try.prog 32 #[.agg #[.int .u64 hy, .int .u64 ly, .bool sy], .agg #[.int .u64 hx, .int .u64 lx, .bool sx]] W fun e w' => e = .returned (.int .i64 cn) ∧ Below W.heap.size W w'))
    (hcn : IntKind.i64.wrap (-cn) = cp)
    (HWx : Aside0 (∀ W, Calls Try.prog 26 #[.agg #[.int .u64 hx, .int .u64 lx, .bool sx]] W fun e w' => e = .returned (.agg #[.int .u64 px, .int .u64 rx]) ∧ Below W.heap.size W w'))
    (HEx : (∀ W, (Op.equalIn 10000 38 (.agg #[.int .u64 px, .int .u64 rx]) (.agg #[.int .u64 px, .int .u64 rx])).run Try.prog W = .ok true W))
    (HSB : Aside0 (eu = 0 → ∀ W, Calls Try.prog 35 #[.agg #[.int .u64 hu, .int .u64 lu, .bool su], .agg #[.int .u64 hy, .int .u64 ly, .bool sy]] W fun e w' => e = .returned (.tuple #[.agg #[.int .u64 hx, .int .u64 lx, .bool sx], .int .i64 0]) ∧ Below W.heap.size W w'))
    (HCsx : Aside0 (∀ W, Calls Try.prog 32 #[.agg #[.int .u64 hu, .int .u64 lu, .bool su], .agg #[.int .u64 hx, .int .u64 lx, .bool sx]] W fun e w' => e = .returned (.int .i64 cs) ∧ Below W.heap.size W w'))
    (HSy : Aside0 (∀ W, Calls Try.prog 36 #[.agg #[.int .u64 hy, .int .u64 ly, .bool sy]] W fun e w' => e = .returned (.int .i64 sg) ∧ Below W.heap.size W w'))
    (hsg : Aside0 (eu = 0 → decide (0 < cs) = decide (0 < sg)))
    (HSZ : Aside0 (∀ W, Calls Try.prog 34 #[.agg #[.int .u64 hu, .int .u64 lu, .bool su], .agg #[.int .u64 hz, .int .u64 lz, .bool sz]] W fun e w' => e = .returned (.tuple #[.agg #[.int .u64 hp, .int .u64 lp, .bool sp], .int .i64 ep]) ∧ Below W.heap.size W w'))
    (HYZ : Aside0 (∀ W, Calls Try.prog 34 #[.agg #[.int .u64 hy, .int .u64 ly, .bool sy], .agg #[.int .u64 hz, .int .u64 lz, .bool sz]] W fun e w' => e = .returned (.tuple #[.agg #[.int .u64 hq, .int .u64 lq, .bool sq], .int .i64 eq]) ∧ Below W.heap.size W w'))
    (HXQ : Aside0 (eu = 0 → eq = 0 → ∀ W, Calls Try.prog 34 #[.agg #[.int .u64 hx, .int .u64 lx, .bool sx], .agg #[.int .u64 hq, .int .u64 lq, .bool sq]] W fun e w' => e = .returned (.tuple #[.agg #[.int .u64 hp, .int .u64 lp, .bool sp], .int .i64 ep]) ∧ Below W.heap.size W w'))
    (HWp : Aside0 (∀ W, Calls Try.prog 26 #[.agg #[.int .u64 hp, .int .u64 lp, .bool sp]] W fun e w' => e = .returned (.agg #[.int .u64 pp, .int .u64 rp]) ∧ Below W.heap.size W w'))
    (HEp : (∀ W, (Op.equalIn 10000 38 (.agg #[.int .u64 pp, .int .u64 rp]) (.agg #[.int .u64 pp, .int .u64 rp])).run Try.prog W = .ok true W))
    (HNx : Aside0 (∀ W, Calls Try.prog 37 #[.agg #[.int .u64 hx, .int .u64 lx, .bool sx]] W fun e w' => e = .returned (.agg #[.int .u64 hn, .int .u64 ln, .bool sn]) ∧ Below W.heap.size W w'))
    (HO : Aside0 (∀ W, Calls Try.prog 34 #[.agg #[.int .u64 hx, .int .u64 lx, .bool sx], .agg #[.int .u64 hn, .int .u64 ln, .bool sn]] W fun e w' => e = .returned (.tuple #[.agg #[.int .u64 0, .int .u64 0, .bool false], .int .i64 0]) ∧ Below W.heap.size W w'))
    (HT : Aside0 (∀ W, Calls Try.prog 28 #[.agg #[.int .u64 hx, .int .u64 lx, .bool sx]] W fun e w' => e = .returned (.string T) ∧ Below W.heap.size W w'))
    (HP : Aside0 (∀ W, Calls Try.prog 24 #[.string T] W fun e w' => e = .returned (.tuple #[.agg #[.int .u64 hx, .int .u64 lx, .bool sx], .int .i64 0]) ∧ Below W.heap.size W w'))
    (HS0 : Aside0 (∀ W, Calls Try.prog 36 #[.agg #[.int .u64 0, .int .u64 0, .bool false]] W fun e w' => e = .returned (.int .i64 0) ∧ Below W.heap.size W w'))
    (HWA : (∀ W, (Op.equalIn 10000 38 (.agg #[.int .u64 px, .int .u64 rx]) (.agg #[.int .u64 a0, .int .u64 a1])).run Try.prog W = .ok (!qa) W))
    (HZA : Aside0 (qa = true → (∀ W, (Op.equalIn 10000 38 (.agg #[.int .u64 a0, .int .u64 a1]) (.agg #[.int .u64 0, .int .u64 0])).run Try.prog W = .ok false W))) :
    Calls Try.prog 9 #[.agg #[.int .u64 a0, .int .u64 a1], .agg #[.int .u64 b0, .int .u64 b1], .agg #[.int .u64 c0, .int .u64 c1]] w fun e w' => e = .returned (.bool true) ∧ Below w.heap.size w w' := by
  obtain ⟨K1, K2, K3, K4⟩ := three_new w #[.int .u64 a0, .int .u64 a1] #[.int .u64 b0, .int .u64 b1] #[.int .u64 c0, .int .u64 c1] 38 38 38
  have HCN := Aside0.mk hcn
  clear hcn
  go_enter Try.func9, Try.ntmps9
  go_upto_region 1 with (fail)
  obtain ⟨W0, hW0⟩ : ∃ W0, W0 = ((w.alloc (.cells #[.int .u64 a0, .int .u64 a1] 38)).alloc (.cells #[.int .u64 b0, .int .u64 b1] 38)).alloc (.cells #[.int .u64 c0, .int .u64 c1] 38) := ⟨_, rfl⟩
  rw [← hW0] at K1 K2 K3 K4 ⊢
  obtain ⟨gA, hgA⟩ : ∃ g, g = w.heap.size := ⟨_, rfl⟩
  obtain ⟨gB, hgB⟩ : ∃ g, g = w.heap.size + 1 := ⟨_, rfl⟩
  obtain ⟨gC, hgC⟩ : ∃ g, g = w.heap.size + 1 + 1 := ⟨_, rfl⟩
  rw [← hgC] at K3 ⊢
  rw [← hgB] at K2 ⊢
  rw [← hgA] at K1 ⊢
  have HBW0 : Aside0 (Bs w W0 [(gA, #[.int .u64 a0, .int .u64 a1], 38), (gB, #[.int .u64 b0, .int .u64 b1], 38), (gC, #[.int .u64 c0, .int .u64 c1], 38)]) := ⟨⟨K4, fun p hp => by
    rcases List.mem_cons.1 hp with rfl | hp
    · exact K1
    rcases List.mem_cons.1 hp with rfl | hp
    · exact K2
    obtain rfl := List.mem_singleton.1 hp
    exact K3⟩⟩
  clear hW0 K1 K2 K3 K4 hgA hgB hgC
  have qgA0 : W0.cell? ⟨gA, 0, none⟩ = some (.int .u64 a0) := (blk_cell (Bs.get HBW0.out (gA, #[.int .u64 a0, .int .u64 a1], 38) (by simp)) 0).trans rfl
  have qgA1 : W0.cell? ⟨gA, 1, none⟩ = some (.int .u64 a1) := (blk_cell (Bs.get HBW0.out (gA, #[.int .u64 a0, .int .u64 a1], 38) (by simp)) 1).trans rfl
  go_upto_region 2 with (first
      | ((with_reducible refine gate_callee (f := 29) rfl ?_); (try (refine gate_guard (by rfl) ?_; dsimp only)); refine goesL_ (some 30) rfl rfl Try.func29 (by kernel_rfl) rfl #[.agg #[.int .u64 a0, .int .u64 a1]] rfl (by (try simp only [List.map_toArray, List.map_cons, List.map_nil]); first | done | rfl) ?_; (with_reducible refine (HFa.out _).mono ?_); rintro e vW1_0 ⟨rfl, hb⟩; refine ⟨_, rfl, ?_⟩; have HVW1_0 := Aside0.mk (Bs.below HBW0.out hb); clear hb))
  clear qgA0 qgA1
  obtain ⟨W1, hW⟩ : ∃ W, W = vW1_0.alloc (.cells #[.int .u64 hx, .int .u64 lx, .bool sx] 40) := ⟨_, rfl⟩
  obtain ⟨gX, hg⟩ : ∃ g, g = vW1_0.heap.size := ⟨_, rfl⟩
  have HBW1 : Aside0 (Bs w W1 [(gA, #[.int .u64 a0, .int .u64 a1], 38), (gB, #[.int .u64 b0, .int .u64 b1], 38), (gC, #[.int .u64 c0, .int .u64 c1], 38), (gX, #[.int .u64 hx, .int .u64 lx, .bool sx], 40)]) := ⟨by have h := Bs.alloc HVW1_0.out #[.int .u64 hx, .int .u64 lx, .bool sx] 40; rw [← hW, ← hg] at h; exact h⟩
  rw [← hW, ← hg]
  clear hW hg
  have qgB0 : W1.cell? ⟨gB, 0, none⟩ = some (.int .u64 b0) := (blk_cell (Bs.get HBW1.out (gB, #[.int .u64 b0, .int .u64 b1], 38) (by simp)) 0).trans rfl
  have qgB1 : W1.cell? ⟨gB, 1, none⟩ = some (.int .u64 b1) := (blk_cell (Bs.get HBW1.out (gB, #[.int .u64 b0, .int .u64 b1], 38) (by simp)) 1).trans rfl
  go_upto_region 3 with (first
      | ((with_reducible refine gate_callee (f := 29) rfl ?_); (try (refine gate_guard (by rfl) ?_; dsimp only)); refine goesL_ (some 35) rfl rfl Try.func29 (by kernel_rfl) rfl #[.agg #[.int .u64 b0, .int .u64 b1]] rfl (by (try simp only [List.map_toArray, List.map_cons, List.map_nil]); first | done | rfl) ?_; (with_reducible refine (HFb.out _).mono ?_); rintro e vW2_0 ⟨rfl, hb⟩; refine ⟨_, rfl, ?_⟩; have HVW2_0 := Aside0.mk (Bs.below HBW1.out hb); clear hb))
  clear qgB0 qgB1
  obtain ⟨W2, hW⟩ : ∃ W, W = vW2_0.alloc (.cells #[.int .u64 hy, .int .u64 ly, .bool sy] 40) := ⟨_, rfl⟩
  obtain ⟨gY, hg⟩ : ∃ g, g = vW2_0.heap.size := ⟨_, rfl⟩
  have HBW2 : Aside0 (Bs w W2 [(gA, #[.int .u64 a0, .int .u64 a1], 38), (gB, #[.int .u64 b0, .int .u64 b1], 38), (gC, #[.int .u64 c0, .int .u64 c1], 38), (gX, #[.int .u64 hx, .int .u64 lx, .bool sx], 40), (gY, #[.int .u64 hy, .int .u64 ly, .bool sy], 40)]) := ⟨by have h := Bs.alloc HVW2_0.out #[.int .u64 hy, .int .u64 ly, .bool sy] 40; rw [← hW, ← hg] at h; exact h⟩
  rw [← hW, ← hg]
  clear hW hg
  have qgC0 : W2.cell? ⟨gC, 0, none⟩ = some (.int .u64 c0) := (blk_cell (Bs.get HBW2.out (gC, #[.int .u64 c0, .int .u64 c1], 38) (by simp)) 0).trans rfl
  have qgC1 : W2.cell? ⟨gC, 1, none⟩ = some (.int .u64 c1) := (blk_cell (Bs.get HBW2.out (gC, #[.int .u64 c0, .int .u64 c1], 38) (by simp)) 1).trans rfl
  go_upto_region 4 with (first
      | ((with_reducible refine gate_callee (f := 29) rfl ?_); (try (refine gate_guard (by rfl) ?_; dsimp only)); refine goesL_ (some 40) rfl rfl Try.func29 (by kernel_rfl) rfl #[.agg #[.int .u64 c0, .int .u64 c1]] rfl (by (try simp only [List.map_toArray, List.map_cons, List.map_nil]); first | done | rfl) ?_; (with_reducible refine (HFc.out _).mono ?_); rintro e vW3_0 ⟨rfl, hb⟩; refine ⟨_, rfl, ?_⟩; have HVW3_0 := Aside0.mk (Bs.below HBW2.out hb); clear hb))
  clear qgC0 qgC1
  obtain ⟨W3, hW⟩ : ∃ W, W = vW3_0.alloc (.cells #[.int .u64 hz, .int .u64 lz, .bool sz] 40) := ⟨_, rfl⟩
  obtain ⟨gZ, hg⟩ : ∃ g, g = vW3_0.heap.size := ⟨_, rfl⟩
  have HBW3 : Aside0 (Bs w W3 [(gA, #[.int .u64 a0, .int .u64 a1], 38), (gB, #[.int .u64 b0, .int .u64 b1], 38), (gC, #[.int .u64 c0, .int .u64 c1], 38), (gX, #[.int .u64 hx, .int .u64 lx, .bool sx], 40), (gY, #[.int .u64 hy, .int .u64 ly, .bool sy], 40), (gZ, #[.int .u64 hz, .int .u64 lz, .bool sz], 40)]) := ⟨by have h := Bs.alloc HVW3_0.out #[.int .u64 hz, .int .u64 lz, .bool sz] 40; rw [← hW, ← hg] at h; exact h⟩
  rw [← hW, ← hg]
  clear hW hg
  go_upto_region 5 with (fail)
  obtain ⟨W4, hW⟩ : ∃ W, W = W3.alloc (.cells #[.int .u64 9223372036854775808, .int .u64 0] 38) := ⟨_, rfl⟩
  obtain ⟨gN, hg⟩ : ∃ g, g = W3.heap.size := ⟨_, rfl⟩
  have HBW4 : Aside0 (Bs w W4 [(gA, #[.int .u64 a0, .int .u64 a1], 38), (gB, #[.int .u64 b0, .int .u64 b1], 38), (gC, #[.int .u64 c0, .int .u64 c1], 38), (gX, #[.int .u64 hx, .int .u64 lx, .bool sx], 40), (gY, #[.int .u64 hy, .int .u64 ly, .bool sy], 40), (gZ, #[.int .u64 hz, .int .u64 lz, .bool sz], 40), (gN, #[.int .u64 9223372036854775808, .int .u64 0], 38)]) := ⟨by have h := Bs.alloc HBW3.out #[.int .u64 9223372036854775808, .int .u64 0] 38; rw [← hW, ← hg] at h; exact h⟩
  rw [← hW, ← hg]
  clear hW hg
  have qgA0 : W4.cell? ⟨gA, 0, none⟩ = some (.int .u64 a0) := (blk_cell (Bs.get HBW4.out (gA, #[.int .u64 a0, .int .u64 a1], 38) (by simp)) 0).trans rfl
  have qgA1 : W4.cell? ⟨gA, 1, none⟩ = some (.int .u64 a1) := (blk_cell (Bs.get HBW4.out (gA, #[.int .u64 a0, .int .u64 a1], 38) (by simp)) 1).trans rfl
  have qgB0 : W4.cell? ⟨gB, 0, none⟩ = some (.int .u64 b0) := (blk_cell (Bs.get HBW4.out (gB, #[.int .u64 b0, .int .u64 b1], 38) (by simp)) 0).trans rfl
  have qgB1 : W4.cell? ⟨gB, 1, none⟩ = some (.int .u64 b1) := (blk_cell (Bs.get HBW4.out (gB, #[.int .u64 b0, .int .u64 b1], 38) (by simp)) 1).trans rfl
  have qgC0 : W4.cell? ⟨gC, 0, none⟩ = some (.int .u64 c0) := (blk_cell (Bs.get HBW4.out (gC, #[.int .u64 c0, .int .u64 c1], 38) (by simp)) 0).trans rfl
  have qgC1 : W4.cell? ⟨gC, 1, none⟩ = some (.int .u64 c1) := (blk_cell (Bs.get HBW4.out (gC, #[.int .u64 c0, .int .u64 c1], 38) (by simp)) 1).trans rfl
  have qgN0 : W4.cell? ⟨gN, 0, none⟩ = some (.int .u64 9223372036854775808) := (blk_cell (Bs.get HBW4.out (gN, #[.int .u64 9223372036854775808, .int .u64 0], 38) (by simp)) 0).trans rfl
  have qgN1 : W4.cell? ⟨gN, 1, none⟩ = some (.int .u64 0) := (blk_cell (Bs.get HBW4.out (gN, #[.int .u64 9223372036854775808, .int .u64 0], 38) (by simp)) 1).trans rfl
  have na : ((!qa) != (!qa)) = false := by cases qa <;> rfl
  have nb : ((!qb) != (!qb)) = false := by cases qb <;> rfl
  have nc : ((!qc) != (!qc)) = false := by cases qc <;> rfl
  go_upto_region 7 with (fail)
  clear qgA0 qgA1 qgB0 qgB1 qgC0 qgC1 qgN0 qgN1
  have qgX0 : W4.cell? ⟨gX, 0, none⟩ = some (.int .u64 hx) := (blk_cell (Bs.get HBW4.out (gX, #[.int .u64 hx, .int .u64 lx, .bool sx], 40) (by simp)) 0).trans rfl
  have qgX1 : W4.cell? ⟨gX, 1, none⟩ = some (.int .u64 lx) := (blk_cell (Bs.get HBW4.out (gX, #[.int .u64 hx, .int .u64 lx, .bool sx], 40) (by simp)) 1).trans rfl
  have qgX2 : W4.cell? ⟨gX, 2, none⟩ = some (.bool sx) := (blk_cell (Bs.get HBW4.out (gX, #[.int .u64 hx, .int .u64 lx, .bool sx], 40) (by simp)) 2).trans rfl
  have qgY0 : W4.cell? ⟨gY, 0, none⟩ = some (.int .u64 hy) := (blk_cell (Bs.get HBW4.out (gY, #[.int .u64 hy, .int .u64 ly, .bool sy], 40) (by simp)) 0).trans rfl
  have qgY1 : W4.cell? ⟨gY, 1, none⟩ = some (.int .u64 ly) := (blk_cell (Bs.get HBW4.out (gY, #[.int .u64 hy, .int .u64 ly, .bool sy], 40) (by simp)) 1).trans rfl
  have qgY2 : W4.cell? ⟨gY, 2, none⟩ = some (.bool sy) := (blk_cell (Bs.get HBW4.out (gY, #[.int .u64 hy, .int .u64 ly, .bool sy], 40) (by simp)) 2).trans rfl
  go_upto_region 8 with (first
      | ((with_reducible refine gate_callee (f := 34) rfl ?_); (try (refine gate_guard (by rfl) ?_; dsimp only)); refine goesL_ (some 69) rfl rfl Try.func34 (by kernel_rfl) rfl #[.agg #[.int .u64 hx, .int .u64 lx, .bool sx], .agg #[.int .u64 hy, .int .u64 ly, .bool sy]] rfl (by (try simp only [List.map_toArray, List.map_cons, List.map_nil]); first | done | rfl) ?_; (with_reducible refine (HXY.out _).mono ?_); rintro e vW5_0 ⟨rfl, hb⟩; refine ⟨_, rfl, ?_⟩; have HVW5_0 := Aside0.mk (Bs.below HBW4.out hb); clear hb))
  clear qgX0 qgX1 qgX2 qgY0 qgY1 qgY2
  obtain ⟨W5, hW⟩ : ∃ W, W = vW5_0.alloc (.cells #[.int .u64 hu, .int .u64 lu, .bool su] 40) := ⟨_, rfl⟩
  obtain ⟨gS, hg⟩ : ∃ g, g = vW5_0.heap.size := ⟨_, rfl⟩
  have HBW5 : Aside0 (Bs w W5 [(gA, #[.int .u64 a0, .int .u64 a1], 38), (gB, #[.int .u64 b0, .int .u64 b1], 38), (gC, #[.int .u64 c0, .int .u64 c1], 38), (gX, #[.int .u64 hx, .int .u64 lx, .bool sx], 40), (gY, #[.int .u64 hy, .int .u64 ly, .bool sy], 40), (gZ, #[.int .u64 hz, .int .u64 lz, .bool sz], 40), (gN, #[.int .u64 9223372036854775808, .int .u64 0], 38), (gS, #[.int .u64 hu, .int .u64 lu, .bool su], 40)]) := ⟨by have h := Bs.alloc HVW5_0.out #[.int .u64 hu, .int .u64 lu, .bool su] 40; rw [← hW, ← hg] at h; exact h⟩
  rw [← hW, ← hg]
  clear hW hg
  have qgX0 : W5.cell? ⟨gX, 0, none⟩ = some (.int .u64 hx) := (blk_cell (Bs.get HBW5.out (gX, #[.int .u64 hx, .int .u64 lx, .bool sx], 40) (by simp)) 0).trans rfl
  have qgX1 : W5.cell? ⟨gX, 1, none⟩ = some (.int .u64 lx) := (blk_cell (Bs.get HBW5.out (gX, #[.int .u64 hx, .int .u64 lx, .bool sx], 40) (by simp)) 1).trans rfl
  have qgX2 : W5.cell? ⟨gX, 2, none⟩ = some (.bool sx) := (blk_cell (Bs.get HBW5.out (gX, #[.int .u64 hx, .int .u64 lx, .bool sx], 40) (by simp)) 2).trans rfl
  have qgY0 : W5.cell? ⟨gY, 0, none⟩ = some (.int .u64 hy) := (blk_cell (Bs.get HBW5.out (gY, #[.int .u64 hy, .int .u64 ly, .bool sy], 40) (by simp)) 0).trans rfl
  have qgY1 : W5.cell? ⟨gY, 1, none⟩ = some (.int .u64 ly) := (blk_cell (Bs.get HBW5.out (gY, #[.int .u64 hy, .int .u64 ly, .bool sy], 40) (by simp)) 1).trans rfl
  have qgY2 : W5.cell? ⟨gY, 2, none⟩ = some (.bool sy) := (blk_cell (Bs.get HBW5.out (gY, #[.int .u64 hy, .int .u64 ly, .bool sy], 40) (by simp)) 2).trans rfl
  go_upto_region 9 with (first
      | ((with_reducible refine gate_callee (f := 34) rfl ?_); (try (refine gate_guard (by rfl) ?_; dsimp only)); refine goesL_ (some 75) rfl rfl Try.func34 (by kernel_rfl) rfl #[.agg #[.int .u64 hy, .int .u64 ly, .bool sy], .agg #[.int .u64 hx, .int .u64 lx, .bool sx]] rfl (by (try simp only [List.map_toArray, List.map_cons, List.map_nil]); first | done | rfl) ?_; (with_reducible refine (HYX.out _).mono ?_); rintro e vW6_0 ⟨rfl, hb⟩; refine ⟨_, rfl, ?_⟩; have HVW6_0 := Aside0.mk (Bs.below HBW5.out hb); clear hb))
  clear qgX0 qgX1 qgX2 qgY0 qgY1 qgY2
  obtain ⟨W6, hW⟩ : ∃ W, W = vW6_0.alloc (.cells #[.int .u64 hu, .int .u64 lu, .bool su] 40) := ⟨_, rfl⟩
  obtain ⟨gT, hg⟩ : ∃ g, g = vW6_0.heap.size := ⟨_, rfl⟩
  have HBW6 : Aside0 (Bs w W6 [(gA, #[.int .u64 a0, .int .u64 a1], 38), (gB, #[.int .u64 b0, .int .u64 b1], 38), (gC, #[.int .u64 c0, .int .u64 c1], 38), (gX, #[.int .u64 hx, .int .u64 lx, .bool sx], 40), (gY, #[.int .u64 hy, .int .u64 ly, .bool sy], 40), (gZ, #[.int .u64 hz, .int .u64 lz, .bool sz], 40), (gN, #[.int .u64 9223372036854775808, .int .u64 0], 38), (gS, #[.int .u64 hu, .int .u64 lu, .bool su], 40), (gT, #[.int .u64 hu, .int .u64 lu, .bool su], 40)]) := ⟨by have h := Bs.alloc HVW6_0.out #[.int .u64 hu, .int .u64 lu, .bool su] 40; rw [← hW, ← hg] at h; exact h⟩
  rw [← hW, ← hg]
  clear hW hg
  have eee : (eu != eu) = false := bne_self_eq_false' (a := eu)
  have ecc : (cp != cp) = false := bne_self_eq_false' (a := cp)
  have hcn := HCN.out
  obtain ⟨N, fw, hf0, hfs, hfc⟩ := calm_class (fun W => Bs w W [(gA, #[.int .u64 a0, .int .u64 a1], 38), (gB, #[.int .u64 b0, .int .u64 b1], 38), (gC, #[.int .u64 c0, .int .u64 c1], 38), (gX, #[.int .u64 hx, .int .u64 lx, .bool sx], 40), (gY, #[.int .u64 hy, .int .u64 ly, .bool sy], 40), (gZ, #[.int .u64 hz, .int .u64 lz, .bool sz], 40), (gN, #[.int .u64 9223372036854775808, .int .u64 0], 38), (gS, #[.int .u64 hu, .int .u64 lu, .bool su], 40), (gT, #[.int .u64 hu, .int .u64 lu, .bool su], 40)]) W6 HBW6.out.drew (fun W w' h hb => h.below hb)
  have hne : Nonempty N := ⟨hf0.choose⟩
  have HFC := Aside0.mk hfc
  have HFS := Aside0.mk hfs
  have qgX0 : ∀ n, (fw n).cell? ⟨gX, 0, none⟩ = some (.int .u64 hx) := fun n => (blk_cell (Bs.get (hfs n) (gX, #[.int .u64 hx, .int .u64 lx, .bool sx], 40) (by simp)) 0).trans rfl
  have qgX1 : ∀ n, (fw n).cell? ⟨gX, 1, none⟩ = some (.int .u64 lx) := fun n => (blk_cell (Bs.get (hfs n) (gX, #[.int .u64 hx, .int .u64 lx, .bool sx], 40) (by simp)) 1).trans rfl
  have qgX2 : ∀ n, (fw n).cell? ⟨gX, 2, none⟩ = some (.bool sx) := fun n => (blk_cell (Bs.get (hfs n) (gX, #[.int .u64 hx, .int .u64 lx, .bool sx], 40) (by simp)) 2).trans rfl
  have qgY0 : ∀ n, (fw n).cell? ⟨gY, 0, none⟩ = some (.int .u64 hy) := fun n => (blk_cell (Bs.get (hfs n) (gY, #[.int .u64 hy, .int .u64 ly, .bool sy], 40) (by simp)) 0).trans rfl
  have qgY1 : ∀ n, (fw n).cell? ⟨gY, 1, none⟩ = some (.int .u64 ly) := fun n => (blk_cell (Bs.get (hfs n) (gY, #[.int .u64 hy, .int .u64 ly, .bool sy], 40) (by simp)) 1).trans rfl
  have qgY2 : ∀ n, (fw n).cell? ⟨gY, 2, none⟩ = some (.bool sy) := fun n => (blk_cell (Bs.get (hfs n) (gY, #[.int .u64 hy, .int .u64 ly, .bool sy], 40) (by simp)) 2).trans rfl
  have qgS0 : ∀ n, (fw n).cell? ⟨gS, 0, none⟩ = some (.int .u64 hu) := fun n => (blk_cell (Bs.get (hfs n) (gS, #[.int .u64 hu, .int .u64 lu, .bool su], 40) (by simp)) 0).trans rfl
  have qgS1 : ∀ n, (fw n).cell? ⟨gS, 1, none⟩ = some (.int .u64 lu) := fun n => (blk_cell (Bs.get (hfs n) (gS, #[.int .u64 hu, .int .u64 lu, .bool su], 40) (by simp)) 1).trans rfl
  have qgS2 : ∀ n, (fw n).cell? ⟨gS, 2, none⟩ = some (.bool su) := fun n => (blk_cell (Bs.get (hfs n) (gS, #[.int .u64 hu, .int .u64 lu, .bool su], 40) (by simp)) 2).trans rfl
  have qgT0 : ∀ n, (fw n).cell? ⟨gT, 0, none⟩ = some (.int .u64 hu) := fun n => (blk_cell (Bs.get (hfs n) (gT, #[.int .u64 hu, .int .u64 lu, .bool su], 40) (by simp)) 0).trans rfl
  have qgT1 : ∀ n, (fw n).cell? ⟨gT, 1, none⟩ = some (.int .u64 lu) := fun n => (blk_cell (Bs.get (hfs n) (gT, #[.int .u64 hu, .int .u64 lu, .bool su], 40) (by simp)) 1).trans rfl
  have qgT2 : ∀ n, (fw n).cell? ⟨gT, 2, none⟩ = some (.bool su) := fun n => (blk_cell (Bs.get (hfs n) (gT, #[.int .u64 hu, .int .u64 lu, .bool su], 40) (by simp)) 2).trans rfl
  clear hfs hfc
  refine wp_region_calm fw (by kernel_rfl) (by kernel_rfl) hf0 ?_
  repeat (go_big_quiet_step ((first
    | (go_at_call 26; with_reducible exact Calls.calm HFC (HWs.out _))
    | (go_at_call 32; with_reducible exact Calls.calm HFC (HCxy.out _))
    | (go_at_call 32; with_reducible exact Calls.calm HFC (HCyx.out _)))))
  refine wpQuiet_nil ?_
  intro _ hw'
  obtain ⟨nq, hw''⟩ := hw'
  subst hw''
  have HBW7 : Aside0 (Bs w (fw nq) [(gA, #[.int .u64 a0, .int .u64 a1], 38), (gB, #[.int .u64 b0, .int .u64 b1], 38), (gC, #[.int .u64 c0, .int .u64 c1], 38), (gX, #[.int .u64 hx, .int .u64 lx, .bool sx], 40), (gY, #[.int .u64 hy, .int .u64 ly, .bool sy], 40), (gZ, #[.int .u64 hz, .int .u64 lz, .bool sz], 40), (gN, #[.int .u64 9223372036854775808, .int .u64 0], 38), (gS, #[.int .u64 hu, .int .u64 lu, .bool su], 40), (gT, #[.int .u64 hu, .int .u64 lu, .bool su], 40)]) := ⟨HFS.out nq⟩
  obtain ⟨W7, hW⟩ : ∃ W, W = fw nq := ⟨_, rfl⟩
  rw [← hW] at HBW7 ⊢
  clear hW
  clear HFC HFS hf0 hne qgX0 qgX1 qgX2 qgY0 qgY1 qgY2 qgS0 qgS1 qgS2 qgT0 qgT1 qgT2
  clear hcn
  go_upto_if 99 with (fail)
  go_cut [18, 19, 20, 21, 22, 23] from 98 to 154 (fun v18 v19 v20 v21 v22 v23 wc => Bs w wc [(gA, #[.int .u64 a0, .int .u64 a1], 38), (gB, #[.int .u64 b0, .int .u64 b1], 38), (gC, #[.int .u64 c0, .int .u64 c1], 38), (gX, #[.int .u64 hx, .int .u64 lx, .bool sx], 40), (gY, #[.int .u64 hy, .int .u64 ly, .bool sy], 40), (gZ, #[.int .u64 hz, .int .u64 lz, .bool sz], 40), (gN, #[.int .u64 9223372036854775808, .int .u64 0], 38), (gS, #[.int .u64 hu, .int .u64 lu, .bool su], 40), (gT, #[.int .u64 hu, .int .u64 lu, .bool su], 40)])
  case first =>
    by_cases he : eu = 0
    · have heb : (eu == 0) = true := beq_iff_eq.mpr he
      have HSB' := Aside0.mk (HSB.out he)
      have hsg' := hsg.out he
      have HXQ' := Aside0.mk (HXQ.out he)
      obtain ⟨bq, hbq⟩ : ∃ b, b = decide (0 < sg) := ⟨_, rfl⟩
      rw [← hbq] at hsg'
      have hbq' := hbq.symm
      have ebb : (bq != bq) = false := bne_self_eq_false' (a := bq)
      have eep : (ep != ep) = false := bne_self_eq_false' (a := ep)
      have HE0 := Aside0.mk he
      clear he hbq
      go_upto_region 12 with (fail)
      have qgY0 : W7.cell? ⟨gY, 0, none⟩ = some (.int .u64 hy) := (blk_cell (Bs.get HBW7.out (gY, #[.int .u64 hy, .int .u64 ly, .bool sy], 40) (by simp)) 0).trans rfl
      have qgY1 : W7.cell? ⟨gY, 1, none⟩ = some (.int .u64 ly) := (blk_cell (Bs.get HBW7.out (gY, #[.int .u64 hy, .int .u64 ly, .bool sy], 40) (by simp)) 1).trans rfl
      have qgY2 : W7.cell? ⟨gY, 2, none⟩ = some (.bool sy) := (blk_cell (Bs.get HBW7.out (gY, #[.int .u64 hy, .int .u64 ly, .bool sy], 40) (by simp)) 2).trans rfl
      have qgS0 : W7.cell? ⟨gS, 0, none⟩ = some (.int .u64 hu) := (blk_cell (Bs.get HBW7.out (gS, #[.int .u64 hu, .int .u64 lu, .bool su], 40) (by simp)) 0).trans rfl
      have qgS1 : W7.cell? ⟨gS, 1, none⟩ = some (.int .u64 lu) := (blk_cell (Bs.get HBW7.out (gS, #[.int .u64 hu, .int .u64 lu, .bool su], 40) (by simp)) 1).trans rfl
      have qgS2 : W7.cell? ⟨gS, 2, none⟩ = some (.bool su) := (blk_cell (Bs.get HBW7.out (gS, #[.int .u64 hu, .int .u64 lu, .bool su], 40) (by simp)) 2).trans rfl
      go_upto_region 13 with (first
          | ((with_reducible refine gate_callee (f := 35) rfl ?_); (try (refine gate_guard (by rfl) ?_; dsimp only)); refine goesL_ (some 103) rfl rfl Try.func35 (by kernel_rfl) rfl #[.agg #[.int .u64 hu, .int .u64 lu, .bool su], .agg #[.int .u64 hy, .int .u64 ly, .bool sy]] rfl (by (try simp only [List.map_toArray, List.map_cons, List.map_nil]); first | done | rfl) ?_; (with_reducible refine (HSB'.out _).mono ?_); rintro e vW8_0 ⟨rfl, hb⟩; refine ⟨_, rfl, ?_⟩; have HVW8_0 := Aside0.mk (Bs.below HBW7.out hb); clear hb))
      clear qgY0 qgY1 qgY2 qgS0 qgS1 qgS2
      obtain ⟨W8, hW⟩ : ∃ W, W = vW8_0.alloc (.cells #[.int .u64 hx, .int .u64 lx, .bool sx] 40) := ⟨_, rfl⟩
      obtain ⟨gBk, hg⟩ : ∃ g, g = vW8_0.heap.size := ⟨_, rfl⟩
      have HBW8 : Aside0 (Bs w W8 [(gA, #[.int .u64 a0, .int .u64 a1], 38), (gB, #[.int .u64 b0, .int .u64 b1], 38), (gC, #[.int .u64 c0, .int .u64 c1], 38), (gX, #[.int .u64 hx, .int .u64 lx, .bool sx], 40), (gY, #[.int .u64 hy, .int .u64 ly, .bool sy], 40), (gZ, #[.int .u64 hz, .int .u64 lz, .bool sz], 40), (gN, #[.int .u64 9223372036854775808, .int .u64 0], 38), (gS, #[.int .u64 hu, .int .u64 lu, .bool su], 40), (gT, #[.int .u64 hu, .int .u64 lu, .bool su], 40), (gBk, #[.int .u64 hx, .int .u64 lx, .bool sx], 40)]) := ⟨by have h := Bs.alloc HVW8_0.out #[.int .u64 hx, .int .u64 lx, .bool sx] 40; rw [← hW, ← hg] at h; exact h⟩
      rw [← hW, ← hg]
      clear hW hg
      obtain ⟨N, fw, hf0, hfs, hfc⟩ := calm_class (fun W => Bs w W [(gA, #[.int .u64 a0, .int .u64 a1], 38), (gB, #[.int .u64 b0, .int .u64 b1], 38), (gC, #[.int .u64 c0, .int .u64 c1], 38), (gX, #[.int .u64 hx, .int .u64 lx, .bool sx], 40), (gY, #[.int .u64 hy, .int .u64 ly, .bool sy], 40), (gZ, #[.int .u64 hz, .int .u64 lz, .bool sz], 40), (gN, #[.int .u64 9223372036854775808, .int .u64 0], 38), (gS, #[.int .u64 hu, .int .u64 lu, .bool su], 40), (gT, #[.int .u64 hu, .int .u64 lu, .bool su], 40), (gBk, #[.int .u64 hx, .int .u64 lx, .bool sx], 40)]) W8 HBW8.out.drew (fun W w' h hb => h.below hb)
      have hne : Nonempty N := ⟨hf0.choose⟩
      have HFC := Aside0.mk hfc
      have HFS := Aside0.mk hfs
      have qgX0 : ∀ n, (fw n).cell? ⟨gX, 0, none⟩ = some (.int .u64 hx) := fun n => (blk_cell (Bs.get (hfs n) (gX, #[.int .u64 hx, .int .u64 lx, .bool sx], 40) (by simp)) 0).trans rfl
      have qgX1 : ∀ n, (fw n).cell? ⟨gX, 1, none⟩ = some (.int .u64 lx) := fun n => (blk_cell (Bs.get (hfs n) (gX, #[.int .u64 hx, .int .u64 lx, .bool sx], 40) (by simp)) 1).trans rfl
      have qgX2 : ∀ n, (fw n).cell? ⟨gX, 2, none⟩ = some (.bool sx) := fun n => (blk_cell (Bs.get (hfs n) (gX, #[.int .u64 hx, .int .u64 lx, .bool sx], 40) (by simp)) 2).trans rfl
      have qgY0 : ∀ n, (fw n).cell? ⟨gY, 0, none⟩ = some (.int .u64 hy) := fun n => (blk_cell (Bs.get (hfs n) (gY, #[.int .u64 hy, .int .u64 ly, .bool sy], 40) (by simp)) 0).trans rfl
      have qgY1 : ∀ n, (fw n).cell? ⟨gY, 1, none⟩ = some (.int .u64 ly) := fun n => (blk_cell (Bs.get (hfs n) (gY, #[.int .u64 hy, .int .u64 ly, .bool sy], 40) (by simp)) 1).trans rfl
      have qgY2 : ∀ n, (fw n).cell? ⟨gY, 2, none⟩ = some (.bool sy) := fun n => (blk_cell (Bs.get (hfs n) (gY, #[.int .u64 hy, .int .u64 ly, .bool sy], 40) (by simp)) 2).trans rfl
      have qgS0 : ∀ n, (fw n).cell? ⟨gS, 0, none⟩ = some (.int .u64 hu) := fun n => (blk_cell (Bs.get (hfs n) (gS, #[.int .u64 hu, .int .u64 lu, .bool su], 40) (by simp)) 0).trans rfl
      have qgS1 : ∀ n, (fw n).cell? ⟨gS, 1, none⟩ = some (.int .u64 lu) := fun n => (blk_cell (Bs.get (hfs n) (gS, #[.int .u64 hu, .int .u64 lu, .bool su], 40) (by simp)) 1).trans rfl
      have qgS2 : ∀ n, (fw n).cell? ⟨gS, 2, none⟩ = some (.bool su) := fun n => (blk_cell (Bs.get (hfs n) (gS, #[.int .u64 hu, .int .u64 lu, .bool su], 40) (by simp)) 2).trans rfl
      have qgBk0 : ∀ n, (fw n).cell? ⟨gBk, 0, none⟩ = some (.int .u64 hx) := fun n => (blk_cell (Bs.get (hfs n) (gBk, #[.int .u64 hx, .int .u64 lx, .bool sx], 40) (by simp)) 0).trans rfl
      have qgBk1 : ∀ n, (fw n).cell? ⟨gBk, 1, none⟩ = some (.int .u64 lx) := fun n => (blk_cell (Bs.get (hfs n) (gBk, #[.int .u64 hx, .int .u64 lx, .bool sx], 40) (by simp)) 1).trans rfl
      have qgBk2 : ∀ n, (fw n).cell? ⟨gBk, 2, none⟩ = some (.bool sx) := fun n => (blk_cell (Bs.get (hfs n) (gBk, #[.int .u64 hx, .int .u64 lx, .bool sx], 40) (by simp)) 2).trans rfl
      clear hfs hfc
      refine wp_region_calm fw (by kernel_rfl) (by kernel_rfl) hf0 ?_
      repeat (go_big_quiet_step ((first
        | (go_at_call 26; with_reducible exact Calls.calm HFC (HWx.out _))
        | (go_at_call 32; with_reducible exact Calls.calm HFC (HCsx.out _))
        | (go_at_call 36; with_reducible exact Calls.calm HFC (HSy.out _)))))
      refine wpQuiet_nil ?_
      intro _ hw'
      obtain ⟨nq, hw''⟩ := hw'
      subst hw''
      have HBW9 : Aside0 (Bs w (fw nq) [(gA, #[.int .u64 a0, .int .u64 a1], 38), (gB, #[.int .u64 b0, .int .u64 b1], 38), (gC, #[.int .u64 c0, .int .u64 c1], 38), (gX, #[.int .u64 hx, .int .u64 lx, .bool sx], 40), (gY, #[.int .u64 hy, .int .u64 ly, .bool sy], 40), (gZ, #[.int .u64 hz, .int .u64 lz, .bool sz], 40), (gN, #[.int .u64 9223372036854775808, .int .u64 0], 38), (gS, #[.int .u64 hu, .int .u64 lu, .bool su], 40), (gT, #[.int .u64 hu, .int .u64 lu, .bool su], 40), (gBk, #[.int .u64 hx, .int .u64 lx, .bool sx], 40)]) := ⟨HFS.out nq⟩
      obtain ⟨W9, hW⟩ : ∃ W, W = fw nq := ⟨_, rfl⟩
      rw [← hW] at HBW9 ⊢
      clear hW
      clear HFC HFS hf0 hne qgX0 qgX1 qgX2 qgY0 qgY1 qgY2 qgS0 qgS1 qgS2 qgBk0 qgBk1 qgBk2
      go_upto_region 15 with (fail)
      have qgZ0 : W9.cell? ⟨gZ, 0, none⟩ = some (.int .u64 hz) := (blk_cell (Bs.get HBW9.out (gZ, #[.int .u64 hz, .int .u64 lz, .bool sz], 40) (by simp)) 0).trans rfl
      have qgZ1 : W9.cell? ⟨gZ, 1, none⟩ = some (.int .u64 lz) := (blk_cell (Bs.get HBW9.out (gZ, #[.int .u64 hz, .int .u64 lz, .bool sz], 40) (by simp)) 1).trans rfl
      have qgZ2 : W9.cell? ⟨gZ, 2, none⟩ = some (.bool sz) := (blk_cell (Bs.get HBW9.out (gZ, #[.int .u64 hz, .int .u64 lz, .bool sz], 40) (by simp)) 2).trans rfl
      have qgS0 : W9.cell? ⟨gS, 0, none⟩ = some (.int .u64 hu) := (blk_cell (Bs.get HBW9.out (gS, #[.int .u64 hu, .int .u64 lu, .bool su], 40) (by simp)) 0).trans rfl
      have qgS1 : W9.cell? ⟨gS, 1, none⟩ = some (.int .u64 lu) := (blk_cell (Bs.get HBW9.out (gS, #[.int .u64 hu, .int .u64 lu, .bool su], 40) (by simp)) 1).trans rfl
      have qgS2 : W9.cell? ⟨gS, 2, none⟩ = some (.bool su) := (blk_cell (Bs.get HBW9.out (gS, #[.int .u64 hu, .int .u64 lu, .bool su], 40) (by simp)) 2).trans rfl
      go_upto_region 16 with (first
          | ((with_reducible refine gate_callee (f := 34) rfl ?_); (try (refine gate_guard (by rfl) ?_; dsimp only)); refine goesL_ (some 128) rfl rfl Try.func34 (by kernel_rfl) rfl #[.agg #[.int .u64 hu, .int .u64 lu, .bool su], .agg #[.int .u64 hz, .int .u64 lz, .bool sz]] rfl (by (try simp only [List.map_toArray, List.map_cons, List.map_nil]); first | done | rfl) ?_; (with_reducible refine (HSZ.out _).mono ?_); rintro e vW10_0 ⟨rfl, hb⟩; refine ⟨_, rfl, ?_⟩; have HVW10_0 := Aside0.mk (Bs.below HBW9.out hb); clear hb))
      clear qgZ0 qgZ1 qgZ2 qgS0 qgS1 qgS2
      obtain ⟨W10, hW⟩ : ∃ W, W = vW10_0.alloc (.cells #[.int .u64 hp, .int .u64 lp, .bool sp] 40) := ⟨_, rfl⟩
      obtain ⟨gLf, hg⟩ : ∃ g, g = vW10_0.heap.size := ⟨_, rfl⟩
      have HBW10 : Aside0 (Bs w W10 [(gA, #[.int .u64 a0, .int .u64 a1], 38), (gB, #[.int .u64 b0, .int .u64 b1], 38), (gC, #[.int .u64 c0, .int .u64 c1], 38), (gX, #[.int .u64 hx, .int .u64 lx, .bool sx], 40), (gY, #[.int .u64 hy, .int .u64 ly, .bool sy], 40), (gZ, #[.int .u64 hz, .int .u64 lz, .bool sz], 40), (gN, #[.int .u64 9223372036854775808, .int .u64 0], 38), (gS, #[.int .u64 hu, .int .u64 lu, .bool su], 40), (gT, #[.int .u64 hu, .int .u64 lu, .bool su], 40), (gBk, #[.int .u64 hx, .int .u64 lx, .bool sx], 40), (gLf, #[.int .u64 hp, .int .u64 lp, .bool sp], 40)]) := ⟨by have h := Bs.alloc HVW10_0.out #[.int .u64 hp, .int .u64 lp, .bool sp] 40; rw [← hW, ← hg] at h; exact h⟩
      rw [← hW, ← hg]
      clear hW hg
      have HFR : Aside0 (∀ u, Bs w u [(gA, #[.int .u64 a0, .int .u64 a1], 38), (gB, #[.int .u64 b0, .int .u64 b1], 38), (gC, #[.int .u64 c0, .int .u64 c1], 38), (gX, #[.int .u64 hx, .int .u64 lx, .bool sx], 40), (gY, #[.int .u64 hy, .int .u64 ly, .bool sy], 40), (gZ, #[.int .u64 hz, .int .u64 lz, .bool sz], 40), (gN, #[.int .u64 9223372036854775808, .int .u64 0], 38), (gS, #[.int .u64 hu, .int .u64 lu, .bool su], 40), (gT, #[.int .u64 hu, .int .u64 lu, .bool su], 40), (gBk, #[.int .u64 hx, .int .u64 lx, .bool sx], 40), (gLf, #[.int .u64 hp, .int .u64 lp, .bool sp], 40)] → w.heap.size ≤ u.heap.size ∧ ∀ p ∈ ([(gA, #[.int .u64 a0, .int .u64 a1], 38), (gB, #[.int .u64 b0, .int .u64 b1], 38), (gC, #[.int .u64 c0, .int .u64 c1], 38), (gX, #[.int .u64 hx, .int .u64 lx, .bool sx], 40), (gY, #[.int .u64 hy, .int .u64 ly, .bool sy], 40), (gZ, #[.int .u64 hz, .int .u64 lz, .bool sz], 40), (gN, #[.int .u64 9223372036854775808, .int .u64 0], 38), (gS, #[.int .u64 hu, .int .u64 lu, .bool su], 40), (gT, #[.int .u64 hu, .int .u64 lu, .bool su], 40), (gBk, #[.int .u64 hx, .int .u64 lx, .bool sx], 40), (gLf, #[.int .u64 hp, .int .u64 lp, .bool sp], 40)] : List (Nat × Array Value × TypeId)), p.1 ≠ u.heap.size) := ⟨fun u h => h.fresh⟩
      have qgY0 : W10.cell? ⟨gY, 0, none⟩ = some (.int .u64 hy) := (blk_cell (Bs.get HBW10.out (gY, #[.int .u64 hy, .int .u64 ly, .bool sy], 40) (by simp)) 0).trans rfl
      have qgY1 : W10.cell? ⟨gY, 1, none⟩ = some (.int .u64 ly) := (blk_cell (Bs.get HBW10.out (gY, #[.int .u64 hy, .int .u64 ly, .bool sy], 40) (by simp)) 1).trans rfl
      have qgY2 : W10.cell? ⟨gY, 2, none⟩ = some (.bool sy) := (blk_cell (Bs.get HBW10.out (gY, #[.int .u64 hy, .int .u64 ly, .bool sy], 40) (by simp)) 2).trans rfl
      have qgZ0 : W10.cell? ⟨gZ, 0, none⟩ = some (.int .u64 hz) := (blk_cell (Bs.get HBW10.out (gZ, #[.int .u64 hz, .int .u64 lz, .bool sz], 40) (by simp)) 0).trans rfl
      have qgZ1 : W10.cell? ⟨gZ, 1, none⟩ = some (.int .u64 lz) := (blk_cell (Bs.get HBW10.out (gZ, #[.int .u64 hz, .int .u64 lz, .bool sz], 40) (by simp)) 1).trans rfl
      have qgZ2 : W10.cell? ⟨gZ, 2, none⟩ = some (.bool sz) := (blk_cell (Bs.get HBW10.out (gZ, #[.int .u64 hz, .int .u64 lz, .bool sz], 40) (by simp)) 2).trans rfl
      go_upto_region 17 with (first
          | ((with_reducible refine gate_callee (f := 34) rfl ?_); (try (refine gate_guard (by rfl) ?_; dsimp only)); refine goesL_ (some 134) rfl rfl Try.func34 (by kernel_rfl) rfl #[.agg #[.int .u64 hy, .int .u64 ly, .bool sy], .agg #[.int .u64 hz, .int .u64 lz, .bool sz]] rfl (by (try simp only [List.map_toArray, List.map_cons, List.map_nil]); first | done | rfl) ?_; (with_reducible refine (HYZ.out _).mono ?_); rintro e vW11 ⟨rfl, hb⟩; refine ⟨_, rfl, ?_⟩; have HVW11 := Aside0.mk (Bs.below HBW10.out hb); clear hb))
      clear qgY0 qgY1 qgY2 qgZ0 qgZ1 qgZ2
      obtain ⟨W11, hW⟩ : ∃ W, W = vW11.alloc (.cells #[.int .u64 hq, .int .u64 lq, .bool sq] 40) := ⟨_, rfl⟩
      obtain ⟨gRt, hg⟩ : ∃ g, g = vW11.heap.size := ⟨_, rfl⟩
      have HNR : Aside0 (w.heap.size ≤ gRt ∧ ∀ p ∈ ([(gA, #[.int .u64 a0, .int .u64 a1], 38), (gB, #[.int .u64 b0, .int .u64 b1], 38), (gC, #[.int .u64 c0, .int .u64 c1], 38), (gX, #[.int .u64 hx, .int .u64 lx, .bool sx], 40), (gY, #[.int .u64 hy, .int .u64 ly, .bool sy], 40), (gZ, #[.int .u64 hz, .int .u64 lz, .bool sz], 40), (gN, #[.int .u64 9223372036854775808, .int .u64 0], 38), (gS, #[.int .u64 hu, .int .u64 lu, .bool su], 40), (gT, #[.int .u64 hu, .int .u64 lu, .bool su], 40), (gBk, #[.int .u64 hx, .int .u64 lx, .bool sx], 40), (gLf, #[.int .u64 hp, .int .u64 lp, .bool sp], 40)] : List (Nat × Array Value × TypeId)), p.1 ≠ gRt) := ⟨by rw [hg]; exact HFR.out _ HVW11.out⟩
      have HBW11 : Aside0 (Bs w W11 [(gA, #[.int .u64 a0, .int .u64 a1], 38), (gB, #[.int .u64 b0, .int .u64 b1], 38), (gC, #[.int .u64 c0, .int .u64 c1], 38), (gX, #[.int .u64 hx, .int .u64 lx, .bool sx], 40), (gY, #[.int .u64 hy, .int .u64 ly, .bool sy], 40), (gZ, #[.int .u64 hz, .int .u64 lz, .bool sz], 40), (gN, #[.int .u64 9223372036854775808, .int .u64 0], 38), (gS, #[.int .u64 hu, .int .u64 lu, .bool su], 40), (gT, #[.int .u64 hu, .int .u64 lu, .bool su], 40), (gBk, #[.int .u64 hx, .int .u64 lx, .bool sx], 40), (gLf, #[.int .u64 hp, .int .u64 lp, .bool sp], 40), (gRt, #[.int .u64 hq, .int .u64 lq, .bool sq], 40)]) := ⟨by have h := Bs.alloc HVW11.out #[.int .u64 hq, .int .u64 lq, .bool sq] 40; rw [← hW, ← hg] at h; exact h⟩
      rw [← hW, ← hg]
      clear hW hg
      by_cases hq0 : eq = 0
      · have hqb : (eq == 0) = true := beq_iff_eq.mpr hq0
        have HXQ2 := Aside0.mk (HXQ'.out hq0)
        clear hq0
        go_upto_region 18 with (fail)
        have qgX0 : W11.cell? ⟨gX, 0, none⟩ = some (.int .u64 hx) := (blk_cell (Bs.get HBW11.out (gX, #[.int .u64 hx, .int .u64 lx, .bool sx], 40) (by simp)) 0).trans rfl
        have qgX1 : W11.cell? ⟨gX, 1, none⟩ = some (.int .u64 lx) := (blk_cell (Bs.get HBW11.out (gX, #[.int .u64 hx, .int .u64 lx, .bool sx], 40) (by simp)) 1).trans rfl
        have qgX2 : W11.cell? ⟨gX, 2, none⟩ = some (.bool sx) := (blk_cell (Bs.get HBW11.out (gX, #[.int .u64 hx, .int .u64 lx, .bool sx], 40) (by simp)) 2).trans rfl
        have qgRt0 : W11.cell? ⟨gRt, 0, none⟩ = some (.int .u64 hq) := (blk_cell (Bs.get HBW11.out (gRt, #[.int .u64 hq, .int .u64 lq, .bool sq], 40) (by simp)) 0).trans rfl
        have qgRt1 : W11.cell? ⟨gRt, 1, none⟩ = some (.int .u64 lq) := (blk_cell (Bs.get HBW11.out (gRt, #[.int .u64 hq, .int .u64 lq, .bool sq], 40) (by simp)) 1).trans rfl
        have qgRt2 : W11.cell? ⟨gRt, 2, none⟩ = some (.bool sq) := (blk_cell (Bs.get HBW11.out (gRt, #[.int .u64 hq, .int .u64 lq, .bool sq], 40) (by simp)) 2).trans rfl
        have f0 : W11.frozen? ⟨gRt, 0, none⟩ = false := blk_frozen (Bs.get HBW11.out (gRt, #[.int .u64 hq, .int .u64 lq, .bool sq], 40) (by simp)) 0
        go_upto_region 19 with (first
            | ((with_reducible refine gate_callee (f := 34) rfl ?_); (try (refine gate_guard (by rfl) ?_; dsimp only)); refine goesL_ (some 142) rfl rfl Try.func34 (by kernel_rfl) rfl #[.agg #[.int .u64 hx, .int .u64 lx, .bool sx], .agg #[.int .u64 hq, .int .u64 lq, .bool sq]] rfl (by (try simp only [List.map_toArray, List.map_cons, List.map_nil]); first | done | rfl) ?_; (with_reducible refine (HXQ2.out _).mono ?_); rintro e v18 ⟨rfl, hb⟩; refine ⟨_, rfl, ?_⟩; have HV18 := Aside0.mk (Bs.below HBW11.out hb); have hbx := Bs.get (Bs.below HBW11.out hb) (gRt, #[.int .u64 hq, .int .u64 lq, .bool sq], 40) (by simp); obtain ⟨e0, e1, e2, e3, e4, e5⟩ := box_cells hbx; clear hb))
        clear qgX0 qgX1 qgX2 qgRt0 qgRt1 qgRt2
        obtain ⟨W12, hW⟩ : ∃ W, W = ((v18.setCell ⟨gRt, 0, none⟩ (.int .u64 hp)).setCell ⟨gRt, 1, none⟩ (.int .u64 lp)).setCell ⟨gRt, 2, none⟩ (.bool sp) := ⟨_, rfl⟩
        have HBW12 : Aside0 (Bs w W12 [(gA, #[.int .u64 a0, .int .u64 a1], 38), (gB, #[.int .u64 b0, .int .u64 b1], 38), (gC, #[.int .u64 c0, .int .u64 c1], 38), (gX, #[.int .u64 hx, .int .u64 lx, .bool sx], 40), (gY, #[.int .u64 hy, .int .u64 ly, .bool sy], 40), (gZ, #[.int .u64 hz, .int .u64 lz, .bool sz], 40), (gN, #[.int .u64 9223372036854775808, .int .u64 0], 38), (gS, #[.int .u64 hu, .int .u64 lu, .bool su], 40), (gT, #[.int .u64 hu, .int .u64 lu, .bool su], 40), (gBk, #[.int .u64 hx, .int .u64 lx, .bool sx], 40), (gLf, #[.int .u64 hp, .int .u64 lp, .bool sp], 40), (gRt, #[.int .u64 hp, .int .u64 lp, .bool sp], 40)]) := ⟨by rw [hW]; exact Bs.set3 (Bs.sub HV18.out (fun p hp => List.mem_append_left _ hp)) gRt _ 40 HNR.out.1 HNR.out.2 hbx _ _ _ rfl⟩
        rw [← hW]
        clear hW hbx e0 e1 e2 e3 e4 e5 f0
        obtain ⟨N, fw, hf0, hfs, hfc⟩ := calm_class (fun W => Bs w W [(gA, #[.int .u64 a0, .int .u64 a1], 38), (gB, #[.int .u64 b0, .int .u64 b1], 38), (gC, #[.int .u64 c0, .int .u64 c1], 38), (gX, #[.int .u64 hx, .int .u64 lx, .bool sx], 40), (gY, #[.int .u64 hy, .int .u64 ly, .bool sy], 40), (gZ, #[.int .u64 hz, .int .u64 lz, .bool sz], 40), (gN, #[.int .u64 9223372036854775808, .int .u64 0], 38), (gS, #[.int .u64 hu, .int .u64 lu, .bool su], 40), (gT, #[.int .u64 hu, .int .u64 lu, .bool su], 40), (gBk, #[.int .u64 hx, .int .u64 lx, .bool sx], 40), (gLf, #[.int .u64 hp, .int .u64 lp, .bool sp], 40), (gRt, #[.int .u64 hp, .int .u64 lp, .bool sp], 40)]) W12 HBW12.out.drew (fun W w' h hb => h.below hb)
        have hne : Nonempty N := ⟨hf0.choose⟩
        have HFC := Aside0.mk hfc
        have HFS := Aside0.mk hfs
        have qgLf0 : ∀ n, (fw n).cell? ⟨gLf, 0, none⟩ = some (.int .u64 hp) := fun n => (blk_cell (Bs.get (hfs n) (gLf, #[.int .u64 hp, .int .u64 lp, .bool sp], 40) (by simp)) 0).trans rfl
        have qgLf1 : ∀ n, (fw n).cell? ⟨gLf, 1, none⟩ = some (.int .u64 lp) := fun n => (blk_cell (Bs.get (hfs n) (gLf, #[.int .u64 hp, .int .u64 lp, .bool sp], 40) (by simp)) 1).trans rfl
        have qgLf2 : ∀ n, (fw n).cell? ⟨gLf, 2, none⟩ = some (.bool sp) := fun n => (blk_cell (Bs.get (hfs n) (gLf, #[.int .u64 hp, .int .u64 lp, .bool sp], 40) (by simp)) 2).trans rfl
        have qgRt0 : ∀ n, (fw n).cell? ⟨gRt, 0, none⟩ = some (.int .u64 hp) := fun n => (blk_cell (Bs.get (hfs n) (gRt, #[.int .u64 hp, .int .u64 lp, .bool sp], 40) (by simp)) 0).trans rfl
        have qgRt1 : ∀ n, (fw n).cell? ⟨gRt, 1, none⟩ = some (.int .u64 lp) := fun n => (blk_cell (Bs.get (hfs n) (gRt, #[.int .u64 hp, .int .u64 lp, .bool sp], 40) (by simp)) 1).trans rfl
        have qgRt2 : ∀ n, (fw n).cell? ⟨gRt, 2, none⟩ = some (.bool sp) := fun n => (blk_cell (Bs.get (hfs n) (gRt, #[.int .u64 hp, .int .u64 lp, .bool sp], 40) (by simp)) 2).trans rfl
        clear hfs hfc
        refine wp_region_calm fw (by kernel_rfl) (by kernel_rfl) hf0 ?_
        repeat (go_big_quiet_step ((first
          | (go_at_call 26; with_reducible exact Calls.calm HFC (HWp.out _)))))
        refine wpQuiet_nil ?_
        intro _ hw'
        obtain ⟨nq, hw''⟩ := hw'
        subst hw''
        have HBW13 : Aside0 (Bs w (fw nq) [(gA, #[.int .u64 a0, .int .u64 a1], 38), (gB, #[.int .u64 b0, .int .u64 b1], 38), (gC, #[.int .u64 c0, .int .u64 c1], 38), (gX, #[.int .u64 hx, .int .u64 lx, .bool sx], 40), (gY, #[.int .u64 hy, .int .u64 ly, .bool sy], 40), (gZ, #[.int .u64 hz, .int .u64 lz, .bool sz], 40), (gN, #[.int .u64 9223372036854775808, .int .u64 0], 38), (gS, #[.int .u64 hu, .int .u64 lu, .bool su], 40), (gT, #[.int .u64 hu, .int .u64 lu, .bool su], 40), (gBk, #[.int .u64 hx, .int .u64 lx, .bool sx], 40), (gLf, #[.int .u64 hp, .int .u64 lp, .bool sp], 40), (gRt, #[.int .u64 hp, .int .u64 lp, .bool sp], 40)]) := ⟨HFS.out nq⟩
        obtain ⟨W13, hW⟩ : ∃ W, W = fw nq := ⟨_, rfl⟩
        rw [← hW] at HBW13 ⊢
        clear hW
        clear HFC HFS hf0 hne qgLf0 qgLf1 qgLf2 qgRt0 qgRt1 qgRt2
        go_wp2_with (fail)
        go_meet
        case rel => exact Bs.sub HBW13.out (fun p hp => by simp only [List.mem_cons, List.not_mem_nil, or_false] at hp ⊢; rcases hp with h | h | h | h | h | h | h | h | h <;> simp [h])
      · have hqb : (eq == 0) = false := beq_eq_false_iff_ne.mpr hq0
        clear hq0
        go_wp2_with (fail)
        go_meet
        case rel => exact Bs.sub HBW11.out (fun p hp => by simp only [List.mem_cons, List.not_mem_nil, or_false] at hp ⊢; rcases hp with h | h | h | h | h | h | h | h | h <;> simp [h])
    · have heb : (eu == 0) = false := beq_eq_false_iff_ne.mpr he
      clear he
      go_wp2_with (fail)
      go_meet
      case rel => exact HBW7.out
  case rest =>
    obtain ⟨W10, hW⟩ : ∃ W, W = wc := ⟨_, rfl⟩
    have HBW10 : Aside0 (Bs w W10 [(gA, #[.int .u64 a0, .int .u64 a1], 38), (gB, #[.int .u64 b0, .int .u64 b1], 38), (gC, #[.int .u64 c0, .int .u64 c1], 38), (gX, #[.int .u64 hx, .int .u64 lx, .bool sx], 40), (gY, #[.int .u64 hy, .int .u64 ly, .bool sy], 40), (gZ, #[.int .u64 hz, .int .u64 lz, .bool sz], 40), (gN, #[.int .u64 9223372036854775808, .int .u64 0], 38), (gS, #[.int .u64 hu, .int .u64 lu, .bool su], 40), (gT, #[.int .u64 hu, .int .u64 lu, .bool su], 40)]) := ⟨by rw [hW]; exact hcut⟩
    rw [← hW]
    clear hW hcut
    go_upto_region 21 with (fail)
    go_cut [24, 25] from 155 to 161 (fun v24 v25 wc => OutR w [(gA, #[.int .u64 a0, .int .u64 a1], 38), (gB, #[.int .u64 b0, .int .u64 b1], 38), (gC, #[.int .u64 c0, .int .u64 c1], 38), (gX, #[.int .u64 hx, .int .u64 lx, .bool sx], 40), (gY, #[.int .u64 hy, .int .u64 ly, .bool sy], 40), (gZ, #[.int .u64 hz, .int .u64 lz, .bool sz], 40), (gN, #[.int .u64 9223372036854775808, .int .u64 0], 38), (gS, #[.int .u64 hu, .int .u64 lu, .bool su], 40), (gT, #[.int .u64 hu, .int .u64 lu, .bool su], 40)] v24 v25 wc)
    case first =>
      have qgX0 : W10.cell? ⟨gX, 0, none⟩ = some (.int .u64 hx) := (blk_cell (Bs.get HBW10.out (gX, #[.int .u64 hx, .int .u64 lx, .bool sx], 40) (by simp)) 0).trans rfl
      have qgX1 : W10.cell? ⟨gX, 1, none⟩ = some (.int .u64 lx) := (blk_cell (Bs.get HBW10.out (gX, #[.int .u64 hx, .int .u64 lx, .bool sx], 40) (by simp)) 1).trans rfl
      have qgX2 : W10.cell? ⟨gX, 2, none⟩ = some (.bool sx) := (blk_cell (Bs.get HBW10.out (gX, #[.int .u64 hx, .int .u64 lx, .bool sx], 40) (by simp)) 2).trans rfl
      have HBS := HBW10.out
      have HBD := HBS.drew
      have hn0 : True := trivial
      have HSB : Aside0 (∀ w', Bs w w' [(gA, #[.int .u64 a0, .int .u64 a1], 38), (gB, #[.int .u64 b0, .int .u64 b1], 38), (gC, #[.int .u64 c0, .int .u64 c1], 38), (gX, #[.int .u64 hx, .int .u64 lx, .bool sx], 40), (gY, #[.int .u64 hy, .int .u64 ly, .bool sy], 40), (gZ, #[.int .u64 hz, .int .u64 lz, .bool sz], 40), (gN, #[.int .u64 9223372036854775808, .int .u64 0], 38), (gS, #[.int .u64 hu, .int .u64 lu, .bool su], 40), (gT, #[.int .u64 hu, .int .u64 lu, .bool su], 40)] → (w'.cell? ⟨gX, 0, none⟩ = some (.int .u64 hx) ∧ w'.cell? ⟨gX, 1, none⟩ = some (.int .u64 lx) ∧ w'.cell? ⟨gX, 2, none⟩ = some (.bool sx) ∧ Bs w w' [(gA, #[.int .u64 a0, .int .u64 a1], 38), (gB, #[.int .u64 b0, .int .u64 b1], 38), (gC, #[.int .u64 c0, .int .u64 c1], 38), (gX, #[.int .u64 hx, .int .u64 lx, .bool sx], 40), (gY, #[.int .u64 hy, .int .u64 ly, .bool sy], 40), (gZ, #[.int .u64 hz, .int .u64 lz, .bool sz], 40), (gN, #[.int .u64 9223372036854775808, .int .u64 0], 38), (gS, #[.int .u64 hu, .int .u64 lu, .bool su], 40), (gT, #[.int .u64 hu, .int .u64 lu, .bool su], 40)])) := ⟨fun w' h => ⟨(blk_cell (Bs.get h (gX, #[.int .u64 hx, .int .u64 lx, .bool sx], 40) (by simp)) 0).trans rfl, (blk_cell (Bs.get h (gX, #[.int .u64 hx, .int .u64 lx, .bool sx], 40) (by simp)) 1).trans rfl, (blk_cell (Bs.get h (gX, #[.int .u64 hx, .int .u64 lx, .bool sx], 40) (by simp)) 2).trans rfl, h⟩⟩
      go_region_held3 (fun w' => w'.cell? ⟨gX, 0, none⟩ = some (.int .u64 hx) ∧ w'.cell? ⟨gX, 1, none⟩ = some (.int .u64 lx) ∧ w'.cell? ⟨gX, 2, none⟩ = some (.bool sx) ∧ Bs w w' [(gA, #[.int .u64 a0, .int .u64 a1], 38), (gB, #[.int .u64 b0, .int .u64 b1], 38), (gC, #[.int .u64 c0, .int .u64 c1], 38), (gX, #[.int .u64 hx, .int .u64 lx, .bool sx], 40), (gY, #[.int .u64 hy, .int .u64 ly, .bool sy], 40), (gZ, #[.int .u64 hz, .int .u64 lz, .bool sz], 40), (gN, #[.int .u64 9223372036854775808, .int .u64 0], 38), (gS, #[.int .u64 hu, .int .u64 lu, .bool su], 40), (gT, #[.int .u64 hu, .int .u64 lu, .bool su], 40)]) ((go_split_ands; refine HSB.out _ ?_; first | (with_reducible assumption) | (with_reducible exact Bs.drew (by with_reducible assumption)) | (with_reducible exact Bs.below' (by with_reducible assumption) (by with_reducible assumption)) | (with_reducible exact Bs.new (by with_reducible assumption) _) | (with_reducible exact Bs.drew (Bs.new HBS _)) | (with_reducible exact Bs.keep3 HBS (by with_reducible assumption) _ _ _) | (with_reducible exact Bs.keep3 HBD (by with_reducible assumption) _ _ _) | (with_reducible exact Bs.keep3 (Bs.below' HB37.out HBD) (by with_reducible assumption) _ _ _) | (with_reducible exact Bs.keep3 (Bs.below' HB34.out (Bs.below' HB37.out HBD)) (by with_reducible assumption) _ _ _)))
          (first
            | (go_at_call 37; (with_reducible refine (HNx.out _).mono ?_); rintro e v37 ⟨rfl, hb⟩; have HB37 := Aside0.mk hb; (first | (with_reducible have hn0 := new_box' hb) | (with_reducible have hn0 := new_box hb) | (with_reducible have hn0 := (hb.block _ (blk_lt hn0)).trans hn0) | skip); (first | (with_reducible have hb6 := box_cells hn0; obtain ⟨e0, e1, e2, e3, e4, e5⟩ := hb6) | skip))
            | (go_at_call 34; (with_reducible refine (HO.out _).mono ?_); rintro e v34 ⟨rfl, hb⟩; have HB34 := Aside0.mk hb; (first | (with_reducible have hn0 := new_box' hb) | (with_reducible have hn0 := new_box hb) | (with_reducible have hn0 := (hb.block _ (blk_lt hn0)).trans hn0) | skip); (first | (with_reducible have hb6 := box_cells hn0; obtain ⟨e0, e1, e2, e3, e4, e5⟩ := hb6) | skip)))
      all_goals (go_wp2_with (fail); go_meet)
      all_goals (unfold OutR; refine ⟨_, rfl, rfl, Bs.cons (by go_split_ands; with_reducible assumption) ?_⟩)
      all_goals first | exact World.alloc_heap_new _ _ | exact blk_set (blk_set (blk_set hn0 0 (.int .u64 0)) 1 (.int .u64 0)) 2 (.bool false)
    case rest =>
      obtain ⟨gO, rfl, rfl, hbo⟩ := hcut
      obtain ⟨W11, hW⟩ : ∃ W, W = wc := ⟨_, rfl⟩
      have HBW11 : Aside0 (Bs w W11 [(gA, #[.int .u64 a0, .int .u64 a1], 38), (gB, #[.int .u64 b0, .int .u64 b1], 38), (gC, #[.int .u64 c0, .int .u64 c1], 38), (gX, #[.int .u64 hx, .int .u64 lx, .bool sx], 40), (gY, #[.int .u64 hy, .int .u64 ly, .bool sy], 40), (gZ, #[.int .u64 hz, .int .u64 lz, .bool sz], 40), (gN, #[.int .u64 9223372036854775808, .int .u64 0], 38), (gS, #[.int .u64 hu, .int .u64 lu, .bool su], 40), (gT, #[.int .u64 hu, .int .u64 lu, .bool su], 40), (gO, #[.int .u64 0, .int .u64 0, .bool false], 40)]) := ⟨by rw [hW]; exact hbo⟩
      rw [← hW]
      clear hW hbo
      have qgX0 : W11.cell? ⟨gX, 0, none⟩ = some (.int .u64 hx) := (blk_cell (Bs.get HBW11.out (gX, #[.int .u64 hx, .int .u64 lx, .bool sx], 40) (by simp)) 0).trans rfl
      have qgX1 : W11.cell? ⟨gX, 1, none⟩ = some (.int .u64 lx) := (blk_cell (Bs.get HBW11.out (gX, #[.int .u64 hx, .int .u64 lx, .bool sx], 40) (by simp)) 1).trans rfl
      have qgX2 : W11.cell? ⟨gX, 2, none⟩ = some (.bool sx) := (blk_cell (Bs.get HBW11.out (gX, #[.int .u64 hx, .int .u64 lx, .bool sx], 40) (by simp)) 2).trans rfl
      go_upto_region 23 with (first
          | ((with_reducible refine gate_callee (f := 28) rfl ?_); (try (refine gate_guard (by rfl) ?_; dsimp only)); refine goesL_ (some 164) rfl rfl Try.func28 (by kernel_rfl) rfl #[.agg #[.int .u64 hx, .int .u64 lx, .bool sx]] rfl (by (try simp only [List.map_toArray, List.map_cons, List.map_nil]); first | done | rfl) ?_; (with_reducible refine (HT.out _).mono ?_); rintro e vW14_0 ⟨rfl, hb⟩; refine ⟨_, rfl, ?_⟩; have HVW14_0 := Aside0.mk (Bs.below HBW11.out hb); clear hb)
          | ((with_reducible refine gate_callee (f := 24) rfl ?_); (try (refine gate_guard (by rfl) ?_; dsimp only)); refine goesL_ (some 165) rfl rfl Try.func24 (by kernel_rfl) rfl #[.string T] rfl (by (try simp only [List.map_toArray, List.map_cons, List.map_nil]); first | done | rfl) ?_; (with_reducible refine (HP.out _).mono ?_); rintro e vW14_1 ⟨rfl, hb⟩; refine ⟨_, rfl, ?_⟩; have HVW14_1 := Aside0.mk (Bs.below HVW14_0.out hb); clear hb))
      clear qgX0 qgX1 qgX2
      obtain ⟨W14, hW⟩ : ∃ W, W = vW14_1.alloc (.cells #[.int .u64 hx, .int .u64 lx, .bool sx] 40) := ⟨_, rfl⟩
      obtain ⟨gAg, hg⟩ : ∃ g, g = vW14_1.heap.size := ⟨_, rfl⟩
      have HBW14 : Aside0 (Bs w W14 [(gA, #[.int .u64 a0, .int .u64 a1], 38), (gB, #[.int .u64 b0, .int .u64 b1], 38), (gC, #[.int .u64 c0, .int .u64 c1], 38), (gX, #[.int .u64 hx, .int .u64 lx, .bool sx], 40), (gY, #[.int .u64 hy, .int .u64 ly, .bool sy], 40), (gZ, #[.int .u64 hz, .int .u64 lz, .bool sz], 40), (gN, #[.int .u64 9223372036854775808, .int .u64 0], 38), (gS, #[.int .u64 hu, .int .u64 lu, .bool su], 40), (gT, #[.int .u64 hu, .int .u64 lu, .bool su], 40), (gO, #[.int .u64 0, .int .u64 0, .bool false], 40), (gAg, #[.int .u64 hx, .int .u64 lx, .bool sx], 40)]) := ⟨by have h := Bs.alloc HVW14_1.out #[.int .u64 hx, .int .u64 lx, .bool sx] 40; rw [← hW, ← hg] at h; exact h⟩
      rw [← hW, ← hg]
      clear hW hg
      cases hqa : qa with
      | true =>
        have ka' : (ea == 0) = false := by rw [ka, hqa]; rfl
        have HWA' : (∀ W, (Op.equalIn 10000 38 (.agg #[.int .u64 px, .int .u64 rx]) (.agg #[.int .u64 a0, .int .u64 a1])).run Try.prog W = .ok false W) := by rw [hqa] at HWA; exact HWA
        have HZA' := HZA.out hqa
        clear hqa HWA ka
        obtain ⟨N, fw, hf0, hfs, hfc⟩ := calm_class (fun W => Bs w W [(gA, #[.int .u64 a0, .int .u64 a1], 38), (gB, #[.int .u64 b0, .int .u64 b1], 38), (gC, #[.int .u64 c0, .int .u64 c1], 38), (gX, #[.int .u64 hx, .int .u64 lx, .bool sx], 40), (gY, #[.int .u64 hy, .int .u64 ly, .bool sy], 40), (gZ, #[.int .u64 hz, .int .u64 lz, .bool sz], 40), (gN, #[.int .u64 9223372036854775808, .int .u64 0], 38), (gS, #[.int .u64 hu, .int .u64 lu, .bool su], 40), (gT, #[.int .u64 hu, .int .u64 lu, .bool su], 40), (gO, #[.int .u64 0, .int .u64 0, .bool false], 40), (gAg, #[.int .u64 hx, .int .u64 lx, .bool sx], 40)]) W14 HBW14.out.drew (fun W w' h hb => h.below hb)
        have hne : Nonempty N := ⟨hf0.choose⟩
        have HFC := Aside0.mk hfc
        have HFS := Aside0.mk hfs
        have qgA0 : ∀ n, (fw n).cell? ⟨gA, 0, none⟩ = some (.int .u64 a0) := fun n => (blk_cell (Bs.get (hfs n) (gA, #[.int .u64 a0, .int .u64 a1], 38) (by simp)) 0).trans rfl
        have qgA1 : ∀ n, (fw n).cell? ⟨gA, 1, none⟩ = some (.int .u64 a1) := fun n => (blk_cell (Bs.get (hfs n) (gA, #[.int .u64 a0, .int .u64 a1], 38) (by simp)) 1).trans rfl
        have qgX0 : ∀ n, (fw n).cell? ⟨gX, 0, none⟩ = some (.int .u64 hx) := fun n => (blk_cell (Bs.get (hfs n) (gX, #[.int .u64 hx, .int .u64 lx, .bool sx], 40) (by simp)) 0).trans rfl
        have qgX1 : ∀ n, (fw n).cell? ⟨gX, 1, none⟩ = some (.int .u64 lx) := fun n => (blk_cell (Bs.get (hfs n) (gX, #[.int .u64 hx, .int .u64 lx, .bool sx], 40) (by simp)) 1).trans rfl
        have qgX2 : ∀ n, (fw n).cell? ⟨gX, 2, none⟩ = some (.bool sx) := fun n => (blk_cell (Bs.get (hfs n) (gX, #[.int .u64 hx, .int .u64 lx, .bool sx], 40) (by simp)) 2).trans rfl
        have qgO0 : ∀ n, (fw n).cell? ⟨gO, 0, none⟩ = some (.int .u64 0) := fun n => (blk_cell (Bs.get (hfs n) (gO, #[.int .u64 0, .int .u64 0, .bool false], 40) (by simp)) 0).trans rfl
        have qgO1 : ∀ n, (fw n).cell? ⟨gO, 1, none⟩ = some (.int .u64 0) := fun n => (blk_cell (Bs.get (hfs n) (gO, #[.int .u64 0, .int .u64 0, .bool false], 40) (by simp)) 1).trans rfl
        have qgO2 : ∀ n, (fw n).cell? ⟨gO, 2, none⟩ = some (.bool false) := fun n => (blk_cell (Bs.get (hfs n) (gO, #[.int .u64 0, .int .u64 0, .bool false], 40) (by simp)) 2).trans rfl
        have qgAg0 : ∀ n, (fw n).cell? ⟨gAg, 0, none⟩ = some (.int .u64 hx) := fun n => (blk_cell (Bs.get (hfs n) (gAg, #[.int .u64 hx, .int .u64 lx, .bool sx], 40) (by simp)) 0).trans rfl
        have qgAg1 : ∀ n, (fw n).cell? ⟨gAg, 1, none⟩ = some (.int .u64 lx) := fun n => (blk_cell (Bs.get (hfs n) (gAg, #[.int .u64 hx, .int .u64 lx, .bool sx], 40) (by simp)) 1).trans rfl
        have qgAg2 : ∀ n, (fw n).cell? ⟨gAg, 2, none⟩ = some (.bool sx) := fun n => (blk_cell (Bs.get (hfs n) (gAg, #[.int .u64 hx, .int .u64 lx, .bool sx], 40) (by simp)) 2).trans rfl
        clear hfs hfc
        refine wp_region_calm fw (by kernel_rfl) (by kernel_rfl) hf0 ?_
        repeat (go_big_quiet_step ((first
          | (go_at_call 36; with_reducible exact Calls.calm HFC (HS0.out _))
          | (go_at_call 26; with_reducible exact Calls.calm HFC (HWx.out _)))))
        refine wpQuiet_nil ?_
        intro _ hw'
        obtain ⟨nq, hw''⟩ := hw'
        subst hw''
        have HBW15 : Aside0 (Bs w (fw nq) [(gA, #[.int .u64 a0, .int .u64 a1], 38), (gB, #[.int .u64 b0, .int .u64 b1], 38), (gC, #[.int .u64 c0, .int .u64 c1], 38), (gX, #[.int .u64 hx, .int .u64 lx, .bool sx], 40), (gY, #[.int .u64 hy, .int .u64 ly, .bool sy], 40), (gZ, #[.int .u64 hz, .int .u64 lz, .bool sz], 40), (gN, #[.int .u64 9223372036854775808, .int .u64 0], 38), (gS, #[.int .u64 hu, .int .u64 lu, .bool su], 40), (gT, #[.int .u64 hu, .int .u64 lu, .bool su], 40), (gO, #[.int .u64 0, .int .u64 0, .bool false], 40), (gAg, #[.int .u64 hx, .int .u64 lx, .bool sx], 40)]) := ⟨HFS.out nq⟩
        obtain ⟨W15, hW⟩ : ∃ W, W = fw nq := ⟨_, rfl⟩
        rw [← hW] at HBW15 ⊢
        clear hW
        clear HFC HFS hf0 hne qgA0 qgA1 qgX0 qgX1 qgX2 qgO0 qgO1 qgO2 qgAg0 qgAg1 qgAg2
        go_wp2
        go_ret
        exact ⟨rfl, HBW15.out.bel⟩
      | false =>
        have ka' : (ea == 0) = true := by rw [ka, hqa]; rfl
        have HWA' : (∀ W, (Op.equalIn 10000 38 (.agg #[.int .u64 px, .int .u64 rx]) (.agg #[.int .u64 a0, .int .u64 a1])).run Try.prog W = .ok true W) := by rw [hqa] at HWA; exact HWA
        clear hqa HWA ka
        obtain ⟨N, fw, hf0, hfs, hfc⟩ := calm_class (fun W => Bs w W [(gA, #[.int .u64 a0, .int .u64 a1], 38), (gB, #[.int .u64 b0, .int .u64 b1], 38), (gC, #[.int .u64 c0, .int .u64 c1], 38), (gX, #[.int .u64 hx, .int .u64 lx, .bool sx], 40), (gY, #[.int .u64 hy, .int .u64 ly, .bool sy], 40), (gZ, #[.int .u64 hz, .int .u64 lz, .bool sz], 40), (gN, #[.int .u64 9223372036854775808, .int .u64 0], 38), (gS, #[.int .u64 hu, .int .u64 lu, .bool su], 40), (gT, #[.int .u64 hu, .int .u64 lu, .bool su], 40), (gO, #[.int .u64 0, .int .u64 0, .bool false], 40), (gAg, #[.int .u64 hx, .int .u64 lx, .bool sx], 40)]) W14 HBW14.out.drew (fun W w' h hb => h.below hb)
        have hne : Nonempty N := ⟨hf0.choose⟩
        have HFC := Aside0.mk hfc
        have HFS := Aside0.mk hfs
        have qgA0 : ∀ n, (fw n).cell? ⟨gA, 0, none⟩ = some (.int .u64 a0) := fun n => (blk_cell (Bs.get (hfs n) (gA, #[.int .u64 a0, .int .u64 a1], 38) (by simp)) 0).trans rfl
        have qgA1 : ∀ n, (fw n).cell? ⟨gA, 1, none⟩ = some (.int .u64 a1) := fun n => (blk_cell (Bs.get (hfs n) (gA, #[.int .u64 a0, .int .u64 a1], 38) (by simp)) 1).trans rfl
        have qgX0 : ∀ n, (fw n).cell? ⟨gX, 0, none⟩ = some (.int .u64 hx) := fun n => (blk_cell (Bs.get (hfs n) (gX, #[.int .u64 hx, .int .u64 lx, .bool sx], 40) (by simp)) 0).trans rfl
        have qgX1 : ∀ n, (fw n).cell? ⟨gX, 1, none⟩ = some (.int .u64 lx) := fun n => (blk_cell (Bs.get (hfs n) (gX, #[.int .u64 hx, .int .u64 lx, .bool sx], 40) (by simp)) 1).trans rfl
        have qgX2 : ∀ n, (fw n).cell? ⟨gX, 2, none⟩ = some (.bool sx) := fun n => (blk_cell (Bs.get (hfs n) (gX, #[.int .u64 hx, .int .u64 lx, .bool sx], 40) (by simp)) 2).trans rfl
        have qgO0 : ∀ n, (fw n).cell? ⟨gO, 0, none⟩ = some (.int .u64 0) := fun n => (blk_cell (Bs.get (hfs n) (gO, #[.int .u64 0, .int .u64 0, .bool false], 40) (by simp)) 0).trans rfl
        have qgO1 : ∀ n, (fw n).cell? ⟨gO, 1, none⟩ = some (.int .u64 0) := fun n => (blk_cell (Bs.get (hfs n) (gO, #[.int .u64 0, .int .u64 0, .bool false], 40) (by simp)) 1).trans rfl
        have qgO2 : ∀ n, (fw n).cell? ⟨gO, 2, none⟩ = some (.bool false) := fun n => (blk_cell (Bs.get (hfs n) (gO, #[.int .u64 0, .int .u64 0, .bool false], 40) (by simp)) 2).trans rfl
        have qgAg0 : ∀ n, (fw n).cell? ⟨gAg, 0, none⟩ = some (.int .u64 hx) := fun n => (blk_cell (Bs.get (hfs n) (gAg, #[.int .u64 hx, .int .u64 lx, .bool sx], 40) (by simp)) 0).trans rfl
        have qgAg1 : ∀ n, (fw n).cell? ⟨gAg, 1, none⟩ = some (.int .u64 lx) := fun n => (blk_cell (Bs.get (hfs n) (gAg, #[.int .u64 hx, .int .u64 lx, .bool sx], 40) (by simp)) 1).trans rfl
        have qgAg2 : ∀ n, (fw n).cell? ⟨gAg, 2, none⟩ = some (.bool sx) := fun n => (blk_cell (Bs.get (hfs n) (gAg, #[.int .u64 hx, .int .u64 lx, .bool sx], 40) (by simp)) 2).trans rfl
        clear hfs hfc
        refine wp_region_calm fw (by kernel_rfl) (by kernel_rfl) hf0 ?_
        repeat (go_big_quiet_step ((first
          | (go_at_call 36; with_reducible exact Calls.calm HFC (HS0.out _))
          | (go_at_call 26; with_reducible exact Calls.calm HFC (HWx.out _)))))
        refine wpQuiet_nil ?_
        intro _ hw'
        obtain ⟨nq, hw''⟩ := hw'
        subst hw''
        have HBW16 : Aside0 (Bs w (fw nq) [(gA, #[.int .u64 a0, .int .u64 a1], 38), (gB, #[.int .u64 b0, .int .u64 b1], 38), (gC, #[.int .u64 c0, .int .u64 c1], 38), (gX, #[.int .u64 hx, .int .u64 lx, .bool sx], 40), (gY, #[.int .u64 hy, .int .u64 ly, .bool sy], 40), (gZ, #[.int .u64 hz, .int .u64 lz, .bool sz], 40), (gN, #[.int .u64 9223372036854775808, .int .u64 0], 38), (gS, #[.int .u64 hu, .int .u64 lu, .bool su], 40), (gT, #[.int .u64 hu, .int .u64 lu, .bool su], 40), (gO, #[.int .u64 0, .int .u64 0, .bool false], 40), (gAg, #[.int .u64 hx, .int .u64 lx, .bool sx], 40)]) := ⟨HFS.out nq⟩
        obtain ⟨W16, hW⟩ : ∃ W, W = fw nq := ⟨_, rfl⟩
        rw [← hW] at HBW16 ⊢
        clear hW
        clear HFC HFS hf0 hne qgA0 qgA1 qgX0 qgX1 qgX2 qgO0 qgO1 qgO2 qgAg0 qgAg1 qgAg2
        go_wp2
        go_ret
        exact ⟨rfl, HBW16.out.bel⟩
end Go.Proofs.Ythmjmkbahneneaa.PMon
