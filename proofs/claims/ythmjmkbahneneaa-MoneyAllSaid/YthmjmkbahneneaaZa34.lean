/- MonPo, struck of what this claim does not name (wip/tools/pack2.py). -/
import Derived.Test.YthmjmkbahneneaaZa31
import Derived.Test.YthmjmkbahneneaaZa24
import Derived.Test.YthmjmkbahneneaaZa33
section
namespace Go.Proofs.Ythmjmkbahneneaa.PMon
open Go.RowKit Go.Proofs.YthmjmkbahneneaaW.PrintWords Go.Proofs.YthmjmkbahneneaaW.PrintLast Go.Proofs.YthmjmkbahneneaaW.PrintMore
set_option linter.unusedVariables false
set_option linter.unusedSimpArgs false

set_option maxHeartbeats 8000000 in
set_option maxRecDepth 100000 in
theorem por_lo (h l x y r : Int) (s : Bool) (hr : r < 0) (w : World) :
    Calls Try.prog 69 #[.agg #[.int .u64 h, .int .u64 l, .bool s], .int .u32 x, .int .u32 y, .int .i64 r] w fun e w' => e = .returned (.tuple #[.agg #[.int .u64 0, .int .u64 0, .bool false], .int .i64 1]) ∧ Below w.heap.size w w' := by
  have c1 : decide (r < 0) = true := decide_eq_true hr
  clear hr
  go_enter Try.func69, Try.ntmps69
  go_upto_region 1 with (fail)
  obtain ⟨W1, hW⟩ : ∃ W, W = ((w.alloc (.cells #[.int .u64 h, .int .u64 l, .bool s] 40)).alloc (.cells #[.int .u64 0, .int .u64 0, .bool false] 40)) := ⟨_, rfl⟩
  obtain ⟨gA, hgA⟩ : ∃ g, g = w.heap.size := ⟨_, rfl⟩
  obtain ⟨gR, hgR⟩ : ∃ g, g = w.heap.size + 1 := ⟨_, rfl⟩
  have HBW1 : Aside0 (Bx w W1 [(gA, #[.int .u64 h, .int .u64 l, .bool s], 40), (gR, #[.int .u64 0, .int .u64 0, .bool false], 40)]) := ⟨by rw [hW, hgA, hgR]; exact Bx.allocs2 _ _ _ _ _⟩
  rw [← hW, ← hgR, ← hgA]
  clear hW hgA hgR
  have qgA0 : W1.cell? ⟨gA, 0, none⟩ = some (.int .u64 h) := (blk_cell (Bx.get HBW1.out (gA, #[.int .u64 h, .int .u64 l, .bool s], 40) (by simp)) 0).trans rfl
  have fgA0 : W1.frozen? ⟨gA, 0, none⟩ = false := blk_frozen (Bx.get HBW1.out (gA, #[.int .u64 h, .int .u64 l, .bool s], 40) (by simp)) 0
  have qgA1 : W1.cell? ⟨gA, 1, none⟩ = some (.int .u64 l) := (blk_cell (Bx.get HBW1.out (gA, #[.int .u64 h, .int .u64 l, .bool s], 40) (by simp)) 1).trans rfl
  have fgA1 : W1.frozen? ⟨gA, 1, none⟩ = false := blk_frozen (Bx.get HBW1.out (gA, #[.int .u64 h, .int .u64 l, .bool s], 40) (by simp)) 1
  have qgA2 : W1.cell? ⟨gA, 2, none⟩ = some (.bool s) := (blk_cell (Bx.get HBW1.out (gA, #[.int .u64 h, .int .u64 l, .bool s], 40) (by simp)) 2).trans rfl
  have fgA2 : W1.frozen? ⟨gA, 2, none⟩ = false := blk_frozen (Bx.get HBW1.out (gA, #[.int .u64 h, .int .u64 l, .bool s], 40) (by simp)) 2
  have qgR0 : W1.cell? ⟨gR, 0, none⟩ = some (.int .u64 0) := (blk_cell (Bx.get HBW1.out (gR, #[.int .u64 0, .int .u64 0, .bool false], 40) (by simp)) 0).trans rfl
  have fgR0 : W1.frozen? ⟨gR, 0, none⟩ = false := blk_frozen (Bx.get HBW1.out (gR, #[.int .u64 0, .int .u64 0, .bool false], 40) (by simp)) 0
  have qgR1 : W1.cell? ⟨gR, 1, none⟩ = some (.int .u64 0) := (blk_cell (Bx.get HBW1.out (gR, #[.int .u64 0, .int .u64 0, .bool false], 40) (by simp)) 1).trans rfl
  have fgR1 : W1.frozen? ⟨gR, 1, none⟩ = false := blk_frozen (Bx.get HBW1.out (gR, #[.int .u64 0, .int .u64 0, .bool false], 40) (by simp)) 1
  have qgR2 : W1.cell? ⟨gR, 2, none⟩ = some (.bool false) := (blk_cell (Bx.get HBW1.out (gR, #[.int .u64 0, .int .u64 0, .bool false], 40) (by simp)) 2).trans rfl
  have fgR2 : W1.frozen? ⟨gR, 2, none⟩ = false := blk_frozen (Bx.get HBW1.out (gR, #[.int .u64 0, .int .u64 0, .bool false], 40) (by simp)) 2
  go_wp2
  have g1 := Bx.get HBW1.out (gR, #[.int .u64 0, .int .u64 0, .bool false], 40) (by simp)
  have g2 := Bx.old HBW1.out (gR, #[.int .u64 0, .int .u64 0, .bool false], 40) (by simp)
  refine bodyPost_ret (results_ct rfl _ _ gR 40 #[.int .u64 0, .int .u64 0, .bool false] (0, 0) _ rfl (blk_put (cs := #[.int .u64 0, .int .u64 0, .bool false]) (blk_put (cs := #[.int .u64 0, .int .u64 0, .bool false]) (blk_put (cs := #[.int .u64 0, .int .u64 0, .bool false]) (show (W1).heap[gR]? = _ from g1) 0 _ rfl) 1 _ rfl) 2 _ rfl) Try.underlying40 rfl (by kernel_rfl)) rfl ⟨rfl, ?_⟩
  refine below_set (below_set (below_set ?_ g2) g2) g2
  repeat first | exact HBW1.out.bel | refine pw_below_drewN ?_ _ | refine below_drew1 ?_

set_option maxHeartbeats 8000000 in
set_option maxRecDepth 100000 in
theorem por_hi (h l x y r : Int) (s : Bool) (hr : 2 < r) (w : World) :
    Calls Try.prog 69 #[.agg #[.int .u64 h, .int .u64 l, .bool s], .int .u32 x, .int .u32 y, .int .i64 r] w fun e w' => e = .returned (.tuple #[.agg #[.int .u64 0, .int .u64 0, .bool false], .int .i64 1]) ∧ Below w.heap.size w w' := by
  have c1 : decide (r < 0) = false := decide_eq_false (by omega)
  have c2 : decide (2 < r) = true := decide_eq_true hr
  clear hr
  go_enter Try.func69, Try.ntmps69
  go_upto_region 1 with (fail)
  obtain ⟨W1, hW⟩ : ∃ W, W = ((w.alloc (.cells #[.int .u64 h, .int .u64 l, .bool s] 40)).alloc (.cells #[.int .u64 0, .int .u64 0, .bool false] 40)) := ⟨_, rfl⟩
  obtain ⟨gA, hgA⟩ : ∃ g, g = w.heap.size := ⟨_, rfl⟩
  obtain ⟨gR, hgR⟩ : ∃ g, g = w.heap.size + 1 := ⟨_, rfl⟩
  have HBW1 : Aside0 (Bx w W1 [(gA, #[.int .u64 h, .int .u64 l, .bool s], 40), (gR, #[.int .u64 0, .int .u64 0, .bool false], 40)]) := ⟨by rw [hW, hgA, hgR]; exact Bx.allocs2 _ _ _ _ _⟩
  rw [← hW, ← hgR, ← hgA]
  clear hW hgA hgR
  have qgA0 : W1.cell? ⟨gA, 0, none⟩ = some (.int .u64 h) := (blk_cell (Bx.get HBW1.out (gA, #[.int .u64 h, .int .u64 l, .bool s], 40) (by simp)) 0).trans rfl
  have fgA0 : W1.frozen? ⟨gA, 0, none⟩ = false := blk_frozen (Bx.get HBW1.out (gA, #[.int .u64 h, .int .u64 l, .bool s], 40) (by simp)) 0
  have qgA1 : W1.cell? ⟨gA, 1, none⟩ = some (.int .u64 l) := (blk_cell (Bx.get HBW1.out (gA, #[.int .u64 h, .int .u64 l, .bool s], 40) (by simp)) 1).trans rfl
  have fgA1 : W1.frozen? ⟨gA, 1, none⟩ = false := blk_frozen (Bx.get HBW1.out (gA, #[.int .u64 h, .int .u64 l, .bool s], 40) (by simp)) 1
  have qgA2 : W1.cell? ⟨gA, 2, none⟩ = some (.bool s) := (blk_cell (Bx.get HBW1.out (gA, #[.int .u64 h, .int .u64 l, .bool s], 40) (by simp)) 2).trans rfl
  have fgA2 : W1.frozen? ⟨gA, 2, none⟩ = false := blk_frozen (Bx.get HBW1.out (gA, #[.int .u64 h, .int .u64 l, .bool s], 40) (by simp)) 2
  have qgR0 : W1.cell? ⟨gR, 0, none⟩ = some (.int .u64 0) := (blk_cell (Bx.get HBW1.out (gR, #[.int .u64 0, .int .u64 0, .bool false], 40) (by simp)) 0).trans rfl
  have fgR0 : W1.frozen? ⟨gR, 0, none⟩ = false := blk_frozen (Bx.get HBW1.out (gR, #[.int .u64 0, .int .u64 0, .bool false], 40) (by simp)) 0
  have qgR1 : W1.cell? ⟨gR, 1, none⟩ = some (.int .u64 0) := (blk_cell (Bx.get HBW1.out (gR, #[.int .u64 0, .int .u64 0, .bool false], 40) (by simp)) 1).trans rfl
  have fgR1 : W1.frozen? ⟨gR, 1, none⟩ = false := blk_frozen (Bx.get HBW1.out (gR, #[.int .u64 0, .int .u64 0, .bool false], 40) (by simp)) 1
  have qgR2 : W1.cell? ⟨gR, 2, none⟩ = some (.bool false) := (blk_cell (Bx.get HBW1.out (gR, #[.int .u64 0, .int .u64 0, .bool false], 40) (by simp)) 2).trans rfl
  have fgR2 : W1.frozen? ⟨gR, 2, none⟩ = false := blk_frozen (Bx.get HBW1.out (gR, #[.int .u64 0, .int .u64 0, .bool false], 40) (by simp)) 2
  go_wp2
  have g1 := Bx.get HBW1.out (gR, #[.int .u64 0, .int .u64 0, .bool false], 40) (by simp)
  have g2 := Bx.old HBW1.out (gR, #[.int .u64 0, .int .u64 0, .bool false], 40) (by simp)
  refine bodyPost_ret (results_ct rfl _ _ gR 40 #[.int .u64 0, .int .u64 0, .bool false] (0, 0) _ rfl (blk_put (cs := #[.int .u64 0, .int .u64 0, .bool false]) (blk_put (cs := #[.int .u64 0, .int .u64 0, .bool false]) (blk_put (cs := #[.int .u64 0, .int .u64 0, .bool false]) (show (W1).heap[gR]? = _ from g1) 0 _ rfl) 1 _ rfl) 2 _ rfl) Try.underlying40 rfl (by kernel_rfl)) rfl ⟨rfl, ?_⟩
  refine below_set (below_set (below_set ?_ g2) g2) g2
  repeat first | exact HBW1.out.bel | refine pw_below_drewN ?_ _ | refine below_drew1 ?_

set_option maxHeartbeats 8000000 in
set_option maxRecDepth 100000 in
theorem por_zero (h l x y r : Int) (s : Bool) (h0 : 0 ≤ r) (h2 : r ≤ 2) (hy : y = 0) (w : World) :
    Calls Try.prog 69 #[.agg #[.int .u64 h, .int .u64 l, .bool s], .int .u32 x, .int .u32 y, .int .i64 r] w fun e w' => e = .returned (.tuple #[.agg #[.int .u64 0, .int .u64 0, .bool false], .int .i64 11]) ∧ Below w.heap.size w w' := by
  have c1 : decide (r < 0) = false := decide_eq_false (by omega)
  have c2 : decide (2 < r) = false := decide_eq_false (by omega)
  have c3 : (y == 0) = true := beq_iff_eq.mpr hy
  clear h0 h2 hy
  go_enter Try.func69, Try.ntmps69
  go_upto_region 1 with (fail)
  obtain ⟨W1, hW⟩ : ∃ W, W = ((w.alloc (.cells #[.int .u64 h, .int .u64 l, .bool s] 40)).alloc (.cells #[.int .u64 0, .int .u64 0, .bool false] 40)) := ⟨_, rfl⟩
  obtain ⟨gA, hgA⟩ : ∃ g, g = w.heap.size := ⟨_, rfl⟩
  obtain ⟨gR, hgR⟩ : ∃ g, g = w.heap.size + 1 := ⟨_, rfl⟩
  have HBW1 : Aside0 (Bx w W1 [(gA, #[.int .u64 h, .int .u64 l, .bool s], 40), (gR, #[.int .u64 0, .int .u64 0, .bool false], 40)]) := ⟨by rw [hW, hgA, hgR]; exact Bx.allocs2 _ _ _ _ _⟩
  rw [← hW, ← hgR, ← hgA]
  clear hW hgA hgR
  have qgA0 : W1.cell? ⟨gA, 0, none⟩ = some (.int .u64 h) := (blk_cell (Bx.get HBW1.out (gA, #[.int .u64 h, .int .u64 l, .bool s], 40) (by simp)) 0).trans rfl
  have fgA0 : W1.frozen? ⟨gA, 0, none⟩ = false := blk_frozen (Bx.get HBW1.out (gA, #[.int .u64 h, .int .u64 l, .bool s], 40) (by simp)) 0
  have qgA1 : W1.cell? ⟨gA, 1, none⟩ = some (.int .u64 l) := (blk_cell (Bx.get HBW1.out (gA, #[.int .u64 h, .int .u64 l, .bool s], 40) (by simp)) 1).trans rfl
  have fgA1 : W1.frozen? ⟨gA, 1, none⟩ = false := blk_frozen (Bx.get HBW1.out (gA, #[.int .u64 h, .int .u64 l, .bool s], 40) (by simp)) 1
  have qgA2 : W1.cell? ⟨gA, 2, none⟩ = some (.bool s) := (blk_cell (Bx.get HBW1.out (gA, #[.int .u64 h, .int .u64 l, .bool s], 40) (by simp)) 2).trans rfl
  have fgA2 : W1.frozen? ⟨gA, 2, none⟩ = false := blk_frozen (Bx.get HBW1.out (gA, #[.int .u64 h, .int .u64 l, .bool s], 40) (by simp)) 2
  have qgR0 : W1.cell? ⟨gR, 0, none⟩ = some (.int .u64 0) := (blk_cell (Bx.get HBW1.out (gR, #[.int .u64 0, .int .u64 0, .bool false], 40) (by simp)) 0).trans rfl
  have fgR0 : W1.frozen? ⟨gR, 0, none⟩ = false := blk_frozen (Bx.get HBW1.out (gR, #[.int .u64 0, .int .u64 0, .bool false], 40) (by simp)) 0
  have qgR1 : W1.cell? ⟨gR, 1, none⟩ = some (.int .u64 0) := (blk_cell (Bx.get HBW1.out (gR, #[.int .u64 0, .int .u64 0, .bool false], 40) (by simp)) 1).trans rfl
  have fgR1 : W1.frozen? ⟨gR, 1, none⟩ = false := blk_frozen (Bx.get HBW1.out (gR, #[.int .u64 0, .int .u64 0, .bool false], 40) (by simp)) 1
  have qgR2 : W1.cell? ⟨gR, 2, none⟩ = some (.bool false) := (blk_cell (Bx.get HBW1.out (gR, #[.int .u64 0, .int .u64 0, .bool false], 40) (by simp)) 2).trans rfl
  have fgR2 : W1.frozen? ⟨gR, 2, none⟩ = false := blk_frozen (Bx.get HBW1.out (gR, #[.int .u64 0, .int .u64 0, .bool false], 40) (by simp)) 2
  go_wp2
  have g1 := Bx.get HBW1.out (gR, #[.int .u64 0, .int .u64 0, .bool false], 40) (by simp)
  have g2 := Bx.old HBW1.out (gR, #[.int .u64 0, .int .u64 0, .bool false], 40) (by simp)
  refine bodyPost_ret (results_ct rfl _ _ gR 40 #[.int .u64 0, .int .u64 0, .bool false] (0, 0) _ rfl (blk_put (cs := #[.int .u64 0, .int .u64 0, .bool false]) (blk_put (cs := #[.int .u64 0, .int .u64 0, .bool false]) (blk_put (cs := #[.int .u64 0, .int .u64 0, .bool false]) (show (W1).heap[gR]? = _ from g1) 0 _ rfl) 1 _ rfl) 2 _ rfl) Try.underlying40 rfl (by kernel_rfl)) rfl ⟨rfl, ?_⟩
  refine below_set (below_set (below_set ?_ g2) g2) g2
  repeat first | exact HBW1.out.bel | refine pw_below_drewN ?_ _ | refine below_drew1 ?_

set_option maxHeartbeats 8000000 in
set_option maxRecDepth 100000 in
theorem por_uz (h l x y r ca w0 w2 w1 w1b c w2b q2 r2 q1 r1 q0 r0 q0b c1 q1b c2 q2b X Y E : Int) (s Zb : Bool) (k : Nat)
    (hM1 : bits_Mul64.f l x = some (ca, w0)) (hM2 : bits_Mul64.f h x = some (w2, w1)) (hA : bits_Add64.f w1 ca 0 = some (w1b, c)) (hW : IntKind.u64.wrap (w2 + c) = w2b) (hw2b : 0 ≤ w2b) (hq : IntKind.u64.wrap (w2b.tdiv y) = q2) (hr : w2b % y = r2)
    (hD1 : bits_Div64.f k r2 w1b y = some (q1, r1)) (hD2 : bits_Div64.f k r1 w0 y = some (q0, r0)) (hU : num_up.f q0 r0 y r = some true)
    (hA1 : bits_Add64.f q0 1 0 = some (q0b, c1)) (hA2 : bits_Add64.f q1 0 c1 = some (q1b, c2)) (hQ : IntKind.u64.wrap (q2 + c2) = q2b) (hz : q2b = 0) (hm : num_made.f q1b q0b s = some (X, Y, Zb, E)) (hx0 : 0 ≤ x) (hx1 : x < 4294967296) (hy0 : 0 < y) (hy1 : y < 4294967296) (h0 : 0 ≤ r) (h2 : r ≤ 2) (w : World) :
    Calls Try.prog 69 #[.agg #[.int .u64 h, .int .u64 l, .bool s], .int .u32 x, .int .u32 y, .int .i64 r] w fun e w' => e = .returned (.tuple #[.agg #[.int .u64 X, .int .u64 Y, .bool Zb], .int .i64 E]) ∧ Below w.heap.size w w' := by
  have HF := Aside0.mk (And.intro hM1 (And.intro hM2 (And.intro hA (And.intro hW (And.intro hq (And.intro hr (And.intro hD1 (And.intro hD2 hU))))))))
  have HU := Aside0.mk (And.intro hA1 (And.intro hA2 hQ))
  have HM := Aside0.mk hm
  have wx : IntKind.u64.wrap x = x := IntWalk.u64_in _ (by omega)
  have wy : IntKind.u64.wrap y = y := IntWalk.u64_in _ (by omega)
  have k1 : decide (r < 0) = false := decide_eq_false (by omega)
  have k2 : decide (2 < r) = false := decide_eq_false (by omega)
  have k3 : (y == 0) = false := beq_eq_false_iff_ne.mpr (by omega)
  have k4 : (q2b != 0) = false := bne_eq_false_iff_eq.mpr hz
  clear hM1 hM2 hA hW hq hr hD1 hD2 hU hz hx0 hx1 hy1 h0 h2 hA1 hA2 hQ hm
  go_enter Try.func69, Try.ntmps69
  go_upto_region 1 with (fail)
  obtain ⟨W1, hW⟩ : ∃ W, W = ((w.alloc (.cells #[.int .u64 h, .int .u64 l, .bool s] 40)).alloc (.cells #[.int .u64 0, .int .u64 0, .bool false] 40)) := ⟨_, rfl⟩
  obtain ⟨gA, hgA⟩ : ∃ g, g = w.heap.size := ⟨_, rfl⟩
  obtain ⟨gR, hgR⟩ : ∃ g, g = w.heap.size + 1 := ⟨_, rfl⟩
  have HBW1 : Aside0 (Bx w W1 [(gA, #[.int .u64 h, .int .u64 l, .bool s], 40), (gR, #[.int .u64 0, .int .u64 0, .bool false], 40)]) := ⟨by rw [hW, hgA, hgR]; exact Bx.allocs2 _ _ _ _ _⟩
  rw [← hW, ← hgR, ← hgA]
  clear hW hgA hgR
  have qgA0 : W1.cell? ⟨gA, 0, none⟩ = some (.int .u64 h) := (blk_cell (Bx.get HBW1.out (gA, #[.int .u64 h, .int .u64 l, .bool s], 40) (by simp)) 0).trans rfl
  have fgA0 : W1.frozen? ⟨gA, 0, none⟩ = false := blk_frozen (Bx.get HBW1.out (gA, #[.int .u64 h, .int .u64 l, .bool s], 40) (by simp)) 0
  have qgA1 : W1.cell? ⟨gA, 1, none⟩ = some (.int .u64 l) := (blk_cell (Bx.get HBW1.out (gA, #[.int .u64 h, .int .u64 l, .bool s], 40) (by simp)) 1).trans rfl
  have fgA1 : W1.frozen? ⟨gA, 1, none⟩ = false := blk_frozen (Bx.get HBW1.out (gA, #[.int .u64 h, .int .u64 l, .bool s], 40) (by simp)) 1
  have qgA2 : W1.cell? ⟨gA, 2, none⟩ = some (.bool s) := (blk_cell (Bx.get HBW1.out (gA, #[.int .u64 h, .int .u64 l, .bool s], 40) (by simp)) 2).trans rfl
  have fgA2 : W1.frozen? ⟨gA, 2, none⟩ = false := blk_frozen (Bx.get HBW1.out (gA, #[.int .u64 h, .int .u64 l, .bool s], 40) (by simp)) 2
  have qgR0 : W1.cell? ⟨gR, 0, none⟩ = some (.int .u64 0) := (blk_cell (Bx.get HBW1.out (gR, #[.int .u64 0, .int .u64 0, .bool false], 40) (by simp)) 0).trans rfl
  have fgR0 : W1.frozen? ⟨gR, 0, none⟩ = false := blk_frozen (Bx.get HBW1.out (gR, #[.int .u64 0, .int .u64 0, .bool false], 40) (by simp)) 0
  have qgR1 : W1.cell? ⟨gR, 1, none⟩ = some (.int .u64 0) := (blk_cell (Bx.get HBW1.out (gR, #[.int .u64 0, .int .u64 0, .bool false], 40) (by simp)) 1).trans rfl
  have fgR1 : W1.frozen? ⟨gR, 1, none⟩ = false := blk_frozen (Bx.get HBW1.out (gR, #[.int .u64 0, .int .u64 0, .bool false], 40) (by simp)) 1
  have qgR2 : W1.cell? ⟨gR, 2, none⟩ = some (.bool false) := (blk_cell (Bx.get HBW1.out (gR, #[.int .u64 0, .int .u64 0, .bool false], 40) (by simp)) 2).trans rfl
  have fgR2 : W1.frozen? ⟨gR, 2, none⟩ = false := blk_frozen (Bx.get HBW1.out (gR, #[.int .u64 0, .int .u64 0, .bool false], 40) (by simp)) 2
  go_upto_region 10 with (first
    | ((with_reducible refine gate_callee (f := 45) rfl ?_); (try (refine gate_guard (by rfl) ?_; dsimp only)); refine goesL_ (some 39) rfl rfl Try.func45 (by kernel_rfl) rfl #[.int .u64 l, .int .u64 x] rfl (by (try simp only [List.map_toArray, List.map_cons, List.map_nil]); first | done | rfl) ?_; (with_reducible refine (bits_Mul64.calls l x ca w0 _ HF.out.1).mono ?_); rintro e w' ⟨rfl, ⟨nd1, rfl⟩⟩; refine ⟨_, rfl, ?_⟩; skip)
    | ((with_reducible refine gate_callee (f := 45) rfl ?_); (try (refine gate_guard (by rfl) ?_; dsimp only)); refine goesL_ (some 47) rfl rfl Try.func45 (by kernel_rfl) rfl #[.int .u64 h, .int .u64 x] rfl (by (try simp only [List.map_toArray, List.map_cons, List.map_nil]); first | done | rfl) ?_; (with_reducible refine (bits_Mul64.calls h x w2 w1 _ HF.out.2.1).mono ?_); rintro e w' ⟨rfl, ⟨nd2, rfl⟩⟩; refine ⟨_, rfl, ?_⟩; skip)
    | ((with_reducible refine gate_callee (f := 43) rfl ?_); refine goesX_ (some 53) rfl rfl Try.func43 (by kernel_rfl) rfl #[.int .u64 w1, .int .u64 ca, .int .u64 0] rfl (by (try simp only [List.map_toArray, List.map_cons, List.map_nil]); first | done | rfl) ?_; (with_reducible refine (bits_Add64.calls w1 ca 0 w1b c _ HF.out.2.2.1).mono ?_); rintro e w' ⟨rfl, ⟨nd3, rfl⟩⟩; refine ⟨_, rfl, ?_⟩; skip))
  rw [HF.out.2.2.2.1]
  go_quiet (fail)
  rw [HF.out.2.2.2.2.1, HF.out.2.2.2.2.2.1]
  go_upto_region 17 with (first
    | ((with_reducible refine gate_callee (f := 46) rfl ?_); (try (refine gate_guard (by rfl) ?_; dsimp only)); refine goesL_ (some 69) rfl rfl Try.func46 (by kernel_rfl) rfl #[.int .u64 r2, .int .u64 w1b, .int .u64 y] rfl (by (try simp only [List.map_toArray, List.map_cons, List.map_nil]); first | done | rfl) ?_; (with_reducible refine (bits_Div64.calls k r2 w1b y q1 r1 _ HF.out.2.2.2.2.2.2.1).mono ?_); rintro e w' ⟨rfl, ⟨nd4, rfl⟩⟩; refine ⟨_, rfl, ?_⟩; skip)
    | ((with_reducible refine gate_callee (f := 46) rfl ?_); (try (refine gate_guard (by rfl) ?_; dsimp only)); refine goesL_ (some 76) rfl rfl Try.func46 (by kernel_rfl) rfl #[.int .u64 r1, .int .u64 w0, .int .u64 y] rfl (by (try simp only [List.map_toArray, List.map_cons, List.map_nil]); first | done | rfl) ?_; (with_reducible refine (bits_Div64.calls k r1 w0 y q0 r0 _ HF.out.2.2.2.2.2.2.2.1).mono ?_); rintro e w' ⟨rfl, ⟨nd5, rfl⟩⟩; refine ⟨_, rfl, ?_⟩; skip)
    | ((with_reducible refine gate_callee (f := 47) rfl ?_); (try (refine gate_guard (by rfl) ?_; dsimp only)); refine goesL_ (some 83) rfl rfl Try.func47 (by kernel_rfl) rfl #[.int .u64 q0, .int .u64 r0, .int .u64 y, .int .i64 r] rfl (by (try simp only [List.map_toArray, List.map_cons, List.map_nil]); first | done | rfl) ?_; (with_reducible refine (num_up.calls q0 r0 y r _ _ HF.out.2.2.2.2.2.2.2.2).mono ?_); rintro e w' ⟨rfl, ⟨nd6, rfl⟩⟩; refine ⟨_, rfl, ?_⟩; skip)
    | ((with_reducible refine gate_callee (f := 43) rfl ?_); refine goesX_ (some 86) rfl rfl Try.func43 (by kernel_rfl) rfl #[.int .u64 q0, .int .u64 1, .int .u64 0] rfl (by (try simp only [List.map_toArray, List.map_cons, List.map_nil]); first | done | rfl) ?_; (with_reducible refine (bits_Add64.calls q0 1 0 q0b c1 _ HU.out.1).mono ?_); rintro e w' ⟨rfl, ⟨nd7, rfl⟩⟩; refine ⟨_, rfl, ?_⟩; skip)
    | ((with_reducible refine gate_callee (f := 43) rfl ?_); refine goesX_ (some 92) rfl rfl Try.func43 (by kernel_rfl) rfl #[.int .u64 q1, .int .u64 0, .int .u64 c1] rfl (by (try simp only [List.map_toArray, List.map_cons, List.map_nil]); first | done | rfl) ?_; (with_reducible refine (bits_Add64.calls q1 0 c1 q1b c2 _ HU.out.2.1).mono ?_); rintro e w' ⟨rfl, ⟨nd8, rfl⟩⟩; refine ⟨_, rfl, ?_⟩; skip))
  rw [HU.out.2.2]
  have HC : Aside0 (∀ n, Bx w (W1.drewN n) [(gA, #[.int .u64 h, .int .u64 l, .bool s], 40), (gR, #[.int .u64 0, .int .u64 0, .bool false], 40)]) := ⟨fun n => HBW1.out.drewN n⟩
  go_wp2_with (first
    | ((with_reducible refine gate_callee (f := 62) rfl ?_); (try (refine gate_guard (by rfl) ?_; dsimp only)); refine goesL_ (some 105) rfl rfl Try.func62 (by kernel_rfl) rfl #[.int .u64 q1b, .int .u64 q0b, .bool s] rfl (by (try simp only [List.map_toArray, List.map_cons, List.map_nil]); first | done | rfl) ?_; (with_reducible refine (made_calls q1b q0b s X Y E Zb HM.out _).mono ?_); rintro e w6 ⟨rfl, hb⟩; refine ⟨_, rfl, ?_⟩; have HV := Aside0.mk (Bx.below (HC.out _) hb); have e0 : w6.cell? ⟨gR, 0, none⟩ = some (.int .u64 0) := (blk_cell (Bx.get HV.out (gR, #[.int .u64 0, .int .u64 0, .bool false], 40) (by simp)) 0).trans rfl; have e1 : w6.cell? ⟨gR, 1, none⟩ = some (.int .u64 0) := (blk_cell (Bx.get HV.out (gR, #[.int .u64 0, .int .u64 0, .bool false], 40) (by simp)) 1).trans rfl; have e2 : w6.cell? ⟨gR, 2, none⟩ = some (.bool false) := (blk_cell (Bx.get HV.out (gR, #[.int .u64 0, .int .u64 0, .bool false], 40) (by simp)) 2).trans rfl; have e3 : w6.frozen? ⟨gR, 0, none⟩ = false := blk_frozen (Bx.get HV.out (gR, #[.int .u64 0, .int .u64 0, .bool false], 40) (by simp)) 0; have e4 : w6.frozen? ⟨gR, 1, none⟩ = false := blk_frozen (Bx.get HV.out (gR, #[.int .u64 0, .int .u64 0, .bool false], 40) (by simp)) 1; have e5 : w6.frozen? ⟨gR, 2, none⟩ = false := blk_frozen (Bx.get HV.out (gR, #[.int .u64 0, .int .u64 0, .bool false], 40) (by simp)) 2; clear hb))
  have g1 := Bx.get HV.out (gR, #[.int .u64 0, .int .u64 0, .bool false], 40) (by simp)
  have g2 := Bx.old HV.out (gR, #[.int .u64 0, .int .u64 0, .bool false], 40) (by simp)
  refine bodyPost_ret (results_ct rfl _ _ gR 40 #[.int .u64 X, .int .u64 Y, .bool Zb] (0, 0) _ rfl (blk_put (cs := #[.int .u64 X, .int .u64 Y, .bool false]) (blk_put (cs := #[.int .u64 X, .int .u64 0, .bool false]) (blk_put (cs := #[.int .u64 0, .int .u64 0, .bool false]) g1 0 _ rfl) 1 _ rfl) 2 _ rfl) Try.underlying40 rfl (by kernel_rfl)) rfl ⟨rfl, ?_⟩
  exact below_set (below_set (below_set HV.out.bel g2) g2) g2

set_option maxHeartbeats 8000000 in
set_option maxRecDepth 100000 in
theorem por_un (h l x y r ca w0 w2 w1 w1b c w2b q2 r2 q1 r1 q0 r0 q0b c1 q1b c2 q2b X Y E : Int) (s Zb : Bool) (k : Nat)
    (hM1 : bits_Mul64.f l x = some (ca, w0)) (hM2 : bits_Mul64.f h x = some (w2, w1)) (hA : bits_Add64.f w1 ca 0 = some (w1b, c)) (hW : IntKind.u64.wrap (w2 + c) = w2b) (hw2b : 0 ≤ w2b) (hq : IntKind.u64.wrap (w2b.tdiv y) = q2) (hr : w2b % y = r2)
    (hD1 : bits_Div64.f k r2 w1b y = some (q1, r1)) (hD2 : bits_Div64.f k r1 w0 y = some (q0, r0)) (hU : num_up.f q0 r0 y r = some true)
    (hA1 : bits_Add64.f q0 1 0 = some (q0b, c1)) (hA2 : bits_Add64.f q1 0 c1 = some (q1b, c2)) (hQ : IntKind.u64.wrap (q2 + c2) = q2b) (hz : q2b ≠ 0) (hx0 : 0 ≤ x) (hx1 : x < 4294967296) (hy0 : 0 < y) (hy1 : y < 4294967296) (h0 : 0 ≤ r) (h2 : r ≤ 2) (w : World) :
    Calls Try.prog 69 #[.agg #[.int .u64 h, .int .u64 l, .bool s], .int .u32 x, .int .u32 y, .int .i64 r] w fun e w' => e = .returned (.tuple #[.agg #[.int .u64 0, .int .u64 0, .bool false], .int .i64 10]) ∧ Below w.heap.size w w' := by
  have HF := Aside0.mk (And.intro hM1 (And.intro hM2 (And.intro hA (And.intro hW (And.intro hq (And.intro hr (And.intro hD1 (And.intro hD2 hU))))))))
  have HU := Aside0.mk (And.intro hA1 (And.intro hA2 hQ))
  have wx : IntKind.u64.wrap x = x := IntWalk.u64_in _ (by omega)
  have wy : IntKind.u64.wrap y = y := IntWalk.u64_in _ (by omega)
  have k1 : decide (r < 0) = false := decide_eq_false (by omega)
  have k2 : decide (2 < r) = false := decide_eq_false (by omega)
  have k3 : (y == 0) = false := beq_eq_false_iff_ne.mpr (by omega)
  have k4 : (q2b != 0) = true := bne_iff_ne.mpr hz
  clear hM1 hM2 hA hW hq hr hD1 hD2 hU hz hx0 hx1 hy1 h0 h2 hA1 hA2 hQ
  go_enter Try.func69, Try.ntmps69
  go_upto_region 1 with (fail)
  obtain ⟨W1, hW⟩ : ∃ W, W = ((w.alloc (.cells #[.int .u64 h, .int .u64 l, .bool s] 40)).alloc (.cells #[.int .u64 0, .int .u64 0, .bool false] 40)) := ⟨_, rfl⟩
  obtain ⟨gA, hgA⟩ : ∃ g, g = w.heap.size := ⟨_, rfl⟩
  obtain ⟨gR, hgR⟩ : ∃ g, g = w.heap.size + 1 := ⟨_, rfl⟩
  have HBW1 : Aside0 (Bx w W1 [(gA, #[.int .u64 h, .int .u64 l, .bool s], 40), (gR, #[.int .u64 0, .int .u64 0, .bool false], 40)]) := ⟨by rw [hW, hgA, hgR]; exact Bx.allocs2 _ _ _ _ _⟩
  rw [← hW, ← hgR, ← hgA]
  clear hW hgA hgR
  have qgA0 : W1.cell? ⟨gA, 0, none⟩ = some (.int .u64 h) := (blk_cell (Bx.get HBW1.out (gA, #[.int .u64 h, .int .u64 l, .bool s], 40) (by simp)) 0).trans rfl
  have fgA0 : W1.frozen? ⟨gA, 0, none⟩ = false := blk_frozen (Bx.get HBW1.out (gA, #[.int .u64 h, .int .u64 l, .bool s], 40) (by simp)) 0
  have qgA1 : W1.cell? ⟨gA, 1, none⟩ = some (.int .u64 l) := (blk_cell (Bx.get HBW1.out (gA, #[.int .u64 h, .int .u64 l, .bool s], 40) (by simp)) 1).trans rfl
  have fgA1 : W1.frozen? ⟨gA, 1, none⟩ = false := blk_frozen (Bx.get HBW1.out (gA, #[.int .u64 h, .int .u64 l, .bool s], 40) (by simp)) 1
  have qgA2 : W1.cell? ⟨gA, 2, none⟩ = some (.bool s) := (blk_cell (Bx.get HBW1.out (gA, #[.int .u64 h, .int .u64 l, .bool s], 40) (by simp)) 2).trans rfl
  have fgA2 : W1.frozen? ⟨gA, 2, none⟩ = false := blk_frozen (Bx.get HBW1.out (gA, #[.int .u64 h, .int .u64 l, .bool s], 40) (by simp)) 2
  have qgR0 : W1.cell? ⟨gR, 0, none⟩ = some (.int .u64 0) := (blk_cell (Bx.get HBW1.out (gR, #[.int .u64 0, .int .u64 0, .bool false], 40) (by simp)) 0).trans rfl
  have fgR0 : W1.frozen? ⟨gR, 0, none⟩ = false := blk_frozen (Bx.get HBW1.out (gR, #[.int .u64 0, .int .u64 0, .bool false], 40) (by simp)) 0
  have qgR1 : W1.cell? ⟨gR, 1, none⟩ = some (.int .u64 0) := (blk_cell (Bx.get HBW1.out (gR, #[.int .u64 0, .int .u64 0, .bool false], 40) (by simp)) 1).trans rfl
  have fgR1 : W1.frozen? ⟨gR, 1, none⟩ = false := blk_frozen (Bx.get HBW1.out (gR, #[.int .u64 0, .int .u64 0, .bool false], 40) (by simp)) 1
  have qgR2 : W1.cell? ⟨gR, 2, none⟩ = some (.bool false) := (blk_cell (Bx.get HBW1.out (gR, #[.int .u64 0, .int .u64 0, .bool false], 40) (by simp)) 2).trans rfl
  have fgR2 : W1.frozen? ⟨gR, 2, none⟩ = false := blk_frozen (Bx.get HBW1.out (gR, #[.int .u64 0, .int .u64 0, .bool false], 40) (by simp)) 2
  go_upto_region 10 with (first
    | ((with_reducible refine gate_callee (f := 45) rfl ?_); (try (refine gate_guard (by rfl) ?_; dsimp only)); refine goesL_ (some 39) rfl rfl Try.func45 (by kernel_rfl) rfl #[.int .u64 l, .int .u64 x] rfl (by (try simp only [List.map_toArray, List.map_cons, List.map_nil]); first | done | rfl) ?_; (with_reducible refine (bits_Mul64.calls l x ca w0 _ HF.out.1).mono ?_); rintro e w' ⟨rfl, ⟨nd1, rfl⟩⟩; refine ⟨_, rfl, ?_⟩; skip)
    | ((with_reducible refine gate_callee (f := 45) rfl ?_); (try (refine gate_guard (by rfl) ?_; dsimp only)); refine goesL_ (some 47) rfl rfl Try.func45 (by kernel_rfl) rfl #[.int .u64 h, .int .u64 x] rfl (by (try simp only [List.map_toArray, List.map_cons, List.map_nil]); first | done | rfl) ?_; (with_reducible refine (bits_Mul64.calls h x w2 w1 _ HF.out.2.1).mono ?_); rintro e w' ⟨rfl, ⟨nd2, rfl⟩⟩; refine ⟨_, rfl, ?_⟩; skip)
    | ((with_reducible refine gate_callee (f := 43) rfl ?_); refine goesX_ (some 53) rfl rfl Try.func43 (by kernel_rfl) rfl #[.int .u64 w1, .int .u64 ca, .int .u64 0] rfl (by (try simp only [List.map_toArray, List.map_cons, List.map_nil]); first | done | rfl) ?_; (with_reducible refine (bits_Add64.calls w1 ca 0 w1b c _ HF.out.2.2.1).mono ?_); rintro e w' ⟨rfl, ⟨nd3, rfl⟩⟩; refine ⟨_, rfl, ?_⟩; skip))
  rw [HF.out.2.2.2.1]
  go_quiet (fail)
  rw [HF.out.2.2.2.2.1, HF.out.2.2.2.2.2.1]
  go_upto_region 17 with (first
    | ((with_reducible refine gate_callee (f := 46) rfl ?_); (try (refine gate_guard (by rfl) ?_; dsimp only)); refine goesL_ (some 69) rfl rfl Try.func46 (by kernel_rfl) rfl #[.int .u64 r2, .int .u64 w1b, .int .u64 y] rfl (by (try simp only [List.map_toArray, List.map_cons, List.map_nil]); first | done | rfl) ?_; (with_reducible refine (bits_Div64.calls k r2 w1b y q1 r1 _ HF.out.2.2.2.2.2.2.1).mono ?_); rintro e w' ⟨rfl, ⟨nd4, rfl⟩⟩; refine ⟨_, rfl, ?_⟩; skip)
    | ((with_reducible refine gate_callee (f := 46) rfl ?_); (try (refine gate_guard (by rfl) ?_; dsimp only)); refine goesL_ (some 76) rfl rfl Try.func46 (by kernel_rfl) rfl #[.int .u64 r1, .int .u64 w0, .int .u64 y] rfl (by (try simp only [List.map_toArray, List.map_cons, List.map_nil]); first | done | rfl) ?_; (with_reducible refine (bits_Div64.calls k r1 w0 y q0 r0 _ HF.out.2.2.2.2.2.2.2.1).mono ?_); rintro e w' ⟨rfl, ⟨nd5, rfl⟩⟩; refine ⟨_, rfl, ?_⟩; skip)
    | ((with_reducible refine gate_callee (f := 47) rfl ?_); (try (refine gate_guard (by rfl) ?_; dsimp only)); refine goesL_ (some 83) rfl rfl Try.func47 (by kernel_rfl) rfl #[.int .u64 q0, .int .u64 r0, .int .u64 y, .int .i64 r] rfl (by (try simp only [List.map_toArray, List.map_cons, List.map_nil]); first | done | rfl) ?_; (with_reducible refine (num_up.calls q0 r0 y r _ _ HF.out.2.2.2.2.2.2.2.2).mono ?_); rintro e w' ⟨rfl, ⟨nd6, rfl⟩⟩; refine ⟨_, rfl, ?_⟩; skip)
    | ((with_reducible refine gate_callee (f := 43) rfl ?_); refine goesX_ (some 86) rfl rfl Try.func43 (by kernel_rfl) rfl #[.int .u64 q0, .int .u64 1, .int .u64 0] rfl (by (try simp only [List.map_toArray, List.map_cons, List.map_nil]); first | done | rfl) ?_; (with_reducible refine (bits_Add64.calls q0 1 0 q0b c1 _ HU.out.1).mono ?_); rintro e w' ⟨rfl, ⟨nd7, rfl⟩⟩; refine ⟨_, rfl, ?_⟩; skip)
    | ((with_reducible refine gate_callee (f := 43) rfl ?_); refine goesX_ (some 92) rfl rfl Try.func43 (by kernel_rfl) rfl #[.int .u64 q1, .int .u64 0, .int .u64 c1] rfl (by (try simp only [List.map_toArray, List.map_cons, List.map_nil]); first | done | rfl) ?_; (with_reducible refine (bits_Add64.calls q1 0 c1 q1b c2 _ HU.out.2.1).mono ?_); rintro e w' ⟨rfl, ⟨nd8, rfl⟩⟩; refine ⟨_, rfl, ?_⟩; skip))
  rw [HU.out.2.2]
  go_wp2
  have g1 : ∀ n, (W1.drewN n).heap[gR]? = some (.cells #[.int .u64 0, .int .u64 0, .bool false] 40 (0, 0)) := fun n => Bx.get HBW1.out (gR, #[.int .u64 0, .int .u64 0, .bool false], 40) (by simp)
  have g2 := Bx.old HBW1.out (gR, #[.int .u64 0, .int .u64 0, .bool false], 40) (by simp)
  refine bodyPost_ret (results_ct rfl _ _ gR 40 #[.int .u64 0, .int .u64 0, .bool false] (0, 0) _ rfl (blk_put (cs := #[.int .u64 0, .int .u64 0, .bool false]) (blk_put (cs := #[.int .u64 0, .int .u64 0, .bool false]) (blk_put (cs := #[.int .u64 0, .int .u64 0, .bool false]) (g1 _) 0 _ rfl) 1 _ rfl) 2 _ rfl) Try.underlying40 rfl (by kernel_rfl)) rfl ⟨rfl, ?_⟩
  exact below_set (below_set (below_set (pw_below_drewN HBW1.out.bel _) g2) g2) g2

set_option maxHeartbeats 8000000 in
set_option maxRecDepth 100000 in
theorem por_dz (h l x y r ca w0 w2 w1 w1b c w2b q2 r2 q1 r1 q0 r0 q0b c1 q1b c2 q2b X Y E : Int) (s Zb : Bool) (k : Nat)
    (hM1 : bits_Mul64.f l x = some (ca, w0)) (hM2 : bits_Mul64.f h x = some (w2, w1)) (hA : bits_Add64.f w1 ca 0 = some (w1b, c)) (hW : IntKind.u64.wrap (w2 + c) = w2b) (hw2b : 0 ≤ w2b) (hq : IntKind.u64.wrap (w2b.tdiv y) = q2) (hr : w2b % y = r2)
    (hD1 : bits_Div64.f k r2 w1b y = some (q1, r1)) (hD2 : bits_Div64.f k r1 w0 y = some (q0, r0)) (hU : num_up.f q0 r0 y r = some false)
    (hQ : q2 = q2b) (hq0 : q0 = q0b) (hq1 : q1 = q1b) (hz : q2b = 0) (hm : num_made.f q1b q0b s = some (X, Y, Zb, E)) (hx0 : 0 ≤ x) (hx1 : x < 4294967296) (hy0 : 0 < y) (hy1 : y < 4294967296) (h0 : 0 ≤ r) (h2 : r ≤ 2) (w : World) :
    Calls Try.prog 69 #[.agg #[.int .u64 h, .int .u64 l, .bool s], .int .u32 x, .int .u32 y, .int .i64 r] w fun e w' => e = .returned (.tuple #[.agg #[.int .u64 X, .int .u64 Y, .bool Zb], .int .i64 E]) ∧ Below w.heap.size w w' := by
  subst hQ hq0 hq1
  have HF := Aside0.mk (And.intro hM1 (And.intro hM2 (And.intro hA (And.intro hW (And.intro hq (And.intro hr (And.intro hD1 (And.intro hD2 hU))))))))
  have HM := Aside0.mk hm
  have wx : IntKind.u64.wrap x = x := IntWalk.u64_in _ (by omega)
  have wy : IntKind.u64.wrap y = y := IntWalk.u64_in _ (by omega)
  have k1 : decide (r < 0) = false := decide_eq_false (by omega)
  have k2 : decide (2 < r) = false := decide_eq_false (by omega)
  have k3 : (y == 0) = false := beq_eq_false_iff_ne.mpr (by omega)
  have k4 : (q2 != 0) = false := bne_eq_false_iff_eq.mpr hz
  clear hM1 hM2 hA hW hq hr hD1 hD2 hU hz hx0 hx1 hy1 h0 h2 hm
  go_enter Try.func69, Try.ntmps69
  go_upto_region 1 with (fail)
  obtain ⟨W1, hW⟩ : ∃ W, W = ((w.alloc (.cells #[.int .u64 h, .int .u64 l, .bool s] 40)).alloc (.cells #[.int .u64 0, .int .u64 0, .bool false] 40)) := ⟨_, rfl⟩
  obtain ⟨gA, hgA⟩ : ∃ g, g = w.heap.size := ⟨_, rfl⟩
  obtain ⟨gR, hgR⟩ : ∃ g, g = w.heap.size + 1 := ⟨_, rfl⟩
  have HBW1 : Aside0 (Bx w W1 [(gA, #[.int .u64 h, .int .u64 l, .bool s], 40), (gR, #[.int .u64 0, .int .u64 0, .bool false], 40)]) := ⟨by rw [hW, hgA, hgR]; exact Bx.allocs2 _ _ _ _ _⟩
  rw [← hW, ← hgR, ← hgA]
  clear hW hgA hgR
  have qgA0 : W1.cell? ⟨gA, 0, none⟩ = some (.int .u64 h) := (blk_cell (Bx.get HBW1.out (gA, #[.int .u64 h, .int .u64 l, .bool s], 40) (by simp)) 0).trans rfl
  have fgA0 : W1.frozen? ⟨gA, 0, none⟩ = false := blk_frozen (Bx.get HBW1.out (gA, #[.int .u64 h, .int .u64 l, .bool s], 40) (by simp)) 0
  have qgA1 : W1.cell? ⟨gA, 1, none⟩ = some (.int .u64 l) := (blk_cell (Bx.get HBW1.out (gA, #[.int .u64 h, .int .u64 l, .bool s], 40) (by simp)) 1).trans rfl
  have fgA1 : W1.frozen? ⟨gA, 1, none⟩ = false := blk_frozen (Bx.get HBW1.out (gA, #[.int .u64 h, .int .u64 l, .bool s], 40) (by simp)) 1
  have qgA2 : W1.cell? ⟨gA, 2, none⟩ = some (.bool s) := (blk_cell (Bx.get HBW1.out (gA, #[.int .u64 h, .int .u64 l, .bool s], 40) (by simp)) 2).trans rfl
  have fgA2 : W1.frozen? ⟨gA, 2, none⟩ = false := blk_frozen (Bx.get HBW1.out (gA, #[.int .u64 h, .int .u64 l, .bool s], 40) (by simp)) 2
  have qgR0 : W1.cell? ⟨gR, 0, none⟩ = some (.int .u64 0) := (blk_cell (Bx.get HBW1.out (gR, #[.int .u64 0, .int .u64 0, .bool false], 40) (by simp)) 0).trans rfl
  have fgR0 : W1.frozen? ⟨gR, 0, none⟩ = false := blk_frozen (Bx.get HBW1.out (gR, #[.int .u64 0, .int .u64 0, .bool false], 40) (by simp)) 0
  have qgR1 : W1.cell? ⟨gR, 1, none⟩ = some (.int .u64 0) := (blk_cell (Bx.get HBW1.out (gR, #[.int .u64 0, .int .u64 0, .bool false], 40) (by simp)) 1).trans rfl
  have fgR1 : W1.frozen? ⟨gR, 1, none⟩ = false := blk_frozen (Bx.get HBW1.out (gR, #[.int .u64 0, .int .u64 0, .bool false], 40) (by simp)) 1
  have qgR2 : W1.cell? ⟨gR, 2, none⟩ = some (.bool false) := (blk_cell (Bx.get HBW1.out (gR, #[.int .u64 0, .int .u64 0, .bool false], 40) (by simp)) 2).trans rfl
  have fgR2 : W1.frozen? ⟨gR, 2, none⟩ = false := blk_frozen (Bx.get HBW1.out (gR, #[.int .u64 0, .int .u64 0, .bool false], 40) (by simp)) 2
  go_upto_region 10 with (first
    | ((with_reducible refine gate_callee (f := 45) rfl ?_); (try (refine gate_guard (by rfl) ?_; dsimp only)); refine goesL_ (some 39) rfl rfl Try.func45 (by kernel_rfl) rfl #[.int .u64 l, .int .u64 x] rfl (by (try simp only [List.map_toArray, List.map_cons, List.map_nil]); first | done | rfl) ?_; (with_reducible refine (bits_Mul64.calls l x ca w0 _ HF.out.1).mono ?_); rintro e w' ⟨rfl, ⟨nd1, rfl⟩⟩; refine ⟨_, rfl, ?_⟩; skip)
    | ((with_reducible refine gate_callee (f := 45) rfl ?_); (try (refine gate_guard (by rfl) ?_; dsimp only)); refine goesL_ (some 47) rfl rfl Try.func45 (by kernel_rfl) rfl #[.int .u64 h, .int .u64 x] rfl (by (try simp only [List.map_toArray, List.map_cons, List.map_nil]); first | done | rfl) ?_; (with_reducible refine (bits_Mul64.calls h x w2 w1 _ HF.out.2.1).mono ?_); rintro e w' ⟨rfl, ⟨nd2, rfl⟩⟩; refine ⟨_, rfl, ?_⟩; skip)
    | ((with_reducible refine gate_callee (f := 43) rfl ?_); refine goesX_ (some 53) rfl rfl Try.func43 (by kernel_rfl) rfl #[.int .u64 w1, .int .u64 ca, .int .u64 0] rfl (by (try simp only [List.map_toArray, List.map_cons, List.map_nil]); first | done | rfl) ?_; (with_reducible refine (bits_Add64.calls w1 ca 0 w1b c _ HF.out.2.2.1).mono ?_); rintro e w' ⟨rfl, ⟨nd3, rfl⟩⟩; refine ⟨_, rfl, ?_⟩; skip))
  rw [HF.out.2.2.2.1]
  go_quiet (fail)
  rw [HF.out.2.2.2.2.1, HF.out.2.2.2.2.2.1]
  have HC : Aside0 (∀ n, Bx w (W1.drewN n) [(gA, #[.int .u64 h, .int .u64 l, .bool s], 40), (gR, #[.int .u64 0, .int .u64 0, .bool false], 40)]) := ⟨fun n => HBW1.out.drewN n⟩
  go_wp2_with (first
    | ((with_reducible refine gate_callee (f := 46) rfl ?_); (try (refine gate_guard (by rfl) ?_; dsimp only)); refine goesL_ (some 69) rfl rfl Try.func46 (by kernel_rfl) rfl #[.int .u64 r2, .int .u64 w1b, .int .u64 y] rfl (by (try simp only [List.map_toArray, List.map_cons, List.map_nil]); first | done | rfl) ?_; (with_reducible refine (bits_Div64.calls k r2 w1b y q1 r1 _ HF.out.2.2.2.2.2.2.1).mono ?_); rintro e w' ⟨rfl, ⟨nd4, rfl⟩⟩; refine ⟨_, rfl, ?_⟩; skip)
    | ((with_reducible refine gate_callee (f := 46) rfl ?_); (try (refine gate_guard (by rfl) ?_; dsimp only)); refine goesL_ (some 76) rfl rfl Try.func46 (by kernel_rfl) rfl #[.int .u64 r1, .int .u64 w0, .int .u64 y] rfl (by (try simp only [List.map_toArray, List.map_cons, List.map_nil]); first | done | rfl) ?_; (with_reducible refine (bits_Div64.calls k r1 w0 y q0 r0 _ HF.out.2.2.2.2.2.2.2.1).mono ?_); rintro e w' ⟨rfl, ⟨nd5, rfl⟩⟩; refine ⟨_, rfl, ?_⟩; skip)
    | ((with_reducible refine gate_callee (f := 47) rfl ?_); (try (refine gate_guard (by rfl) ?_; dsimp only)); refine goesL_ (some 83) rfl rfl Try.func47 (by kernel_rfl) rfl #[.int .u64 q0, .int .u64 r0, .int .u64 y, .int .i64 r] rfl (by (try simp only [List.map_toArray, List.map_cons, List.map_nil]); first | done | rfl) ?_; (with_reducible refine (num_up.calls q0 r0 y r _ _ HF.out.2.2.2.2.2.2.2.2).mono ?_); rintro e w' ⟨rfl, ⟨nd6, rfl⟩⟩; refine ⟨_, rfl, ?_⟩; skip)
    | ((with_reducible refine gate_callee (f := 62) rfl ?_); (try (refine gate_guard (by rfl) ?_; dsimp only)); refine goesL_ (some 105) rfl rfl Try.func62 (by kernel_rfl) rfl #[.int .u64 q1, .int .u64 q0, .bool s] rfl (by (try simp only [List.map_toArray, List.map_cons, List.map_nil]); first | done | rfl) ?_; (with_reducible refine (made_calls q1 q0 s X Y E Zb HM.out _).mono ?_); rintro e w6 ⟨rfl, hb⟩; refine ⟨_, rfl, ?_⟩; have HV := Aside0.mk (Bx.below (HC.out _) hb); have e0 : w6.cell? ⟨gR, 0, none⟩ = some (.int .u64 0) := (blk_cell (Bx.get HV.out (gR, #[.int .u64 0, .int .u64 0, .bool false], 40) (by simp)) 0).trans rfl; have e1 : w6.cell? ⟨gR, 1, none⟩ = some (.int .u64 0) := (blk_cell (Bx.get HV.out (gR, #[.int .u64 0, .int .u64 0, .bool false], 40) (by simp)) 1).trans rfl; have e2 : w6.cell? ⟨gR, 2, none⟩ = some (.bool false) := (blk_cell (Bx.get HV.out (gR, #[.int .u64 0, .int .u64 0, .bool false], 40) (by simp)) 2).trans rfl; have e3 : w6.frozen? ⟨gR, 0, none⟩ = false := blk_frozen (Bx.get HV.out (gR, #[.int .u64 0, .int .u64 0, .bool false], 40) (by simp)) 0; have e4 : w6.frozen? ⟨gR, 1, none⟩ = false := blk_frozen (Bx.get HV.out (gR, #[.int .u64 0, .int .u64 0, .bool false], 40) (by simp)) 1; have e5 : w6.frozen? ⟨gR, 2, none⟩ = false := blk_frozen (Bx.get HV.out (gR, #[.int .u64 0, .int .u64 0, .bool false], 40) (by simp)) 2; clear hb))
  have g1 := Bx.get HV.out (gR, #[.int .u64 0, .int .u64 0, .bool false], 40) (by simp)
  have g2 := Bx.old HV.out (gR, #[.int .u64 0, .int .u64 0, .bool false], 40) (by simp)
  refine bodyPost_ret (results_ct rfl _ _ gR 40 #[.int .u64 X, .int .u64 Y, .bool Zb] (0, 0) _ rfl (blk_put (cs := #[.int .u64 X, .int .u64 Y, .bool false]) (blk_put (cs := #[.int .u64 X, .int .u64 0, .bool false]) (blk_put (cs := #[.int .u64 0, .int .u64 0, .bool false]) g1 0 _ rfl) 1 _ rfl) 2 _ rfl) Try.underlying40 rfl (by kernel_rfl)) rfl ⟨rfl, ?_⟩
  exact below_set (below_set (below_set HV.out.bel g2) g2) g2

set_option maxHeartbeats 8000000 in
set_option maxRecDepth 100000 in
theorem por_dn (h l x y r ca w0 w2 w1 w1b c w2b q2 r2 q1 r1 q0 r0 q0b c1 q1b c2 q2b X Y E : Int) (s Zb : Bool) (k : Nat)
    (hM1 : bits_Mul64.f l x = some (ca, w0)) (hM2 : bits_Mul64.f h x = some (w2, w1)) (hA : bits_Add64.f w1 ca 0 = some (w1b, c)) (hW : IntKind.u64.wrap (w2 + c) = w2b) (hw2b : 0 ≤ w2b) (hq : IntKind.u64.wrap (w2b.tdiv y) = q2) (hr : w2b % y = r2)
    (hD1 : bits_Div64.f k r2 w1b y = some (q1, r1)) (hD2 : bits_Div64.f k r1 w0 y = some (q0, r0)) (hU : num_up.f q0 r0 y r = some false)
    (hQ : q2 = q2b) (hq0 : q0 = q0b) (hq1 : q1 = q1b) (hz : q2b ≠ 0) (hx0 : 0 ≤ x) (hx1 : x < 4294967296) (hy0 : 0 < y) (hy1 : y < 4294967296) (h0 : 0 ≤ r) (h2 : r ≤ 2) (w : World) :
    Calls Try.prog 69 #[.agg #[.int .u64 h, .int .u64 l, .bool s], .int .u32 x, .int .u32 y, .int .i64 r] w fun e w' => e = .returned (.tuple #[.agg #[.int .u64 0, .int .u64 0, .bool false], .int .i64 10]) ∧ Below w.heap.size w w' := by
  subst hQ hq0 hq1
  have HF := Aside0.mk (And.intro hM1 (And.intro hM2 (And.intro hA (And.intro hW (And.intro hq (And.intro hr (And.intro hD1 (And.intro hD2 hU))))))))
  have wx : IntKind.u64.wrap x = x := IntWalk.u64_in _ (by omega)
  have wy : IntKind.u64.wrap y = y := IntWalk.u64_in _ (by omega)
  have k1 : decide (r < 0) = false := decide_eq_false (by omega)
  have k2 : decide (2 < r) = false := decide_eq_false (by omega)
  have k3 : (y == 0) = false := beq_eq_false_iff_ne.mpr (by omega)
  have k4 : (q2 != 0) = true := bne_iff_ne.mpr hz
  clear hM1 hM2 hA hW hq hr hD1 hD2 hU hz hx0 hx1 hy1 h0 h2
  go_enter Try.func69, Try.ntmps69
  go_upto_region 1 with (fail)
  obtain ⟨W1, hW⟩ : ∃ W, W = ((w.alloc (.cells #[.int .u64 h, .int .u64 l, .bool s] 40)).alloc (.cells #[.int .u64 0, .int .u64 0, .bool false] 40)) := ⟨_, rfl⟩
  obtain ⟨gA, hgA⟩ : ∃ g, g = w.heap.size := ⟨_, rfl⟩
  obtain ⟨gR, hgR⟩ : ∃ g, g = w.heap.size + 1 := ⟨_, rfl⟩
  have HBW1 : Aside0 (Bx w W1 [(gA, #[.int .u64 h, .int .u64 l, .bool s], 40), (gR, #[.int .u64 0, .int .u64 0, .bool false], 40)]) := ⟨by rw [hW, hgA, hgR]; exact Bx.allocs2 _ _ _ _ _⟩
  rw [← hW, ← hgR, ← hgA]
  clear hW hgA hgR
  have qgA0 : W1.cell? ⟨gA, 0, none⟩ = some (.int .u64 h) := (blk_cell (Bx.get HBW1.out (gA, #[.int .u64 h, .int .u64 l, .bool s], 40) (by simp)) 0).trans rfl
  have fgA0 : W1.frozen? ⟨gA, 0, none⟩ = false := blk_frozen (Bx.get HBW1.out (gA, #[.int .u64 h, .int .u64 l, .bool s], 40) (by simp)) 0
  have qgA1 : W1.cell? ⟨gA, 1, none⟩ = some (.int .u64 l) := (blk_cell (Bx.get HBW1.out (gA, #[.int .u64 h, .int .u64 l, .bool s], 40) (by simp)) 1).trans rfl
  have fgA1 : W1.frozen? ⟨gA, 1, none⟩ = false := blk_frozen (Bx.get HBW1.out (gA, #[.int .u64 h, .int .u64 l, .bool s], 40) (by simp)) 1
  have qgA2 : W1.cell? ⟨gA, 2, none⟩ = some (.bool s) := (blk_cell (Bx.get HBW1.out (gA, #[.int .u64 h, .int .u64 l, .bool s], 40) (by simp)) 2).trans rfl
  have fgA2 : W1.frozen? ⟨gA, 2, none⟩ = false := blk_frozen (Bx.get HBW1.out (gA, #[.int .u64 h, .int .u64 l, .bool s], 40) (by simp)) 2
  have qgR0 : W1.cell? ⟨gR, 0, none⟩ = some (.int .u64 0) := (blk_cell (Bx.get HBW1.out (gR, #[.int .u64 0, .int .u64 0, .bool false], 40) (by simp)) 0).trans rfl
  have fgR0 : W1.frozen? ⟨gR, 0, none⟩ = false := blk_frozen (Bx.get HBW1.out (gR, #[.int .u64 0, .int .u64 0, .bool false], 40) (by simp)) 0
  have qgR1 : W1.cell? ⟨gR, 1, none⟩ = some (.int .u64 0) := (blk_cell (Bx.get HBW1.out (gR, #[.int .u64 0, .int .u64 0, .bool false], 40) (by simp)) 1).trans rfl
  have fgR1 : W1.frozen? ⟨gR, 1, none⟩ = false := blk_frozen (Bx.get HBW1.out (gR, #[.int .u64 0, .int .u64 0, .bool false], 40) (by simp)) 1
  have qgR2 : W1.cell? ⟨gR, 2, none⟩ = some (.bool false) := (blk_cell (Bx.get HBW1.out (gR, #[.int .u64 0, .int .u64 0, .bool false], 40) (by simp)) 2).trans rfl
  have fgR2 : W1.frozen? ⟨gR, 2, none⟩ = false := blk_frozen (Bx.get HBW1.out (gR, #[.int .u64 0, .int .u64 0, .bool false], 40) (by simp)) 2
  go_upto_region 10 with (first
    | ((with_reducible refine gate_callee (f := 45) rfl ?_); (try (refine gate_guard (by rfl) ?_; dsimp only)); refine goesL_ (some 39) rfl rfl Try.func45 (by kernel_rfl) rfl #[.int .u64 l, .int .u64 x] rfl (by (try simp only [List.map_toArray, List.map_cons, List.map_nil]); first | done | rfl) ?_; (with_reducible refine (bits_Mul64.calls l x ca w0 _ HF.out.1).mono ?_); rintro e w' ⟨rfl, ⟨nd1, rfl⟩⟩; refine ⟨_, rfl, ?_⟩; skip)
    | ((with_reducible refine gate_callee (f := 45) rfl ?_); (try (refine gate_guard (by rfl) ?_; dsimp only)); refine goesL_ (some 47) rfl rfl Try.func45 (by kernel_rfl) rfl #[.int .u64 h, .int .u64 x] rfl (by (try simp only [List.map_toArray, List.map_cons, List.map_nil]); first | done | rfl) ?_; (with_reducible refine (bits_Mul64.calls h x w2 w1 _ HF.out.2.1).mono ?_); rintro e w' ⟨rfl, ⟨nd2, rfl⟩⟩; refine ⟨_, rfl, ?_⟩; skip)
    | ((with_reducible refine gate_callee (f := 43) rfl ?_); refine goesX_ (some 53) rfl rfl Try.func43 (by kernel_rfl) rfl #[.int .u64 w1, .int .u64 ca, .int .u64 0] rfl (by (try simp only [List.map_toArray, List.map_cons, List.map_nil]); first | done | rfl) ?_; (with_reducible refine (bits_Add64.calls w1 ca 0 w1b c _ HF.out.2.2.1).mono ?_); rintro e w' ⟨rfl, ⟨nd3, rfl⟩⟩; refine ⟨_, rfl, ?_⟩; skip))
  rw [HF.out.2.2.2.1]
  go_quiet (fail)
  rw [HF.out.2.2.2.2.1, HF.out.2.2.2.2.2.1]
  go_wp2_with (first
    | ((with_reducible refine gate_callee (f := 46) rfl ?_); (try (refine gate_guard (by rfl) ?_; dsimp only)); refine goesL_ (some 69) rfl rfl Try.func46 (by kernel_rfl) rfl #[.int .u64 r2, .int .u64 w1b, .int .u64 y] rfl (by (try simp only [List.map_toArray, List.map_cons, List.map_nil]); first | done | rfl) ?_; (with_reducible refine (bits_Div64.calls k r2 w1b y q1 r1 _ HF.out.2.2.2.2.2.2.1).mono ?_); rintro e w' ⟨rfl, ⟨nd4, rfl⟩⟩; refine ⟨_, rfl, ?_⟩; skip)
    | ((with_reducible refine gate_callee (f := 46) rfl ?_); (try (refine gate_guard (by rfl) ?_; dsimp only)); refine goesL_ (some 76) rfl rfl Try.func46 (by kernel_rfl) rfl #[.int .u64 r1, .int .u64 w0, .int .u64 y] rfl (by (try simp only [List.map_toArray, List.map_cons, List.map_nil]); first | done | rfl) ?_; (with_reducible refine (bits_Div64.calls k r1 w0 y q0 r0 _ HF.out.2.2.2.2.2.2.2.1).mono ?_); rintro e w' ⟨rfl, ⟨nd5, rfl⟩⟩; refine ⟨_, rfl, ?_⟩; skip)
    | ((with_reducible refine gate_callee (f := 47) rfl ?_); (try (refine gate_guard (by rfl) ?_; dsimp only)); refine goesL_ (some 83) rfl rfl Try.func47 (by kernel_rfl) rfl #[.int .u64 q0, .int .u64 r0, .int .u64 y, .int .i64 r] rfl (by (try simp only [List.map_toArray, List.map_cons, List.map_nil]); first | done | rfl) ?_; (with_reducible refine (num_up.calls q0 r0 y r _ _ HF.out.2.2.2.2.2.2.2.2).mono ?_); rintro e w' ⟨rfl, ⟨nd6, rfl⟩⟩; refine ⟨_, rfl, ?_⟩; skip))
  have g1 : ∀ n, (W1.drewN n).heap[gR]? = some (.cells #[.int .u64 0, .int .u64 0, .bool false] 40 (0, 0)) := fun n => Bx.get HBW1.out (gR, #[.int .u64 0, .int .u64 0, .bool false], 40) (by simp)
  have g2 := Bx.old HBW1.out (gR, #[.int .u64 0, .int .u64 0, .bool false], 40) (by simp)
  refine bodyPost_ret (results_ct rfl _ _ gR 40 #[.int .u64 0, .int .u64 0, .bool false] (0, 0) _ rfl (blk_put (cs := #[.int .u64 0, .int .u64 0, .bool false]) (blk_put (cs := #[.int .u64 0, .int .u64 0, .bool false]) (blk_put (cs := #[.int .u64 0, .int .u64 0, .bool false]) (g1 _) 0 _ rfl) 1 _ rfl) 2 _ rfl) Try.underlying40 rfl (by kernel_rfl)) rfl ⟨rfl, ?_⟩
  exact below_set (below_set (below_set (pw_below_drewN HBW1.out.bel _) g2) g2) g2
end Go.Proofs.Ythmjmkbahneneaa.PMon
end
