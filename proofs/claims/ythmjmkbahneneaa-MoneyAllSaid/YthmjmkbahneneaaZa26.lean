/- MonM, struck of what this claim does not name (wip/tools/pack2.py). -/
import Derived.Test.YthmjmkbahneneaaZa25
import Derived.BigRegion
import Derived.IntWalk
import Derived.Deep.RegionHeld3
import Derived.RangeFuncRecord
section
namespace Go.Proofs.Ythmjmkbahneneaa.PMon
open Go.RowKit Go.Proofs.YthmjmkbahneneaaW.PrintWords Go.Proofs.YthmjmkbahneneaaW.PrintLast Go.Proofs.YthmjmkbahneneaaW.PrintMore
set_option linter.unusedVariables false
set_option linter.unusedSimpArgs false

def M (v : Int) : Value := .agg #[.int .u64 (hiM v), .int .u64 (loM v), .bool (mnM v)]

theorem three_new (w : World) (o1 o2 o3 : Array Value) (t1 t2 t3 : TypeId) :
    (((w.alloc (.cells o1 t1)).alloc (.cells o2 t2)).alloc (.cells o3 t3)).heap[w.heap.size]? = some (.cells o1 t1 (0, 0)) ∧ (((w.alloc (.cells o1 t1)).alloc (.cells o2 t2)).alloc (.cells o3 t3)).heap[w.heap.size + 1]? = some (.cells o2 t2 (0, 0)) ∧ (((w.alloc (.cells o1 t1)).alloc (.cells o2 t2)).alloc (.cells o3 t3)).heap[w.heap.size + 1 + 1]? = some (.cells o3 t3 (0, 0)) ∧ Below w.heap.size w (((w.alloc (.cells o1 t1)).alloc (.cells o2 t2)).alloc (.cells o3 t3)) := by
  have s1 : (w.alloc (.cells o1 t1)).heap.size = w.heap.size + 1 := World.size_alloc _ _
  have s2 : ((w.alloc (.cells o1 t1)).alloc (.cells o2 t2)).heap.size = w.heap.size + 1 + 1 := by rw [World.size_alloc, s1]
  have n : ∀ (W : World) (o : Array Value) (t : TypeId), (W.alloc (.cells o t)).heap[W.heap.size]? = some (.cells o t (0, 0)) := fun W o t => World.alloc_heap_new W _
  refine ⟨?_, ?_, ?_, (((Below.refl _ w).alloc (Nat.le_refl _) _).alloc (by rw [s1]; omega) _).alloc (by rw [s2]; omega) _⟩
  · exact (Below.heap_alloc _ _ _ (by rw [s2]; omega)).trans ((Below.heap_alloc _ _ _ (by rw [s1]; omega)).trans (n w _ _))
  · have := n (w.alloc (.cells o1 t1)) o2 t2
    rw [s1] at this
    exact (Below.heap_alloc _ _ _ (by rw [s2]; omega)).trans this
  · have := n ((w.alloc (.cells o1 t1)).alloc (.cells o2 t2)) o3 t3
    rw [s2] at this
    exact this

set_option maxHeartbeats 8000000 in
set_option maxRecDepth 100000 in
theorem made_big (h l : Int) (s : Bool) (hh : 9223372036854775808 ≤ h) (w : World) :
    Calls Try.prog 62 #[.int .u64 h, .int .u64 l, .bool s] w fun e w' => e = .returned (.tuple #[.agg #[.int .u64 0, .int .u64 0, .bool false], .int .i64 10]) ∧ Below w.heap.size w w' := by
  go_enter Try.func62, Try.ntmps62
  go_wp2
  exact bodyPost_ret (v := .tuple #[.agg #[.int .u64 0, .int .u64 0, .bool false], .int .i64 10]) (by simp [results, Try.results62, go_sem]) rfl ⟨rfl, (Below.refl _ _).alloc (Nat.le_refl _) _⟩

set_option maxHeartbeats 8000000 in
set_option maxRecDepth 100000 in
theorem made_ok_f (h l : Int) (hh : ¬ 9223372036854775808 ≤ h) (w : World) :
    Calls Try.prog 62 #[.int .u64 h, .int .u64 l, .bool false] w fun e w' => e = .returned (.tuple #[.agg #[.int .u64 h, .int .u64 l, .bool false], .int .i64 0]) ∧ Below w.heap.size w w' := by
  go_enter Try.func62, Try.ntmps62
  go_wp2
  exact bodyPost_ret (v := .tuple #[.agg #[.int .u64 h, .int .u64 l, .bool false], .int .i64 0]) (by simp [results, Try.results62, go_sem]) rfl ⟨rfl, (Below.refl _ _).alloc (Nat.le_refl _) _⟩

set_option maxHeartbeats 8000000 in
set_option maxRecDepth 100000 in
theorem made_ok_t (h l : Int) (z : Bool) (hz : (Go.bits .or .u64 h l != 0) = z) (hh : ¬ 9223372036854775808 ≤ h) (w : World) :
    Calls Try.prog 62 #[.int .u64 h, .int .u64 l, .bool true] w fun e w' => e = .returned (.tuple #[.agg #[.int .u64 h, .int .u64 l, .bool z], .int .i64 0]) ∧ Below w.heap.size w w' := by
  go_enter Try.func62, Try.ntmps62
  go_wp2
  exact bodyPost_ret (v := .tuple #[.agg #[.int .u64 h, .int .u64 l, .bool z], .int .i64 0]) (by simp [results, Try.results62, go_sem]) rfl ⟨rfl, (Below.refl _ _).alloc (Nat.le_refl _) _⟩

theorem made_calls (h l : Int) (s : Bool) (x y k : Int) (z : Bool) (hm : num_made.f h l s = some (x, y, z, k)) (w : World) :
    Calls Try.prog 62 #[.int .u64 h, .int .u64 l, .bool s] w fun e w' => e = .returned (.tuple #[.agg #[.int .u64 x, .int .u64 y, .bool z], .int .i64 k]) ∧ Below w.heap.size w w' := by
  unfold num_made.f at hm
  by_cases hh : 9223372036854775808 ≤ h
  · rw [if_pos hh] at hm
    simp only [Option.some.injEq, Prod.mk.injEq] at hm
    obtain ⟨rfl, rfl, rfl, rfl⟩ := hm
    exact made_big h l s hh w
  · rw [if_neg hh] at hm
    cases s with
    | true =>
      rw [if_pos rfl] at hm
      simp only [Option.some.injEq, Prod.mk.injEq] at hm
      obtain ⟨rfl, rfl, rfl, rfl⟩ := hm
      exact made_ok_t h l _ rfl hh w
    | false =>
      rw [if_neg (by decide)] at hm
      simp only [Option.some.injEq, Prod.mk.injEq] at hm
      obtain ⟨rfl, rfl, rfl, rfl⟩ := hm
      exact made_ok_f h l hh w

set_option maxHeartbeats 8000000 in
set_option maxRecDepth 100000 in
theorem less_calls (h1 l1 h2 l2 : Int) (s t : Bool) (r : Bool) (hr : num_Money_less.f h1 l1 s h2 l2 t = some r) (w : World) :
    Calls Try.prog 61 #[.agg #[.int .u64 h1, .int .u64 l1, .bool s], .agg #[.int .u64 h2, .int .u64 l2, .bool t]] w fun e w' => e = .returned (.bool r) ∧ Below w.heap.size w w' := by
  have HB : ∀ o1 o2 : Obj, Below w.heap.size w ((w.alloc o1).alloc o2) := fun o1 o2 => ((Below.refl _ w).alloc (Nat.le_refl _) _).alloc (by simp) _
  have HBB := Aside0.mk HB
  clear HB
  unfold num_Money_less.f at hr
  by_cases c1 : h1 < h2
  · rw [if_pos c1] at hr
    obtain rfl := Option.some.inj hr
    have d1 : decide (h1 < h2) = true := decide_eq_true c1
    clear c1 hr
    go_enter Try.func61, Try.ntmps61
    go_wp2
    go_ret
    exact ⟨rfl, HBB.out _ _⟩
  · rw [if_neg c1] at hr
    have d1 : decide (h1 < h2) = false := decide_eq_false c1
    clear c1
    by_cases c2 : h1 = h2
    · rw [if_pos c2] at hr
      obtain rfl := Option.some.inj hr
      subst c2
      have d2 : (h1 == h1) = true := beq_self_eq_true h1
      clear hr
      go_enter Try.func61, Try.ntmps61
      go_wp2
      go_ret
      exact ⟨rfl, HBB.out _ _⟩
    · rw [if_neg c2] at hr
      obtain rfl := Option.some.inj hr
      have d2 : (h1 == h2) = false := beq_eq_false_iff_ne.mpr c2
      clear c2 hr
      go_enter Try.func61, Try.ntmps61
      go_wp2
      go_ret
      exact ⟨rfl, HBB.out _ _⟩

set_option maxHeartbeats 8000000 in
set_option maxRecDepth 100000 in
theorem add_same (h1 l1 h2 l2 r c r2 c2 x y k : Int) (s z : Bool) (hA : bits_Add64.f l1 l2 0 = some (r, c)) (hB : bits_Add64.f h1 h2 c = some (r2, c2)) (hm : num_made.f r2 r s = some (x, y, z, k)) (w : World) :
    Calls Try.prog 34 #[.agg #[.int .u64 h1, .int .u64 l1, .bool s], .agg #[.int .u64 h2, .int .u64 l2, .bool s]] w fun e w' => e = .returned (.tuple #[.agg #[.int .u64 x, .int .u64 y, .bool z], .int .i64 k]) ∧ Below w.heap.size w w' := by
  have HA := Aside0.mk (And.intro hA (And.intro hB hm))
  clear hA hB hm
  obtain ⟨w3, hw3⟩ : ∃ w3, w3 = ((w.alloc (.cells #[.int .u64 h1, .int .u64 l1, .bool s] 40)).alloc (.cells #[.int .u64 h2, .int .u64 l2, .bool s] 40)).alloc (.cells #[.int .u64 0, .int .u64 0, .bool false] 40) := ⟨_, rfl⟩
  obtain ⟨K1, K2, K3, K4⟩ := three_new w #[.int .u64 h1, .int .u64 l1, .bool s] #[.int .u64 h2, .int .u64 l2, .bool s] #[.int .u64 0, .int .u64 0, .bool false] 40 40 40
  rw [← hw3] at K1 K2 K3 K4
  have a0 : w3.cell? ⟨w.heap.size, 0, none⟩ = some (.int .u64 h1) := (blk_cell K1 0).trans rfl
  have a1 : w3.cell? ⟨w.heap.size, 1, none⟩ = some (.int .u64 l1) := (blk_cell K1 1).trans rfl
  have a2 : w3.cell? ⟨w.heap.size, 2, none⟩ = some (.bool s) := (blk_cell K1 2).trans rfl
  have b0 : w3.cell? ⟨w.heap.size + 1, 0, none⟩ = some (.int .u64 h2) := (blk_cell K2 0).trans rfl
  have b1 : w3.cell? ⟨w.heap.size + 1, 1, none⟩ = some (.int .u64 l2) := (blk_cell K2 1).trans rfl
  have b2 : w3.cell? ⟨w.heap.size + 1, 2, none⟩ = some (.bool s) := (blk_cell K2 2).trans rfl
  have HK := Aside0.mk (And.intro K3 K4)
  have HW := Aside0.mk hw3
  clear K1 K2 K3 K4 hw3
  cases s
  all_goals
    go_enter Try.func34, Try.ntmps34
    go_upto_region 1 with (fail)
    rw [← HW.out]
  · go_wp2_with (first
      | ((with_reducible refine gate_callee (f := 43) rfl ?_); refine goesX_ (some 24) rfl rfl Try.func43 (by kernel_rfl) rfl #[.int .u64 l1, .int .u64 l2, .int .u64 0] rfl (by (try simp only [List.map_toArray, List.map_cons, List.map_nil]); first | done | rfl) ?_; (with_reducible refine (bits_Add64.calls l1 l2 0 r c _ HA.out.1).mono ?_); rintro e w' ⟨rfl, ⟨nd, rfl⟩⟩; refine ⟨_, rfl, ?_⟩; skip)
      | ((with_reducible refine gate_callee (f := 43) rfl ?_); refine goesX_ (some 33) rfl rfl Try.func43 (by kernel_rfl) rfl #[.int .u64 h1, .int .u64 h2, .int .u64 c] rfl (by (try simp only [List.map_toArray, List.map_cons, List.map_nil]); first | done | rfl) ?_; (with_reducible refine (bits_Add64.calls h1 h2 c r2 c2 _ HA.out.2.1).mono ?_); rintro e w' ⟨rfl, ⟨nd, rfl⟩⟩; refine ⟨_, rfl, ?_⟩; skip)
      | ((with_reducible refine gate_callee (f := 62) rfl ?_); (try (refine gate_guard (by rfl) ?_; dsimp only)); refine goesL_ (some 40) rfl rfl Try.func62 (by kernel_rfl) rfl #[.int .u64 r2, .int .u64 r, .bool false] rfl (by (try simp only [List.map_toArray, List.map_cons, List.map_nil]); first | done | rfl) ?_; (with_reducible refine (made_calls r2 r false x y k z HA.out.2.2 _).mono ?_); rintro e w5 ⟨rfl, hb5⟩; refine ⟨_, rfl, ?_⟩; have G5 := Aside0.mk ((hb5.block (w.heap.size + 1 + 1) (blk_lt HK.out.1)).trans HK.out.1); have hc0 : w5.cell? ⟨w.heap.size + 1 + 1, 0, none⟩ = some (.int .u64 0) := (blk_cell G5.out 0).trans rfl; have hc1 : w5.cell? ⟨w.heap.size + 1 + 1, 1, none⟩ = some (.int .u64 0) := (blk_cell G5.out 1).trans rfl; have hc2 : w5.cell? ⟨w.heap.size + 1 + 1, 2, none⟩ = some (.bool false) := (blk_cell G5.out 2).trans rfl; have hf0 := blk_frozen G5.out 0; have hf1 := blk_frozen G5.out 1; have hf2 := blk_frozen G5.out 2; have B5 := Aside0.mk (below_then (pw_below_drewN HK.out.2 _) HK.out.2.size hb5); clear hb5))
    have hg : (((w5.setCell ⟨w.heap.size + 1 + 1, 0, none⟩ (.int .u64 x)).setCell ⟨w.heap.size + 1 + 1, 1, none⟩ (.int .u64 y)).setCell ⟨w.heap.size + 1 + 1, 2, none⟩ (.bool z)).heap[w.heap.size + 1 + 1]? = some (.cells #[.int .u64 x, .int .u64 y, .bool z] 40 (0, 0)) := blk_put (blk_put (blk_put G5.out 0 _ rfl) 1 _ rfl) 2 _ rfl; refine bodyPost_ret (results_list (rs := [.cell 4 40, .tmp 5]) rfl (by simp) (.cell (w.heap.size + 1 + 1) 40 #[.int .u64 x, .int .u64 y, .bool z] (0, 0) _ rfl hg Try.underlying40 rfl (by kernel_rfl) (.tmp .nil))) rfl ?_; exact ⟨rfl, below_set (below_set (below_set B5.out (by omega)) (by omega)) (by omega)⟩
  · go_wp2_with (first
      | ((with_reducible refine gate_callee (f := 43) rfl ?_); refine goesX_ (some 24) rfl rfl Try.func43 (by kernel_rfl) rfl #[.int .u64 l1, .int .u64 l2, .int .u64 0] rfl (by (try simp only [List.map_toArray, List.map_cons, List.map_nil]); first | done | rfl) ?_; (with_reducible refine (bits_Add64.calls l1 l2 0 r c _ HA.out.1).mono ?_); rintro e w' ⟨rfl, ⟨nd, rfl⟩⟩; refine ⟨_, rfl, ?_⟩; skip)
      | ((with_reducible refine gate_callee (f := 43) rfl ?_); refine goesX_ (some 33) rfl rfl Try.func43 (by kernel_rfl) rfl #[.int .u64 h1, .int .u64 h2, .int .u64 c] rfl (by (try simp only [List.map_toArray, List.map_cons, List.map_nil]); first | done | rfl) ?_; (with_reducible refine (bits_Add64.calls h1 h2 c r2 c2 _ HA.out.2.1).mono ?_); rintro e w' ⟨rfl, ⟨nd, rfl⟩⟩; refine ⟨_, rfl, ?_⟩; skip)
      | ((with_reducible refine gate_callee (f := 62) rfl ?_); (try (refine gate_guard (by rfl) ?_; dsimp only)); refine goesL_ (some 40) rfl rfl Try.func62 (by kernel_rfl) rfl #[.int .u64 r2, .int .u64 r, .bool true] rfl (by (try simp only [List.map_toArray, List.map_cons, List.map_nil]); first | done | rfl) ?_; (with_reducible refine (made_calls r2 r true x y k z HA.out.2.2 _).mono ?_); rintro e w5 ⟨rfl, hb5⟩; refine ⟨_, rfl, ?_⟩; have G5 := Aside0.mk ((hb5.block (w.heap.size + 1 + 1) (blk_lt HK.out.1)).trans HK.out.1); have hc0 : w5.cell? ⟨w.heap.size + 1 + 1, 0, none⟩ = some (.int .u64 0) := (blk_cell G5.out 0).trans rfl; have hc1 : w5.cell? ⟨w.heap.size + 1 + 1, 1, none⟩ = some (.int .u64 0) := (blk_cell G5.out 1).trans rfl; have hc2 : w5.cell? ⟨w.heap.size + 1 + 1, 2, none⟩ = some (.bool false) := (blk_cell G5.out 2).trans rfl; have hf0 := blk_frozen G5.out 0; have hf1 := blk_frozen G5.out 1; have hf2 := blk_frozen G5.out 2; have B5 := Aside0.mk (below_then (pw_below_drewN HK.out.2 _) HK.out.2.size hb5); clear hb5))
    have hg : (((w5.setCell ⟨w.heap.size + 1 + 1, 0, none⟩ (.int .u64 x)).setCell ⟨w.heap.size + 1 + 1, 1, none⟩ (.int .u64 y)).setCell ⟨w.heap.size + 1 + 1, 2, none⟩ (.bool z)).heap[w.heap.size + 1 + 1]? = some (.cells #[.int .u64 x, .int .u64 y, .bool z] 40 (0, 0)) := blk_put (blk_put (blk_put G5.out 0 _ rfl) 1 _ rfl) 2 _ rfl; refine bodyPost_ret (results_list (rs := [.cell 4 40, .tmp 5]) rfl (by simp) (.cell (w.heap.size + 1 + 1) 40 #[.int .u64 x, .int .u64 y, .bool z] (0, 0) _ rfl hg Try.underlying40 rfl (by kernel_rfl) (.tmp .nil))) rfl ?_; exact ⟨rfl, below_set (below_set (below_set B5.out (by omega)) (by omega)) (by omega)⟩

theorem swapped {w4 w : World} {h1 l1 h2 l2 : Int} {s t : Bool} {B : Nat} (g g2 : Nat) (hg : B ≤ g) (hg2 : B ≤ g2) (hne : g ≠ g2) (K1 : w4.heap[g]? = some (.cells #[.int .u64 h1, .int .u64 l1, .bool s] 40 (0, 0))) (K2 : w4.heap[g2]? = some (.cells #[.int .u64 h2, .int .u64 l2, .bool t] 40 (0, 0))) (h : Below B w w4) :
    ∀ w6, w6 = ((((((w4.setCell ⟨g, 0, none⟩ (.int .u64 h2)).setCell ⟨g, 1, none⟩ (.int .u64 l2)).setCell ⟨g, 2, none⟩ (.bool t)).setCell ⟨g2, 0, none⟩ (.int .u64 h1)).setCell ⟨g2, 1, none⟩ (.int .u64 l1)).setCell ⟨g2, 2, none⟩ (.bool s)) →
    w6.heap[g]? = some (.cells #[.int .u64 h2, .int .u64 l2, .bool t] 40 (0, 0)) ∧ w6.heap[g2]? = some (.cells #[.int .u64 h1, .int .u64 l1, .bool s] 40 (0, 0)) ∧ (∀ k, k ≠ g → k ≠ g2 → w6.heap[k]? = w4.heap[k]?) ∧ Below B w w6 := by
  rintro w6 rfl
  have o : ∀ (k g : Nat) (W : World) (a b c : Value), k ≠ g → (((W.setCell ⟨g, 0, none⟩ a).setCell ⟨g, 1, none⟩ b).setCell ⟨g, 2, none⟩ c).heap[k]? = W.heap[k]? := fun k g W a b c hk =>
    (Below.heap_setCell _ _ _ k hk).trans ((Below.heap_setCell _ _ _ k hk).trans (Below.heap_setCell _ _ _ k hk))
  have q1 := blk_put (blk_put (blk_put K1 0 (.int .u64 h2) rfl) 1 (.int .u64 l2) rfl) 2 (.bool t) rfl
  have q2 := blk_put (blk_put (blk_put ((o g2 g w4 (.int .u64 h2) (.int .u64 l2) (.bool t) hne.symm).trans K2) 0 (.int .u64 h1) rfl) 1 (.int .u64 l1) rfl) 2 (.bool s) rfl
  refine ⟨(o g g2 _ _ _ _ hne).trans q1, q2, fun k h1 h2 => (o k g2 _ _ _ _ h2).trans (o k g _ _ _ _ h1), ?_⟩
  exact (((((h.setCell hg _).setCell hg _).setCell hg _).setCell hg2 _).setCell hg2 _).setCell hg2 _


set_option maxHeartbeats 8000000 in
set_option maxRecDepth 100000 in
theorem add_more (h1 l1 h2 l2 r c r2 c2 x y k : Int) (s t z : Bool) (hst : s ≠ t) (hl : num_Money_less.f h1 l1 s h2 l2 t = some false) (hA : bits_Sub64.f l1 l2 0 = some (r, c)) (hB : bits_Sub64.f h1 h2 c = some (r2, c2)) (hm : num_made.f r2 r s = some (x, y, z, k)) (w : World) :
    Calls Try.prog 34 #[.agg #[.int .u64 h1, .int .u64 l1, .bool s], .agg #[.int .u64 h2, .int .u64 l2, .bool t]] w fun e w' => e = .returned (.tuple #[.agg #[.int .u64 x, .int .u64 y, .bool z], .int .i64 k]) ∧ Below w.heap.size w w' := by
  have HA := Aside0.mk (And.intro hA (And.intro hB (And.intro hm hl)))
  clear hA hB hm hl
  obtain ⟨w3, hw3⟩ : ∃ w3, w3 = ((w.alloc (.cells #[.int .u64 h1, .int .u64 l1, .bool s] 40)).alloc (.cells #[.int .u64 h2, .int .u64 l2, .bool t] 40)).alloc (.cells #[.int .u64 0, .int .u64 0, .bool false] 40) := ⟨_, rfl⟩; obtain ⟨K1, K2, K3, K4⟩ := three_new w #[.int .u64 h1, .int .u64 l1, .bool s] #[.int .u64 h2, .int .u64 l2, .bool t] #[.int .u64 0, .int .u64 0, .bool false] 40 40 40; rw [← hw3] at K1 K2 K3 K4
  have a0 : w3.cell? ⟨w.heap.size, 0, none⟩ = some (.int .u64 h1) := (blk_cell K1 0).trans rfl; have a1 : w3.cell? ⟨w.heap.size, 1, none⟩ = some (.int .u64 l1) := (blk_cell K1 1).trans rfl; have a2 : w3.cell? ⟨w.heap.size, 2, none⟩ = some (.bool s) := (blk_cell K1 2).trans rfl; have b0 : w3.cell? ⟨w.heap.size + 1, 0, none⟩ = some (.int .u64 h2) := (blk_cell K2 0).trans rfl; have b1 : w3.cell? ⟨w.heap.size + 1, 1, none⟩ = some (.int .u64 l2) := (blk_cell K2 1).trans rfl; have b2 : w3.cell? ⟨w.heap.size + 1, 2, none⟩ = some (.bool t) := (blk_cell K2 2).trans rfl
  have KK := Aside0.mk (And.intro K1 K2)
  have HK := Aside0.mk (And.intro K3 K4)
  have HW := Aside0.mk hw3
  clear K1 K2 K3 K4 hw3
  cases s <;> cases t <;> first | exact absurd rfl hst | clear hst
  all_goals
    go_enter Try.func34, Try.ntmps34
    go_upto_region 1 with (fail)
    rw [← HW.out]
  · go_wp2_with (first
      | ((with_reducible refine gate_callee (f := 61) rfl ?_); (try (refine gate_guard (by rfl) ?_; dsimp only)); refine goesL_ (some 45) rfl rfl Try.func61 (by kernel_rfl) rfl #[.agg #[.int .u64 h1, .int .u64 l1, .bool false], .agg #[.int .u64 h2, .int .u64 l2, .bool true]] rfl (by (try simp only [List.map_toArray, List.map_cons, List.map_nil]); first | done | rfl) ?_; (with_reducible refine (less_calls h1 l1 h2 l2 false true false HA.out.2.2.2 _).mono ?_); rintro e w4 ⟨rfl, hb4⟩; refine ⟨_, rfl, ?_⟩; have K14 := Aside0.mk ((hb4.block w.heap.size (blk_lt KK.out.1)).trans KK.out.1); have K24 := Aside0.mk ((hb4.block (w.heap.size + 1) (blk_lt KK.out.2)).trans KK.out.2); have HK4 := Aside0.mk (And.intro ((hb4.block (w.heap.size + 1 + 1) (blk_lt HK.out.1)).trans HK.out.1) (below_then HK.out.2 HK.out.2.size hb4)); clear hb4; have a40 : w4.cell? ⟨w.heap.size, 0, none⟩ = some (.int .u64 h1) := (blk_cell K14.out 0).trans rfl; have a41 : w4.cell? ⟨w.heap.size, 1, none⟩ = some (.int .u64 l1) := (blk_cell K14.out 1).trans rfl; have a42 : w4.cell? ⟨w.heap.size, 2, none⟩ = some (.bool false) := (blk_cell K14.out 2).trans rfl; have b40 : w4.cell? ⟨w.heap.size + 1, 0, none⟩ = some (.int .u64 h2) := (blk_cell K24.out 0).trans rfl; have b41 : w4.cell? ⟨w.heap.size + 1, 1, none⟩ = some (.int .u64 l2) := (blk_cell K24.out 1).trans rfl; have b42 : w4.cell? ⟨w.heap.size + 1, 2, none⟩ = some (.bool true) := (blk_cell K24.out 2).trans rfl)
      | ((with_reducible refine gate_callee (f := 44) rfl ?_); refine goesX_ (some 53) rfl rfl Try.func44 (by kernel_rfl) rfl #[.int .u64 l1, .int .u64 l2, .int .u64 0] rfl (by (try simp only [List.map_toArray, List.map_cons, List.map_nil]); first | done | rfl) ?_; (with_reducible refine (bits_Sub64.calls l1 l2 0 r c _ HA.out.1).mono ?_); rintro e w' ⟨rfl, ⟨nd, rfl⟩⟩; refine ⟨_, rfl, ?_⟩; skip)
      | ((with_reducible refine gate_callee (f := 44) rfl ?_); refine goesX_ (some 62) rfl rfl Try.func44 (by kernel_rfl) rfl #[.int .u64 h1, .int .u64 h2, .int .u64 c] rfl (by (try simp only [List.map_toArray, List.map_cons, List.map_nil]); first | done | rfl) ?_; (with_reducible refine (bits_Sub64.calls h1 h2 c r2 c2 _ HA.out.2.1).mono ?_); rintro e w' ⟨rfl, ⟨nd, rfl⟩⟩; refine ⟨_, rfl, ?_⟩; skip)
      | ((with_reducible refine gate_callee (f := 62) rfl ?_); (try (refine gate_guard (by rfl) ?_; dsimp only)); refine goesL_ (some 69) rfl rfl Try.func62 (by kernel_rfl) rfl #[.int .u64 r2, .int .u64 r, .bool false] rfl (by (try simp only [List.map_toArray, List.map_cons, List.map_nil]); first | done | rfl) ?_; (with_reducible refine (made_calls r2 r false x y k z HA.out.2.2.1 _).mono ?_); rintro e w5 ⟨rfl, hb5⟩; refine ⟨_, rfl, ?_⟩; have HK := HK4; have G5 := Aside0.mk ((hb5.block (w.heap.size + 1 + 1) (blk_lt HK.out.1)).trans HK.out.1); have hc0 : w5.cell? ⟨w.heap.size + 1 + 1, 0, none⟩ = some (.int .u64 0) := (blk_cell G5.out 0).trans rfl; have hc1 : w5.cell? ⟨w.heap.size + 1 + 1, 1, none⟩ = some (.int .u64 0) := (blk_cell G5.out 1).trans rfl; have hc2 : w5.cell? ⟨w.heap.size + 1 + 1, 2, none⟩ = some (.bool false) := (blk_cell G5.out 2).trans rfl; have hf0 := blk_frozen G5.out 0; have hf1 := blk_frozen G5.out 1; have hf2 := blk_frozen G5.out 2; have B5 := Aside0.mk (below_then (pw_below_drewN HK.out.2 _) HK.out.2.size hb5); clear hb5))
    have hg : (((w5.setCell ⟨w.heap.size + 1 + 1, 0, none⟩ (.int .u64 x)).setCell ⟨w.heap.size + 1 + 1, 1, none⟩ (.int .u64 y)).setCell ⟨w.heap.size + 1 + 1, 2, none⟩ (.bool z)).heap[w.heap.size + 1 + 1]? = some (.cells #[.int .u64 x, .int .u64 y, .bool z] 40 (0, 0)) := blk_put (blk_put (blk_put G5.out 0 _ rfl) 1 _ rfl) 2 _ rfl; refine bodyPost_ret (results_list (rs := [.cell 4 40, .tmp 5]) rfl (by simp) (.cell (w.heap.size + 1 + 1) 40 #[.int .u64 x, .int .u64 y, .bool z] (0, 0) _ rfl hg Try.underlying40 rfl (by kernel_rfl) (.tmp .nil))) rfl ?_; exact ⟨rfl, below_set (below_set (below_set B5.out (by omega)) (by omega)) (by omega)⟩
  · go_wp2_with (first
      | ((with_reducible refine gate_callee (f := 61) rfl ?_); (try (refine gate_guard (by rfl) ?_; dsimp only)); refine goesL_ (some 45) rfl rfl Try.func61 (by kernel_rfl) rfl #[.agg #[.int .u64 h1, .int .u64 l1, .bool true], .agg #[.int .u64 h2, .int .u64 l2, .bool false]] rfl (by (try simp only [List.map_toArray, List.map_cons, List.map_nil]); first | done | rfl) ?_; (with_reducible refine (less_calls h1 l1 h2 l2 true false false HA.out.2.2.2 _).mono ?_); rintro e w4 ⟨rfl, hb4⟩; refine ⟨_, rfl, ?_⟩; have K14 := Aside0.mk ((hb4.block w.heap.size (blk_lt KK.out.1)).trans KK.out.1); have K24 := Aside0.mk ((hb4.block (w.heap.size + 1) (blk_lt KK.out.2)).trans KK.out.2); have HK4 := Aside0.mk (And.intro ((hb4.block (w.heap.size + 1 + 1) (blk_lt HK.out.1)).trans HK.out.1) (below_then HK.out.2 HK.out.2.size hb4)); clear hb4; have a40 : w4.cell? ⟨w.heap.size, 0, none⟩ = some (.int .u64 h1) := (blk_cell K14.out 0).trans rfl; have a41 : w4.cell? ⟨w.heap.size, 1, none⟩ = some (.int .u64 l1) := (blk_cell K14.out 1).trans rfl; have a42 : w4.cell? ⟨w.heap.size, 2, none⟩ = some (.bool true) := (blk_cell K14.out 2).trans rfl; have b40 : w4.cell? ⟨w.heap.size + 1, 0, none⟩ = some (.int .u64 h2) := (blk_cell K24.out 0).trans rfl; have b41 : w4.cell? ⟨w.heap.size + 1, 1, none⟩ = some (.int .u64 l2) := (blk_cell K24.out 1).trans rfl; have b42 : w4.cell? ⟨w.heap.size + 1, 2, none⟩ = some (.bool false) := (blk_cell K24.out 2).trans rfl)
      | ((with_reducible refine gate_callee (f := 44) rfl ?_); refine goesX_ (some 53) rfl rfl Try.func44 (by kernel_rfl) rfl #[.int .u64 l1, .int .u64 l2, .int .u64 0] rfl (by (try simp only [List.map_toArray, List.map_cons, List.map_nil]); first | done | rfl) ?_; (with_reducible refine (bits_Sub64.calls l1 l2 0 r c _ HA.out.1).mono ?_); rintro e w' ⟨rfl, ⟨nd, rfl⟩⟩; refine ⟨_, rfl, ?_⟩; skip)
      | ((with_reducible refine gate_callee (f := 44) rfl ?_); refine goesX_ (some 62) rfl rfl Try.func44 (by kernel_rfl) rfl #[.int .u64 h1, .int .u64 h2, .int .u64 c] rfl (by (try simp only [List.map_toArray, List.map_cons, List.map_nil]); first | done | rfl) ?_; (with_reducible refine (bits_Sub64.calls h1 h2 c r2 c2 _ HA.out.2.1).mono ?_); rintro e w' ⟨rfl, ⟨nd, rfl⟩⟩; refine ⟨_, rfl, ?_⟩; skip)
      | ((with_reducible refine gate_callee (f := 62) rfl ?_); (try (refine gate_guard (by rfl) ?_; dsimp only)); refine goesL_ (some 69) rfl rfl Try.func62 (by kernel_rfl) rfl #[.int .u64 r2, .int .u64 r, .bool true] rfl (by (try simp only [List.map_toArray, List.map_cons, List.map_nil]); first | done | rfl) ?_; (with_reducible refine (made_calls r2 r true x y k z HA.out.2.2.1 _).mono ?_); rintro e w5 ⟨rfl, hb5⟩; refine ⟨_, rfl, ?_⟩; have HK := HK4; have G5 := Aside0.mk ((hb5.block (w.heap.size + 1 + 1) (blk_lt HK.out.1)).trans HK.out.1); have hc0 : w5.cell? ⟨w.heap.size + 1 + 1, 0, none⟩ = some (.int .u64 0) := (blk_cell G5.out 0).trans rfl; have hc1 : w5.cell? ⟨w.heap.size + 1 + 1, 1, none⟩ = some (.int .u64 0) := (blk_cell G5.out 1).trans rfl; have hc2 : w5.cell? ⟨w.heap.size + 1 + 1, 2, none⟩ = some (.bool false) := (blk_cell G5.out 2).trans rfl; have hf0 := blk_frozen G5.out 0; have hf1 := blk_frozen G5.out 1; have hf2 := blk_frozen G5.out 2; have B5 := Aside0.mk (below_then (pw_below_drewN HK.out.2 _) HK.out.2.size hb5); clear hb5))
    have hg : (((w5.setCell ⟨w.heap.size + 1 + 1, 0, none⟩ (.int .u64 x)).setCell ⟨w.heap.size + 1 + 1, 1, none⟩ (.int .u64 y)).setCell ⟨w.heap.size + 1 + 1, 2, none⟩ (.bool z)).heap[w.heap.size + 1 + 1]? = some (.cells #[.int .u64 x, .int .u64 y, .bool z] 40 (0, 0)) := blk_put (blk_put (blk_put G5.out 0 _ rfl) 1 _ rfl) 2 _ rfl; refine bodyPost_ret (results_list (rs := [.cell 4 40, .tmp 5]) rfl (by simp) (.cell (w.heap.size + 1 + 1) 40 #[.int .u64 x, .int .u64 y, .bool z] (0, 0) _ rfl hg Try.underlying40 rfl (by kernel_rfl) (.tmp .nil))) rfl ?_; exact ⟨rfl, below_set (below_set (below_set B5.out (by omega)) (by omega)) (by omega)⟩

set_option maxHeartbeats 8000000 in
set_option maxRecDepth 100000 in
theorem add_less (h1 l1 h2 l2 r c r2 c2 x y k : Int) (s t z : Bool) (hst : s ≠ t) (hl : num_Money_less.f h1 l1 s h2 l2 t = some true) (hA : bits_Sub64.f l2 l1 0 = some (r, c)) (hB : bits_Sub64.f h2 h1 c = some (r2, c2)) (hm : num_made.f r2 r t = some (x, y, z, k)) (w : World) :
    Calls Try.prog 34 #[.agg #[.int .u64 h1, .int .u64 l1, .bool s], .agg #[.int .u64 h2, .int .u64 l2, .bool t]] w fun e w' => e = .returned (.tuple #[.agg #[.int .u64 x, .int .u64 y, .bool z], .int .i64 k]) ∧ Below w.heap.size w w' := by
  have HA := Aside0.mk (And.intro hA (And.intro hB (And.intro hm hl)))
  clear hA hB hm hl
  obtain ⟨w3, hw3⟩ : ∃ w3, w3 = ((w.alloc (.cells #[.int .u64 h1, .int .u64 l1, .bool s] 40)).alloc (.cells #[.int .u64 h2, .int .u64 l2, .bool t] 40)).alloc (.cells #[.int .u64 0, .int .u64 0, .bool false] 40) := ⟨_, rfl⟩; obtain ⟨K1, K2, K3, K4⟩ := three_new w #[.int .u64 h1, .int .u64 l1, .bool s] #[.int .u64 h2, .int .u64 l2, .bool t] #[.int .u64 0, .int .u64 0, .bool false] 40 40 40; rw [← hw3] at K1 K2 K3 K4
  have a0 : w3.cell? ⟨w.heap.size, 0, none⟩ = some (.int .u64 h1) := (blk_cell K1 0).trans rfl; have a1 : w3.cell? ⟨w.heap.size, 1, none⟩ = some (.int .u64 l1) := (blk_cell K1 1).trans rfl; have a2 : w3.cell? ⟨w.heap.size, 2, none⟩ = some (.bool s) := (blk_cell K1 2).trans rfl; have b0 : w3.cell? ⟨w.heap.size + 1, 0, none⟩ = some (.int .u64 h2) := (blk_cell K2 0).trans rfl; have b1 : w3.cell? ⟨w.heap.size + 1, 1, none⟩ = some (.int .u64 l2) := (blk_cell K2 1).trans rfl; have b2 : w3.cell? ⟨w.heap.size + 1, 2, none⟩ = some (.bool t) := (blk_cell K2 2).trans rfl
  have KK := Aside0.mk (And.intro K1 K2)
  have HK := Aside0.mk (And.intro K3 K4)
  have HW := Aside0.mk hw3
  clear K1 K2 K3 K4 hw3
  cases s <;> cases t <;> first | exact absurd rfl hst | clear hst
  all_goals
    go_enter Try.func34, Try.ntmps34
    go_upto_region 1 with (fail)
    rw [← HW.out]
  · go_upto_region 7 with (first
      | ((with_reducible refine gate_callee (f := 61) rfl ?_); (try (refine gate_guard (by rfl) ?_; dsimp only)); refine goesL_ (some 45) rfl rfl Try.func61 (by kernel_rfl) rfl #[.agg #[.int .u64 h1, .int .u64 l1, .bool false], .agg #[.int .u64 h2, .int .u64 l2, .bool true]] rfl (by (try simp only [List.map_toArray, List.map_cons, List.map_nil]); first | done | rfl) ?_; (with_reducible refine (less_calls h1 l1 h2 l2 false true true HA.out.2.2.2 _).mono ?_); rintro e w4 ⟨rfl, hb4⟩; refine ⟨_, rfl, ?_⟩; have K14 := Aside0.mk ((hb4.block w.heap.size (blk_lt KK.out.1)).trans KK.out.1); have K24 := Aside0.mk ((hb4.block (w.heap.size + 1) (blk_lt KK.out.2)).trans KK.out.2); have HK4 := Aside0.mk (And.intro ((hb4.block (w.heap.size + 1 + 1) (blk_lt HK.out.1)).trans HK.out.1) (below_then HK.out.2 HK.out.2.size hb4)); clear hb4; have a40 : w4.cell? ⟨w.heap.size, 0, none⟩ = some (.int .u64 h1) := (blk_cell K14.out 0).trans rfl; have a41 : w4.cell? ⟨w.heap.size, 1, none⟩ = some (.int .u64 l1) := (blk_cell K14.out 1).trans rfl; have a42 : w4.cell? ⟨w.heap.size, 2, none⟩ = some (.bool false) := (blk_cell K14.out 2).trans rfl; have b40 : w4.cell? ⟨w.heap.size + 1, 0, none⟩ = some (.int .u64 h2) := (blk_cell K24.out 0).trans rfl; have b41 : w4.cell? ⟨w.heap.size + 1, 1, none⟩ = some (.int .u64 l2) := (blk_cell K24.out 1).trans rfl; have b42 : w4.cell? ⟨w.heap.size + 1, 2, none⟩ = some (.bool true) := (blk_cell K24.out 2).trans rfl; have fa40 := blk_frozen K14.out 0; have fa41 := blk_frozen K14.out 1; have fa42 := blk_frozen K14.out 2; have fb40 := blk_frozen K24.out 0; have fb41 := blk_frozen K24.out 1; have fb42 := blk_frozen K24.out 2))
    clear a40 a41 a42 b40 b41 b42 fa40 fa41 fa42 fb40 fb41 fb42
    have SW := swapped w.heap.size (w.heap.size + 1) (Nat.le_refl _) (by omega) (by omega) K14.out K24.out HK4.out.2
    obtain ⟨w6, hw6⟩ : ∃ w6, w6 = ((((((w4.setCell ⟨w.heap.size, 0, none⟩ (.int .u64 h2)).setCell ⟨w.heap.size, 1, none⟩ (.int .u64 l2)).setCell ⟨w.heap.size, 2, none⟩ (.bool true)).setCell ⟨w.heap.size + 1, 0, none⟩ (.int .u64 h1)).setCell ⟨w.heap.size + 1, 1, none⟩ (.int .u64 l1)).setCell ⟨w.heap.size + 1, 2, none⟩ (.bool false)) := ⟨_, rfl⟩
    rw [← hw6]
    obtain ⟨K16, K26, K6, B6⟩ := SW w6 hw6
    have HK6 := Aside0.mk (And.intro ((K6 (w.heap.size + 1 + 1) (by omega) (by omega)).trans HK4.out.1) B6)
    clear SW hw6 K6 B6
    have a0 : w6.cell? ⟨w.heap.size, 0, none⟩ = some (.int .u64 h2) := (blk_cell K16 0).trans rfl
    have a1 : w6.cell? ⟨w.heap.size, 1, none⟩ = some (.int .u64 l2) := (blk_cell K16 1).trans rfl
    have a2 : w6.cell? ⟨w.heap.size, 2, none⟩ = some (.bool true) := (blk_cell K16 2).trans rfl
    have b0 : w6.cell? ⟨w.heap.size + 1, 0, none⟩ = some (.int .u64 h1) := (blk_cell K26 0).trans rfl
    have b1 : w6.cell? ⟨w.heap.size + 1, 1, none⟩ = some (.int .u64 l1) := (blk_cell K26 1).trans rfl
    have b2 : w6.cell? ⟨w.heap.size + 1, 2, none⟩ = some (.bool false) := (blk_cell K26 2).trans rfl
    clear K16 K26
    go_wp2_with (first
      | ((with_reducible refine gate_callee (f := 44) rfl ?_); refine goesX_ (some 53) rfl rfl Try.func44 (by kernel_rfl) rfl #[.int .u64 l2, .int .u64 l1, .int .u64 0] rfl (by (try simp only [List.map_toArray, List.map_cons, List.map_nil]); first | done | rfl) ?_; (with_reducible refine (bits_Sub64.calls l2 l1 0 r c _ HA.out.1).mono ?_); rintro e w' ⟨rfl, ⟨nd, rfl⟩⟩; refine ⟨_, rfl, ?_⟩; skip)
      | ((with_reducible refine gate_callee (f := 44) rfl ?_); refine goesX_ (some 62) rfl rfl Try.func44 (by kernel_rfl) rfl #[.int .u64 h2, .int .u64 h1, .int .u64 c] rfl (by (try simp only [List.map_toArray, List.map_cons, List.map_nil]); first | done | rfl) ?_; (with_reducible refine (bits_Sub64.calls h2 h1 c r2 c2 _ HA.out.2.1).mono ?_); rintro e w' ⟨rfl, ⟨nd, rfl⟩⟩; refine ⟨_, rfl, ?_⟩; skip)
      | ((with_reducible refine gate_callee (f := 62) rfl ?_); (try (refine gate_guard (by rfl) ?_; dsimp only)); refine goesL_ (some 69) rfl rfl Try.func62 (by kernel_rfl) rfl #[.int .u64 r2, .int .u64 r, .bool true] rfl (by (try simp only [List.map_toArray, List.map_cons, List.map_nil]); first | done | rfl) ?_; (with_reducible refine (made_calls r2 r true x y k z HA.out.2.2.1 _).mono ?_); rintro e w5 ⟨rfl, hb5⟩; refine ⟨_, rfl, ?_⟩; have HK := HK6; have G5 := Aside0.mk ((hb5.block (w.heap.size + 1 + 1) (blk_lt HK.out.1)).trans HK.out.1); have hc0 : w5.cell? ⟨w.heap.size + 1 + 1, 0, none⟩ = some (.int .u64 0) := (blk_cell G5.out 0).trans rfl; have hc1 : w5.cell? ⟨w.heap.size + 1 + 1, 1, none⟩ = some (.int .u64 0) := (blk_cell G5.out 1).trans rfl; have hc2 : w5.cell? ⟨w.heap.size + 1 + 1, 2, none⟩ = some (.bool false) := (blk_cell G5.out 2).trans rfl; have hf0 := blk_frozen G5.out 0; have hf1 := blk_frozen G5.out 1; have hf2 := blk_frozen G5.out 2; have B5 := Aside0.mk (below_then (pw_below_drewN HK.out.2 _) HK.out.2.size hb5); clear hb5))
    have hg : (((w5.setCell ⟨w.heap.size + 1 + 1, 0, none⟩ (.int .u64 x)).setCell ⟨w.heap.size + 1 + 1, 1, none⟩ (.int .u64 y)).setCell ⟨w.heap.size + 1 + 1, 2, none⟩ (.bool z)).heap[w.heap.size + 1 + 1]? = some (.cells #[.int .u64 x, .int .u64 y, .bool z] 40 (0, 0)) := blk_put (blk_put (blk_put G5.out 0 _ rfl) 1 _ rfl) 2 _ rfl; refine bodyPost_ret (results_list (rs := [.cell 4 40, .tmp 5]) rfl (by simp) (.cell (w.heap.size + 1 + 1) 40 #[.int .u64 x, .int .u64 y, .bool z] (0, 0) _ rfl hg Try.underlying40 rfl (by kernel_rfl) (.tmp .nil))) rfl ?_; exact ⟨rfl, below_set (below_set (below_set B5.out (by omega)) (by omega)) (by omega)⟩
  · go_upto_region 7 with (first
      | ((with_reducible refine gate_callee (f := 61) rfl ?_); (try (refine gate_guard (by rfl) ?_; dsimp only)); refine goesL_ (some 45) rfl rfl Try.func61 (by kernel_rfl) rfl #[.agg #[.int .u64 h1, .int .u64 l1, .bool true], .agg #[.int .u64 h2, .int .u64 l2, .bool false]] rfl (by (try simp only [List.map_toArray, List.map_cons, List.map_nil]); first | done | rfl) ?_; (with_reducible refine (less_calls h1 l1 h2 l2 true false true HA.out.2.2.2 _).mono ?_); rintro e w4 ⟨rfl, hb4⟩; refine ⟨_, rfl, ?_⟩; have K14 := Aside0.mk ((hb4.block w.heap.size (blk_lt KK.out.1)).trans KK.out.1); have K24 := Aside0.mk ((hb4.block (w.heap.size + 1) (blk_lt KK.out.2)).trans KK.out.2); have HK4 := Aside0.mk (And.intro ((hb4.block (w.heap.size + 1 + 1) (blk_lt HK.out.1)).trans HK.out.1) (below_then HK.out.2 HK.out.2.size hb4)); clear hb4; have a40 : w4.cell? ⟨w.heap.size, 0, none⟩ = some (.int .u64 h1) := (blk_cell K14.out 0).trans rfl; have a41 : w4.cell? ⟨w.heap.size, 1, none⟩ = some (.int .u64 l1) := (blk_cell K14.out 1).trans rfl; have a42 : w4.cell? ⟨w.heap.size, 2, none⟩ = some (.bool true) := (blk_cell K14.out 2).trans rfl; have b40 : w4.cell? ⟨w.heap.size + 1, 0, none⟩ = some (.int .u64 h2) := (blk_cell K24.out 0).trans rfl; have b41 : w4.cell? ⟨w.heap.size + 1, 1, none⟩ = some (.int .u64 l2) := (blk_cell K24.out 1).trans rfl; have b42 : w4.cell? ⟨w.heap.size + 1, 2, none⟩ = some (.bool false) := (blk_cell K24.out 2).trans rfl; have fa40 := blk_frozen K14.out 0; have fa41 := blk_frozen K14.out 1; have fa42 := blk_frozen K14.out 2; have fb40 := blk_frozen K24.out 0; have fb41 := blk_frozen K24.out 1; have fb42 := blk_frozen K24.out 2))
    clear a40 a41 a42 b40 b41 b42 fa40 fa41 fa42 fb40 fb41 fb42
    have SW := swapped w.heap.size (w.heap.size + 1) (Nat.le_refl _) (by omega) (by omega) K14.out K24.out HK4.out.2
    obtain ⟨w6, hw6⟩ : ∃ w6, w6 = ((((((w4.setCell ⟨w.heap.size, 0, none⟩ (.int .u64 h2)).setCell ⟨w.heap.size, 1, none⟩ (.int .u64 l2)).setCell ⟨w.heap.size, 2, none⟩ (.bool false)).setCell ⟨w.heap.size + 1, 0, none⟩ (.int .u64 h1)).setCell ⟨w.heap.size + 1, 1, none⟩ (.int .u64 l1)).setCell ⟨w.heap.size + 1, 2, none⟩ (.bool true)) := ⟨_, rfl⟩
    rw [← hw6]
    obtain ⟨K16, K26, K6, B6⟩ := SW w6 hw6
    have HK6 := Aside0.mk (And.intro ((K6 (w.heap.size + 1 + 1) (by omega) (by omega)).trans HK4.out.1) B6)
    clear SW hw6 K6 B6
    have a0 : w6.cell? ⟨w.heap.size, 0, none⟩ = some (.int .u64 h2) := (blk_cell K16 0).trans rfl
    have a1 : w6.cell? ⟨w.heap.size, 1, none⟩ = some (.int .u64 l2) := (blk_cell K16 1).trans rfl
    have a2 : w6.cell? ⟨w.heap.size, 2, none⟩ = some (.bool false) := (blk_cell K16 2).trans rfl
    have b0 : w6.cell? ⟨w.heap.size + 1, 0, none⟩ = some (.int .u64 h1) := (blk_cell K26 0).trans rfl
    have b1 : w6.cell? ⟨w.heap.size + 1, 1, none⟩ = some (.int .u64 l1) := (blk_cell K26 1).trans rfl
    have b2 : w6.cell? ⟨w.heap.size + 1, 2, none⟩ = some (.bool true) := (blk_cell K26 2).trans rfl
    clear K16 K26
    go_wp2_with (first
      | ((with_reducible refine gate_callee (f := 44) rfl ?_); refine goesX_ (some 53) rfl rfl Try.func44 (by kernel_rfl) rfl #[.int .u64 l2, .int .u64 l1, .int .u64 0] rfl (by (try simp only [List.map_toArray, List.map_cons, List.map_nil]); first | done | rfl) ?_; (with_reducible refine (bits_Sub64.calls l2 l1 0 r c _ HA.out.1).mono ?_); rintro e w' ⟨rfl, ⟨nd, rfl⟩⟩; refine ⟨_, rfl, ?_⟩; skip)
      | ((with_reducible refine gate_callee (f := 44) rfl ?_); refine goesX_ (some 62) rfl rfl Try.func44 (by kernel_rfl) rfl #[.int .u64 h2, .int .u64 h1, .int .u64 c] rfl (by (try simp only [List.map_toArray, List.map_cons, List.map_nil]); first | done | rfl) ?_; (with_reducible refine (bits_Sub64.calls h2 h1 c r2 c2 _ HA.out.2.1).mono ?_); rintro e w' ⟨rfl, ⟨nd, rfl⟩⟩; refine ⟨_, rfl, ?_⟩; skip)
      | ((with_reducible refine gate_callee (f := 62) rfl ?_); (try (refine gate_guard (by rfl) ?_; dsimp only)); refine goesL_ (some 69) rfl rfl Try.func62 (by kernel_rfl) rfl #[.int .u64 r2, .int .u64 r, .bool false] rfl (by (try simp only [List.map_toArray, List.map_cons, List.map_nil]); first | done | rfl) ?_; (with_reducible refine (made_calls r2 r false x y k z HA.out.2.2.1 _).mono ?_); rintro e w5 ⟨rfl, hb5⟩; refine ⟨_, rfl, ?_⟩; have HK := HK6; have G5 := Aside0.mk ((hb5.block (w.heap.size + 1 + 1) (blk_lt HK.out.1)).trans HK.out.1); have hc0 : w5.cell? ⟨w.heap.size + 1 + 1, 0, none⟩ = some (.int .u64 0) := (blk_cell G5.out 0).trans rfl; have hc1 : w5.cell? ⟨w.heap.size + 1 + 1, 1, none⟩ = some (.int .u64 0) := (blk_cell G5.out 1).trans rfl; have hc2 : w5.cell? ⟨w.heap.size + 1 + 1, 2, none⟩ = some (.bool false) := (blk_cell G5.out 2).trans rfl; have hf0 := blk_frozen G5.out 0; have hf1 := blk_frozen G5.out 1; have hf2 := blk_frozen G5.out 2; have B5 := Aside0.mk (below_then (pw_below_drewN HK.out.2 _) HK.out.2.size hb5); clear hb5))
    have hg : (((w5.setCell ⟨w.heap.size + 1 + 1, 0, none⟩ (.int .u64 x)).setCell ⟨w.heap.size + 1 + 1, 1, none⟩ (.int .u64 y)).setCell ⟨w.heap.size + 1 + 1, 2, none⟩ (.bool z)).heap[w.heap.size + 1 + 1]? = some (.cells #[.int .u64 x, .int .u64 y, .bool z] 40 (0, 0)) := blk_put (blk_put (blk_put G5.out 0 _ rfl) 1 _ rfl) 2 _ rfl; refine bodyPost_ret (results_list (rs := [.cell 4 40, .tmp 5]) rfl (by simp) (.cell (w.heap.size + 1 + 1) 40 #[.int .u64 x, .int .u64 y, .bool z] (0, 0) _ rfl hg Try.underlying40 rfl (by kernel_rfl) (.tmp .nil))) rfl ?_; exact ⟨rfl, below_set (below_set (below_set B5.out (by omega)) (by omega)) (by omega)⟩

theorem add_calls0 (h1 l1 h2 l2 x y k : Int) (s t z : Bool) (h : num_Money_Add.f h1 l1 s h2 l2 t = some (x, y, z, k)) (w : World) :
    Calls Try.prog 34 #[.agg #[.int .u64 h1, .int .u64 l1, .bool s], .agg #[.int .u64 h2, .int .u64 l2, .bool t]] w fun e w' => e = .returned (.tuple #[.agg #[.int .u64 x, .int .u64 y, .bool z], .int .i64 k]) ∧ Below w.heap.size w w' := by
  unfold num_Money_Add.f at h
  by_cases c : (s == t) = true
  · rw [if_pos c] at h
    have c' : s = t := by simpa using c
    subst c'
    obtain ⟨⟨r, c1⟩, hA, h⟩ := Option.bind_eq_some_iff.1 h
    obtain ⟨⟨r2, c2⟩, hB, h⟩ := Option.bind_eq_some_iff.1 h
    obtain ⟨⟨x', y', z', k'⟩, hm, h⟩ := Option.bind_eq_some_iff.1 h
    obtain ⟨rfl, rfl, rfl, rfl⟩ := by simpa only [Option.some.injEq, Prod.mk.injEq] using h
    exact add_same h1 l1 h2 l2 r c1 r2 c2 _ _ _ s _ hA hB hm w
  · rw [if_neg c] at h
    have c' : s ≠ t := by simpa using c
    obtain ⟨b, hl, h⟩ := Option.bind_eq_some_iff.1 h
    cases b with
    | true =>
      rw [if_pos rfl] at h
      obtain ⟨⟨r, c1⟩, hA, h⟩ := Option.bind_eq_some_iff.1 h
      obtain ⟨⟨r2, c2⟩, hB, h⟩ := Option.bind_eq_some_iff.1 h
      obtain ⟨⟨x', y', z', k'⟩, hm, h⟩ := Option.bind_eq_some_iff.1 h
      obtain ⟨rfl, rfl, rfl, rfl⟩ := by simpa only [Option.some.injEq, Prod.mk.injEq] using h
      exact add_less h1 l1 h2 l2 r c1 r2 c2 _ _ _ s t _ c' hl hA hB hm w
    | false =>
      rw [if_neg (by decide)] at h
      obtain ⟨⟨r, c1⟩, hA, h⟩ := Option.bind_eq_some_iff.1 h
      obtain ⟨⟨r2, c2⟩, hB, h⟩ := Option.bind_eq_some_iff.1 h
      obtain ⟨⟨x', y', z', k'⟩, hm, h⟩ := Option.bind_eq_some_iff.1 h
      obtain ⟨rfl, rfl, rfl, rfl⟩ := by simpa only [Option.some.injEq, Prod.mk.injEq] using h
      exact add_more h1 l1 h2 l2 r c1 r2 c2 _ _ _ s t _ c' hl hA hB hm w

def addR (v : Int) : Int := if v.natAbs < 170141183460469231731687303715884105728 then v else 0
def addE (v : Int) : Int := if v.natAbs < 170141183460469231731687303715884105728 then 0 else 10
theorem small_addR (v : Int) : Small (addR v) := by
  unfold Small addR
  by_cases h : v.natAbs < 170141183460469231731687303715884105728
  · rwa [if_pos h]
  · rw [if_neg h]; decide
theorem add_calls (a b : Int) (ha : Small a) (hb : Small b) (w : World) :
    Calls Try.prog 34 #[M a, M b] w fun e w' => e = .returned (.tuple #[M (addR (a + b)), .int .i64 (addE (a + b))]) ∧ Below w.heap.size w w' := by
  refine add_calls0 (hiM a) (loM a) (hiM b) (loM b) _ _ _ (mnM a) (mnM b) _ ?_ w
  rw [add_f a b ha hb]
  unfold addR addE
  by_cases h : (a + b).natAbs < 170141183460469231731687303715884105728
  · rw [if_pos h, if_pos h, if_pos h]
  · rw [if_neg h, if_neg h, if_neg h]; rfl
end Go.Proofs.Ythmjmkbahneneaa.PMon
end
