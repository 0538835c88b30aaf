/- IndexTwo: rooms that are none. -/
import Derived.Test.YtmcaoecmjibegaaIyF
import Derived.BigRegion
namespace Go.Proofs.Ytmcaoecmjibegaa.PIx
open Go.RowKit Go.Proofs.YtmcaoecmjibegaaW.PrintWords Go.Proofs.YtmcaoecmjibegaaW.PrintLast Go.Proofs.YtmcaoecmjibegaaW.PrintMore
open Go.Shelf
set_option linter.unusedVariables false
set_option linter.unusedSimpArgs false

set_option maxHeartbeats 16000000 in
set_option maxRecDepth 100000 in
theorem indexTwo_bad (room more : Int) (A : Option Addr) (n cap : Nat) (A2 : Option Addr) (n2 cap2 : Nat) (W : World) (h : room < 1 ∨ 65536 < room) :
    Calls Try.prog 9 #[.int .i64 room, .int .i64 more, .slice A n cap, .slice A2 n2 cap2] W fun e W' => e = .returned (.bool true) ∧ Below W.heap.size W W' := by
  have HR := Aside0.mk h
  have K0 : Aside0 ((W.alloc (.cells #[.bool false] 4)).heap[W.heap.size]? = some (.cells #[.bool false] 4 (0, 0)) ∧ Below W.heap.size W (W.alloc (.cells #[.bool false] 4))) := ⟨heap_alloc_new W _, (Below.refl _ W).alloc (Nat.le_refl _) _⟩
  by_cases h1 : room < 1
  · have d1 : decide (room < 1) = true := decide_eq_true h1
    clear h
    go_enter Try.func9, Try.ntmps9
    go_wp2_with (first
      | ((with_reducible refine gate_callee (f := 17) rfl ?_); (try (refine gate_guard (by rfl) ?_; dsimp only)); refine goesL_ (some 29) rfl rfl Try.func17 (by kernel_rfl) rfl #[] rfl (by (try simp only [List.map_toArray, List.map_cons, List.map_nil]); first | done | rfl) ?_; (with_reducible refine (lives_calls _).mono ?_); rintro e w0 ⟨rfl, hbel⟩; refine ⟨_, rfl, ?_⟩; have KA : Aside0 (w0.heap[W.heap.size]? = some (.cells #[.bool false] 4 (0, 0)) ∧ Below W.heap.size W w0) := ⟨blk_below K0.out.1 hbel, below_then K0.out.2 K0.out.2.size hbel⟩; clear hbel)
      | ((with_reducible refine gate_callee (f := 16) rfl ?_); (try (refine gate_guard (by rfl) ?_; dsimp only)); refine goesL_ (some 33) rfl rfl Try.func16 (by kernel_rfl) rfl #[.int .i64 room] rfl (by (try simp only [List.map_toArray, List.map_cons, List.map_nil]); first | done | rfl) ?_; (with_reducible refine (new_bad room _ HR.out).mono ?_); rintro e w1 ⟨rfl, hbel⟩; refine ⟨_, rfl, ?_⟩; have K1 : Aside0 (w1.heap[W.heap.size]? = some (.cells #[.bool false] 4 (0, 0)) ∧ Below W.heap.size W w1) := ⟨blk_below KA.out.1 hbel, below_then KA.out.2 KA.out.2.size hbel⟩; clear hbel; have c1 := (blk_cell K1.out.1 0).trans rfl; have z1 := blk_frozen K1.out.1 0))
    refine bodyPost_ret (results_bool rfl rfl ((blk_cell (blk_set K1.out.1 0 (.bool true)) 0).trans rfl)) rfl ?_
    exact ⟨rfl, K1.out.2.setCell (p := ⟨W.heap.size, 0, none⟩) (Nat.le_refl _) _⟩
  · have h2 : 65536 < room := by omega
    have d1 : decide (room < 1) = false := decide_eq_false h1
    have d2 : decide (65536 < room) = true := decide_eq_true h2
    clear h
    go_enter Try.func9, Try.ntmps9
    go_wp2_with (first
      | ((with_reducible refine gate_callee (f := 17) rfl ?_); (try (refine gate_guard (by rfl) ?_; dsimp only)); refine goesL_ (some 29) rfl rfl Try.func17 (by kernel_rfl) rfl #[] rfl (by (try simp only [List.map_toArray, List.map_cons, List.map_nil]); first | done | rfl) ?_; (with_reducible refine (lives_calls _).mono ?_); rintro e w0 ⟨rfl, hbel⟩; refine ⟨_, rfl, ?_⟩; have KA : Aside0 (w0.heap[W.heap.size]? = some (.cells #[.bool false] 4 (0, 0)) ∧ Below W.heap.size W w0) := ⟨blk_below K0.out.1 hbel, below_then K0.out.2 K0.out.2.size hbel⟩; clear hbel)
      | ((with_reducible refine gate_callee (f := 16) rfl ?_); (try (refine gate_guard (by rfl) ?_; dsimp only)); refine goesL_ (some 33) rfl rfl Try.func16 (by kernel_rfl) rfl #[.int .i64 room] rfl (by (try simp only [List.map_toArray, List.map_cons, List.map_nil]); first | done | rfl) ?_; (with_reducible refine (new_bad room _ HR.out).mono ?_); rintro e w1 ⟨rfl, hbel⟩; refine ⟨_, rfl, ?_⟩; have K1 : Aside0 (w1.heap[W.heap.size]? = some (.cells #[.bool false] 4 (0, 0)) ∧ Below W.heap.size W w1) := ⟨blk_below KA.out.1 hbel, below_then KA.out.2 KA.out.2.size hbel⟩; clear hbel; have c1 := (blk_cell K1.out.1 0).trans rfl; have z1 := blk_frozen K1.out.1 0))
    refine bodyPost_ret (results_bool rfl rfl ((blk_cell (blk_set K1.out.1 0 (.bool true)) 0).trans rfl)) rfl ?_
    exact ⟨rfl, K1.out.2.setCell (p := ⟨W.heap.size, 0, none⟩) (Nat.le_refl _) _⟩
end Go.Proofs.Ytmcaoecmjibegaa.PIx
