/- Both indexes of a room: made; IndexHomes. -/
import Derived.Test.YtmcaoecmjibegaaIxB
import Derived.RegionTactic
import Derived.ChangeAlike
import Derived.Deep.QuietTactic
import Derived.BigQuiet
namespace Go.Proofs.Ytmcaoecmjibegaa.PIx
open Go.RowKit Go.Proofs.YtmcaoecmjibegaaW.PrintWords Go.Proofs.YtmcaoecmjibegaaW.PrintLast Go.Proofs.YtmcaoecmjibegaaW.PrintMore
set_option linter.unusedVariables false
set_option linter.unusedSimpArgs false

set_option maxHeartbeats 8000000 in
set_option maxRecDepth 100000 in
theorem made_bad (room : Int) (W : World) (h : room < 1 ∨ 65536 < room) :
    Calls Try.prog 10 #[.int .i64 room] W fun e W' => e = .returned (.tuple #[.agg #[.pointer none, .pointer none], .bool true]) ∧ Below W.heap.size W W' := by
  have HH := Aside0.mk h
  clear h
  go_enter Try.func10, Try.ntmps10
  go_wp2_with (first | ((with_reducible refine gate_callee (f := 16) rfl ?_); refine goesL_ (some 10) rfl rfl Try.func16 (by kernel_rfl) rfl #[.int .i64 room] rfl (by (try simp only [List.map_toArray, List.map_cons, List.map_nil]); first | done | rfl) ?_; (with_reducible refine (new_bad room _ HH.out).mono ?_); rintro e w4 ⟨rfl, hb⟩; refine ⟨_, rfl, ?_⟩; have G4 := Aside0.mk ((hb.block W.heap.size (by simp)).trans (heap_alloc_new W _)); have B1 := Aside0.mk hb; clear hb) | ((with_reducible refine gate_callee (f := 25) rfl ?_); refine goesL_ (some 15) rfl rfl Try.func25 (by kernel_rfl) rfl #[.int .i64 room] rfl (by (try simp only [List.map_toArray, List.map_cons, List.map_nil]); first | done | rfl) ?_; (with_reducible refine (rnew_bad room _ HH.out).mono ?_); rintro e w5 ⟨rfl, hb⟩; refine ⟨_, rfl, ?_⟩; have G5 := Aside0.mk ((hb.block W.heap.size (blk_lt G4.out)).trans G4.out); have hc0 : w5.cell? ⟨W.heap.size, 0, none⟩ = some (.pointer none) := (blk_cell G5.out 0).trans rfl; have hc1 : w5.cell? ⟨W.heap.size, 1, none⟩ = some (.pointer none) := (blk_cell G5.out 1).trans rfl; have hf0 := blk_frozen G5.out 0; have hf1 := blk_frozen G5.out 1; have B2 := Aside0.mk hb; clear hb))
  have hg : ((w5.setCell ⟨W.heap.size, 0, none⟩ (.pointer none)).setCell ⟨W.heap.size, 1, none⟩ (.pointer none)).heap[W.heap.size]? = some (.cells #[.pointer none, .pointer none] 26 (0, 0)) := blk_put (blk_put G5.out 0 (.pointer none) rfl) 1 (.pointer none) rfl
  refine bodyPost_ret (results_list (rs := [.cell 2 26, .tmp 3]) rfl (by simp) (.cell W.heap.size 26 #[.pointer none, .pointer none] (0, 0) _ rfl hg Try.underlying26 rfl (by kernel_rfl) (.tmp .nil))) rfl ?_
  have b0 : Below W.heap.size W (W.alloc (.cells #[.pointer none, .pointer none] 26)) := below_alloc (Below.refl _ _) _
  have b1 := below_then b0 b0.size B1.out
  have b2 := below_then b1 b1.size B2.out
  exact ⟨rfl, below_set (below_set b2 (Nat.le_refl _)) (Nat.le_refl _)⟩

set_option maxHeartbeats 8000000 in
set_option maxRecDepth 100000 in
theorem made_good (room : Int) (W : World) (h1 : 1 ≤ room) (h2 : room ≤ 65536) :
    Calls Try.prog 10 #[.int .i64 room] W fun e W' => ∃ g b h c bits, e = .returned (.tuple #[.agg #[.pointer (some ⟨g, 0, none⟩), .pointer (some ⟨h, 0, none⟩)], .bool true]) ∧
      W.heap.size ≤ g ∧ W.heap.size ≤ b ∧ W.heap.size ≤ h ∧ W.heap.size ≤ c ∧ (h ≠ g ∧ h ≠ b ∧ c ≠ g ∧ c ≠ b) ∧ Least room bits ∧
      Ix W' g b room 0 bits (List.replicate (2 ^ bits) z72) ∧ Rx W' h c room 0 (List.replicate (2 ^ bits) z79) ∧ Below W.heap.size W W' := by
  go_enter Try.func10, Try.ntmps10
  go_wp2_with (first | ((with_reducible refine gate_callee (f := 16) rfl ?_); refine goesL_ (some 10) rfl rfl Try.func16 (by kernel_rfl) rfl #[.int .i64 room] rfl (by (try simp only [List.map_toArray, List.map_cons, List.map_nil]); first | done | rfl) ?_; (with_reducible refine (new_good room _ h1 h2).mono ?_); rintro e w4 ⟨g, b, bits, rfl, hg, hb_, hl, hx, hb⟩; refine ⟨_, rfl, ?_⟩; have G4 := Aside0.mk ((hb.block W.heap.size (by simp)).trans (heap_alloc_new W _)); have B1 := Aside0.mk hb; have X1 := Aside0.mk (And.intro hg (And.intro hb_ (And.intro hl hx))); clear hb hg hb_ hl hx) | ((with_reducible refine gate_callee (f := 25) rfl ?_); refine goesL_ (some 15) rfl rfl Try.func25 (by kernel_rfl) rfl #[.int .i64 room] rfl (by (try simp only [List.map_toArray, List.map_cons, List.map_nil]); first | done | rfl) ?_; (with_reducible refine (rnew_good room _ h1 h2).mono ?_); rintro e w5 ⟨h, c, bits2, rfl, hg, hb_, hl, hx, hb⟩; refine ⟨_, rfl, ?_⟩; have G5 := Aside0.mk ((hb.block W.heap.size (blk_lt G4.out)).trans G4.out); have hc0 : w5.cell? ⟨W.heap.size, 0, none⟩ = some (.pointer none) := (blk_cell G5.out 0).trans rfl; have hc1 : w5.cell? ⟨W.heap.size, 1, none⟩ = some (.pointer none) := (blk_cell G5.out 1).trans rfl; have hf0 := blk_frozen G5.out 0; have hf1 := blk_frozen G5.out 1; have B2 := Aside0.mk hb; have X2 := Aside0.mk (And.intro hg (And.intro hb_ (And.intro hl hx))); clear hb hg hb_ hl hx))
  have hg : ((w5.setCell ⟨W.heap.size, 0, none⟩ (.pointer (some ⟨g, 0, none⟩))).setCell ⟨W.heap.size, 1, none⟩ (.pointer (some ⟨h, 0, none⟩))).heap[W.heap.size]? = some (.cells #[.pointer (some ⟨g, 0, none⟩), .pointer (some ⟨h, 0, none⟩)] 26 (0, 0)) := blk_put (blk_put G5.out 0 _ rfl) 1 _ rfl
  refine bodyPost_ret (results_list (rs := [.cell 2 26, .tmp 3]) rfl (by simp) (.cell W.heap.size 26 #[.pointer (some ⟨g, 0, none⟩), .pointer (some ⟨h, 0, none⟩)] (0, 0) _ rfl hg Try.underlying26 rfl (by kernel_rfl) (.tmp .nil))) rfl ?_
  have b0 : Below W.heap.size W (W.alloc (.cells #[.pointer none, .pointer none] 26)) := below_alloc (Below.refl _ _) _
  have b1 := below_then b0 b0.size B1.out
  have b2 := below_then b1 b1.size B2.out
  obtain ⟨x1, x2, x3, x4⟩ := X1.out
  obtain ⟨y1, y2, y3, y4⟩ := X2.out
  obtain rfl := x3.uniq y3
  have s0 : (W.alloc (.cells #[.pointer none, .pointer none] 26)).heap.size = W.heap.size + 1 := by simp
  rw [s0] at x1 x2
  have l1 := x4.lt
  have l2 := x4.ltb
  have keep : ∀ k, k ≠ W.heap.size → ((w5.setCell ⟨W.heap.size, 0, none⟩ (.pointer (some ⟨g, 0, none⟩))).setCell ⟨W.heap.size, 1, none⟩ (.pointer (some ⟨h, 0, none⟩))).heap[k]? = w5.heap[k]? := fun k hk =>
    (Below.heap_setCell _ _ _ k hk).trans (Below.heap_setCell _ _ _ k hk)
  refine ⟨g, b, h, c, bits, rfl, by omega, by omega, by have := b1.size; omega, by have := b1.size; omega, ⟨by omega, by omega, by omega, by omega⟩, x3, ?_, ?_, below_set (below_set b2 (Nat.le_refl _)) (Nat.le_refl _)⟩
  · exact (x4.below B2.out).keep (keep _ (by omega)) (keep _ (by omega))
  · exact y4.keep (keep _ (by omega)) (keep _ (by omega))

set_option maxHeartbeats 8000000 in
set_option maxRecDepth 100000 in
theorem homes_bad (room key : Int) (W : World) (h : room < 1 ∨ 65536 < room) :
    Calls Try.prog 3 #[.int .i64 room, .int .u64 key] W fun e W' => e = .returned (.bool true) ∧ Below W.heap.size W W' := by
  have HH := Aside0.mk h
  clear h
  go_enter Try.func3, Try.ntmps3
  go_wp2_with (first | ((with_reducible refine gate_callee (f := 10) rfl ?_); refine goesL_ (some 9) rfl rfl Try.func10 (by kernel_rfl) rfl #[.int .i64 room] rfl (by (try simp only [List.map_toArray, List.map_cons, List.map_nil]); first | done | rfl) ?_; (with_reducible refine (made_bad room _ HH.out).mono ?_); rintro e w4 ⟨rfl, hb⟩; refine ⟨_, rfl, ?_⟩; have B1 := Aside0.mk hb; clear hb))
  go_ret
  exact ⟨rfl, below_alloc B1.out _⟩

set_option maxHeartbeats 8000000 in
set_option maxRecDepth 100000 in
theorem homes_good (room key : Int) (W : World) (h1 : 1 ≤ room) (h2 : room ≤ 65536) :
    Calls Try.prog 3 #[.int .i64 room, .int .u64 key] W fun e W' => e = .returned (.bool true) ∧ Below W.heap.size W W' := by
  go_enter Try.func3, Try.ntmps3
  go_wp2_with (first | ((with_reducible refine gate_callee (f := 10) rfl ?_); refine goesL_ (some 9) rfl rfl Try.func10 (by kernel_rfl) rfl #[.int .i64 room] rfl (by (try simp only [List.map_toArray, List.map_cons, List.map_nil]); first | done | rfl) ?_; (with_reducible refine (made_good room _ h1 h2).mono ?_); rintro e w4 ⟨g, b, h, c, bits, rfl, hg, hb_, hh, hc, _, hl, hx, hy, hb⟩; refine ⟨_, rfl, ?_⟩; have B1 := Aside0.mk hb; have X1 := Aside0.mk hx; have X2 := Aside0.mk hy; have XL := Aside0.mk hl; clear hb hg hb_ hh hc hl hx hy))
  have h17 := XL.out.2.1
  have Y1 : ∀ o, Ix (w4.alloc o) g b room 0 bits (List.replicate (2 ^ bits) z72) := fun o => X1.out.below (below_alloc (Below.refl _ _) o)
  have Y2 : ∀ o, Rx (w4.alloc o) h c room 0 (List.replicate (2 ^ bits) z79) := fun o => X2.out.below (below_alloc (Below.refl _ _) o)
  have Z1 := Aside0.mk Y1
  have Z2 := Aside0.mk Y2
  clear Y1 Y2
  go_quiet (first | (go_at_call 11; exact Calls.quiet_of_same (home_calls key (Z1.out _) h17)) | (go_at_call 12; exact Calls.quiet_of_same (rhome_calls key (Z2.out _) (List.length_replicate ..) h17)))
  go_wp2
  go_ret
  exact ⟨rfl, pw_below_drewN (below_alloc B1.out _) _⟩

theorem homes_calls (room key : Int) (W : World) :
    Calls Try.prog 3 #[.int .i64 room, .int .u64 key] W fun e W' => e = .returned (.bool true) ∧ Below W.heap.size W W' := by
  by_cases h : room < 1 ∨ 65536 < room
  · exact homes_bad room key W h
  · exact homes_good room key W (by omega) (by omega)
end Go.Proofs.Ytmcaoecmjibegaa.PIx
