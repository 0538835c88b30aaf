/- IndexAll. -/
import Derived.Test.YtmcaoecmjibegaaIzJ
import Derived.BigRegion
import Derived.IntWalk
namespace Go.Proofs.Ytmcaoecmjibegaa.PIx
open Go.RowKit Go.Proofs.YtmcaoecmjibegaaW.PrintWords Go.Proofs.YtmcaoecmjibegaaW.PrintLast Go.Proofs.YtmcaoecmjibegaaW.PrintMore
set_option linter.unusedVariables false
set_option linter.unusedSimpArgs false

theorem made_pr (room : Int) (W : World) (h1 : 1 ≤ room) (h2 : room ≤ 65536) :
    Calls Try.prog 10 #[.int .i64 room] W fun e W' => ∃ g b h c bits, e = .returned (.tuple #[.agg #[.pointer (some ⟨g, 0, none⟩), .pointer (some ⟨h, 0, none⟩)], .bool true]) ∧
      (W.heap.size ≤ g ∧ W.heap.size ≤ b ∧ W.heap.size ≤ h ∧ W.heap.size ≤ c) ∧ Pr W' g b h c room 0 bits (List.replicate (2 ^ bits) z72) ∧ Below W.heap.size W W' := by
  refine (made_good room W h1 h2).mono ?_
  rintro e W' ⟨g, b, h, c, bits, rfl, l1, l2, l3, l4, ⟨n1, n2, n3, n4⟩, hl, hi, hr, hb⟩
  refine ⟨g, b, h, c, bits, rfl, ⟨l1, l2, l3, l4⟩, ⟨⟨hi, fit_zero room bits h1 hl, h2⟩, ?_, n1, n2, n3, n4⟩, hb⟩
  unfold Rt
  rw [List.map_replicate, rf_zero]
  exact hr

set_option maxHeartbeats 16000000 in
set_option maxRecDepth 100000 in
theorem indexAll_bb (room second : Int) (A : Option Addr) (n cap : Nat) (W : World) (h1 : room < 1 ∨ 65536 < room) (h2 : second < 1 ∨ 65536 < second) :
    Calls Try.prog 8 #[.int .i64 room, .int .i64 second, .slice A n cap] W fun e W' => e = .returned (.bool true) ∧ Below W.heap.size W W' := by
  have HX : Aside0 (∀ w, Calls Try.prog 10 #[.int .i64 room] w fun e W' => e = .returned (.tuple #[.agg #[.pointer none, .pointer none], .bool true]) ∧ Below w.heap.size w W') := ⟨fun w => made_bad room w h1⟩
  have HY : Aside0 (∀ w, Calls Try.prog 10 #[.int .i64 second] w fun e W' => e = .returned (.tuple #[.agg #[.pointer none, .pointer none], .bool true]) ∧ Below w.heap.size w W') := ⟨fun w => made_bad second w h2⟩
  clear h1 h2
  go_enter Try.func8, Try.ntmps8
  go_wp2_with (first
    | ((with_reducible refine gate_callee (f := 10) rfl ?_); (try (refine gate_guard (by rfl) ?_; dsimp only)); refine goesL_ (some 15) rfl rfl Try.func10 (by kernel_rfl) rfl #[.int .i64 room] rfl (by (try simp only [List.map_toArray, List.map_cons, List.map_nil]); first | done | rfl) ?_; (with_reducible refine (HX.out _).mono ?_); rintro e w1 ⟨rfl, hb1⟩; refine ⟨_, rfl, ?_⟩; have HB1 := Aside0.mk hb1; have hl1 := hb1.size; clear hb1)
    | ((with_reducible refine gate_callee (f := 10) rfl ?_); (try (refine gate_guard (by rfl) ?_; dsimp only)); refine goesL_ (some 20) rfl rfl Try.func10 (by kernel_rfl) rfl #[.int .i64 second] rfl (by (try simp only [List.map_toArray, List.map_cons, List.map_nil]); first | done | rfl) ?_; (with_reducible refine (HY.out _).mono ?_); rintro e w2 ⟨rfl, hb2⟩; refine ⟨_, rfl, ?_⟩; have HB2 := Aside0.mk hb2; have HV := Aside0.mk (blk_below (heap_alloc_new w1 _) hb2); have dx : w2.cell? ⟨w1.heap.size, 0, none⟩ = some (.pointer none) := (blk_cell HV.out 0).trans rfl; have hlx : w1.heap.size < w2.heap.size := blk_lt HV.out; clear hb2))
  go_ret
  exact ⟨rfl, (below_then (HB1.out.alloc HB1.out.size _) (HB1.out.alloc HB1.out.size _).size HB2.out).alloc (below_then (HB1.out.alloc HB1.out.size _) (HB1.out.alloc HB1.out.size _).size HB2.out).size _⟩

set_option maxHeartbeats 16000000 in
set_option maxRecDepth 100000 in
theorem indexAll_bg (room second : Int) (A : Option Addr) (n cap : Nat) (W : World) (h1 : room < 1 ∨ 65536 < room) (h2 : 1 ≤ second) (h2' : second ≤ 65536) :
    Calls Try.prog 8 #[.int .i64 room, .int .i64 second, .slice A n cap] W fun e W' => e = .returned (.bool true) ∧ Below W.heap.size W W' := by
  have HX : Aside0 (∀ w, Calls Try.prog 10 #[.int .i64 room] w fun e W' => e = .returned (.tuple #[.agg #[.pointer none, .pointer none], .bool true]) ∧ Below w.heap.size w W') := ⟨fun w => made_bad room w h1⟩
  have HY : Aside0 (∀ w, Calls Try.prog 10 #[.int .i64 second] w fun e W' => (∃ g1 h1, e = .returned (.tuple #[.agg #[.pointer (some ⟨g1, 0, none⟩), .pointer (some ⟨h1, 0, none⟩)], .bool true])) ∧ Below w.heap.size w W') := ⟨fun w => (made_pr second w h2 h2').mono (fun e W' ⟨g, b, h, c, bits, he, _, _, hb⟩ => ⟨⟨g, h, he⟩, hb⟩)⟩
  clear h1 h2 h2'
  go_enter Try.func8, Try.ntmps8
  go_wp2_with (first
    | ((with_reducible refine gate_callee (f := 10) rfl ?_); (try (refine gate_guard (by rfl) ?_; dsimp only)); refine goesL_ (some 15) rfl rfl Try.func10 (by kernel_rfl) rfl #[.int .i64 room] rfl (by (try simp only [List.map_toArray, List.map_cons, List.map_nil]); first | done | rfl) ?_; (with_reducible refine (HX.out _).mono ?_); rintro e w1 ⟨rfl, hb1⟩; refine ⟨_, rfl, ?_⟩; have HB1 := Aside0.mk hb1; have hl1 := hb1.size; clear hb1)
    | ((with_reducible refine gate_callee (f := 10) rfl ?_); (try (refine gate_guard (by rfl) ?_; dsimp only)); refine goesL_ (some 20) rfl rfl Try.func10 (by kernel_rfl) rfl #[.int .i64 second] rfl (by (try simp only [List.map_toArray, List.map_cons, List.map_nil]); first | done | rfl) ?_; (with_reducible refine (HY.out _).mono ?_); rintro e w2 ⟨⟨g2, h2, rfl⟩, hb2⟩; refine ⟨_, rfl, ?_⟩; have HB2 := Aside0.mk hb2; have HV := Aside0.mk (blk_below (heap_alloc_new w1 _) hb2); have dx : w2.cell? ⟨w1.heap.size, 0, none⟩ = some (.pointer none) := (blk_cell HV.out 0).trans rfl; have hlx : w1.heap.size < w2.heap.size := blk_lt HV.out; clear hb2))
  go_ret
  exact ⟨rfl, (below_then (HB1.out.alloc HB1.out.size _) (HB1.out.alloc HB1.out.size _).size HB2.out).alloc (below_then (HB1.out.alloc HB1.out.size _) (HB1.out.alloc HB1.out.size _).size HB2.out).size _⟩

set_option maxHeartbeats 16000000 in
set_option maxRecDepth 100000 in
theorem indexAll_gb (room second : Int) (A : Option Addr) (n cap : Nat) (W : World) (h1 : 1 ≤ room) (h1' : room ≤ 65536) (h2 : second < 1 ∨ 65536 < second) :
    Calls Try.prog 8 #[.int .i64 room, .int .i64 second, .slice A n cap] W fun e W' => e = .returned (.bool true) ∧ Below W.heap.size W W' := by
  have HX : Aside0 (∀ w, Calls Try.prog 10 #[.int .i64 room] w fun e W' => (∃ g1 h1, e = .returned (.tuple #[.agg #[.pointer (some ⟨g1, 0, none⟩), .pointer (some ⟨h1, 0, none⟩)], .bool true])) ∧ Below w.heap.size w W') := ⟨fun w => (made_pr room w h1 h1').mono (fun e W' ⟨g, b, h, c, bits, he, _, _, hb⟩ => ⟨⟨g, h, he⟩, hb⟩)⟩
  have HY : Aside0 (∀ w, Calls Try.prog 10 #[.int .i64 second] w fun e W' => e = .returned (.tuple #[.agg #[.pointer none, .pointer none], .bool true]) ∧ Below w.heap.size w W') := ⟨fun w => made_bad second w h2⟩
  clear h1 h2 h1'
  go_enter Try.func8, Try.ntmps8
  go_wp2_with (first
    | ((with_reducible refine gate_callee (f := 10) rfl ?_); (try (refine gate_guard (by rfl) ?_; dsimp only)); refine goesL_ (some 15) rfl rfl Try.func10 (by kernel_rfl) rfl #[.int .i64 room] rfl (by (try simp only [List.map_toArray, List.map_cons, List.map_nil]); first | done | rfl) ?_; (with_reducible refine (HX.out _).mono ?_); rintro e w1 ⟨⟨g1, h1, rfl⟩, hb1⟩; refine ⟨_, rfl, ?_⟩; have HB1 := Aside0.mk hb1; have hl1 := hb1.size; clear hb1)
    | ((with_reducible refine gate_callee (f := 10) rfl ?_); (try (refine gate_guard (by rfl) ?_; dsimp only)); refine goesL_ (some 20) rfl rfl Try.func10 (by kernel_rfl) rfl #[.int .i64 second] rfl (by (try simp only [List.map_toArray, List.map_cons, List.map_nil]); first | done | rfl) ?_; (with_reducible refine (HY.out _).mono ?_); rintro e w2 ⟨rfl, hb2⟩; refine ⟨_, rfl, ?_⟩; have HB2 := Aside0.mk hb2; have HV := Aside0.mk (blk_below (heap_alloc_new w1 _) hb2); have dx : w2.cell? ⟨w1.heap.size, 0, none⟩ = some (.pointer (some ⟨g1, 0, none⟩)) := (blk_cell HV.out 0).trans rfl; have hlx : w1.heap.size < w2.heap.size := blk_lt HV.out; clear hb2))
  go_ret
  exact ⟨rfl, (below_then (HB1.out.alloc HB1.out.size _) (HB1.out.alloc HB1.out.size _).size HB2.out).alloc (below_then (HB1.out.alloc HB1.out.size _) (HB1.out.alloc HB1.out.size _).size HB2.out).size _⟩

set_option maxHeartbeats 16000000 in
set_option maxRecDepth 100000 in
theorem indexAll_good (room second : Int) (A : Option Addr) (n cap : Nat) (f : Nat → Int × Bool × Int × Int × Int) (W : World) (hr1 : 1 ≤ room) (hr1' : room ≤ 65536) (hr2 : 1 ≤ second) (hr2' : second ≤ 65536) (hop : Opp W A n f) (hn : n ≤ 9223372036854775807) :
    Calls Try.prog 8 #[.int .i64 room, .int .i64 second, .slice A n cap] W fun e W' => e = .returned (.bool true) ∧ Below W.heap.size W W' := by
  have HX : Aside0 (∀ w, Calls Try.prog 10 #[.int .i64 room] w fun e W' => ∃ g b h c bits, e = .returned (.tuple #[.agg #[.pointer (some ⟨g, 0, none⟩), .pointer (some ⟨h, 0, none⟩)], .bool true]) ∧ (w.heap.size ≤ g ∧ w.heap.size ≤ b ∧ w.heap.size ≤ h ∧ w.heap.size ≤ c) ∧ Pr W' g b h c room 0 bits (List.replicate (2 ^ bits) z72) ∧ Below w.heap.size w W') := ⟨fun w => made_pr room w hr1 hr1'⟩
  have HY : Aside0 (∀ w, Calls Try.prog 10 #[.int .i64 second] w fun e W' => ∃ g b h c bits, e = .returned (.tuple #[.agg #[.pointer (some ⟨g, 0, none⟩), .pointer (some ⟨h, 0, none⟩)], .bool true]) ∧ (w.heap.size ≤ g ∧ w.heap.size ≤ b ∧ w.heap.size ≤ h ∧ w.heap.size ≤ c) ∧ Pr W' g b h c second 0 bits (List.replicate (2 ^ bits) z72) ∧ Below w.heap.size w W') := ⟨fun w => made_pr second w hr2 hr2'⟩
  have HOP := Aside0.mk hop
  clear hr1 hr1' hr2 hr2' hop
  go_enter Try.func8, Try.ntmps8
  go_wp2_with (first
    | ((with_reducible refine gate_callee (f := 10) rfl ?_); (try (refine gate_guard (by rfl) ?_; dsimp only)); refine goesL_ (some 15) rfl rfl Try.func10 (by kernel_rfl) rfl #[.int .i64 room] rfl (by (try simp only [List.map_toArray, List.map_cons, List.map_nil]); first | done | rfl) ?_; (with_reducible refine (HX.out _).mono ?_); rintro e w1 ⟨g1, b1, h1, c1, bits1, rfl, lo1, p1, hb1⟩; refine ⟨_, rfl, ?_⟩; have LO1 := Aside0.mk lo1; have PR1 := Aside0.mk p1; have HB1 := Aside0.mk hb1; clear lo1 p1 hb1)
    | ((with_reducible refine gate_callee (f := 10) rfl ?_); (try (refine gate_guard (by rfl) ?_; dsimp only)); refine goesL_ (some 20) rfl rfl Try.func10 (by kernel_rfl) rfl #[.int .i64 second] rfl (by (try simp only [List.map_toArray, List.map_cons, List.map_nil]); first | done | rfl) ?_; (with_reducible refine (HY.out _).mono ?_); rintro e w2 ⟨g2, b2, h2, c2, bits2, rfl, lo2, p2, hb2⟩; refine ⟨_, rfl, ?_⟩; have LO2 := Aside0.mk lo2; have PR2 := Aside0.mk p2; have HB2 := Aside0.mk hb2; have HV := Aside0.mk (blk_below (heap_alloc_new w1 _) hb2); have dx : w2.cell? ⟨w1.heap.size, 0, none⟩ = some (.pointer (some ⟨g1, 0, none⟩)) := (blk_cell HV.out 0).trans rfl; have hlx : w1.heap.size < w2.heap.size := blk_lt HV.out; clear lo2 p2 hb2))
  have HT : Aside0 (∃ b1 c1 k1 pl1 b2 c2 k2 pl2, Two W w1.heap.size w2.heap.size g1 b1 h1 c1 g2 b2 h2 c2 room k1 bits1 pl1 second k2 bits2 pl2 (w2.alloc (.cells #[.pointer (some ⟨g2, 0, none⟩), .pointer (some ⟨h2, 0, none⟩)] 26))) := ⟨b1, c1, _, _, b2, c2, _, _, by
    obtain ⟨l1, l2, l3, l4⟩ := LO1.out
    obtain ⟨m1, m2, m3, m4⟩ := LO2.out
    rw [World.size_alloc] at m1 m2 m3 m4
    obtain ⟨n1, n2, n3, n4⟩ := PR1.out.lt
    obtain ⟨o1, o2, o3, o4⟩ := PR2.out.lt
    have s1 := HB1.out.size
    have s2 := HB2.out.size
    rw [World.size_alloc] at s2
    have d1 : Below w1.heap.size w1 (w1.alloc (.cells #[.pointer (some ⟨g1, 0, none⟩), .pointer (some ⟨h1, 0, none⟩)] 26)) := (Below.refl _ w1).alloc (Nat.le_refl _) _
    have d2 : Below W.heap.size W (w1.alloc (.cells #[.pointer (some ⟨g1, 0, none⟩), .pointer (some ⟨h1, 0, none⟩)] 26)) := below_then HB1.out HB1.out.size d1
    have d3 : Below W.heap.size W w2 := below_then d2 d2.size HB2.out
    have d4 : Below w2.heap.size w2 (w2.alloc (.cells #[.pointer (some ⟨g2, 0, none⟩), .pointer (some ⟨h2, 0, none⟩)] 26)) := (Below.refl _ w2).alloc (Nat.le_refl _) _
    refine ⟨below_then d3 d3.size d4, blk_below HV.out d4, heap_alloc_new w2 _, ((PR1.out.below d1).below HB2.out).below d4, PR2.out.below d4, s1, by omega, ?_, ?_⟩
    · rintro i ((rfl | rfl | rfl | rfl) | (rfl | rfl | rfl | rfl)) <;> omega
    · rintro i j (rfl | rfl | rfl | rfl) (rfl | rfl | rfl | rfl) <;> omega⟩
  clear dx
  go_loopg [11] n (fun kq v11 w' => ∃ i : Nat, v11 = .int .i64 (i : Int) ∧ i ≤ n ∧ Aside0 (kq + i = n) ∧ Aside0 (∃ b1 c1 k1 pl1 b2 c2 k2 pl2, Two W w1.heap.size w2.heap.size g1 b1 h1 c1 g2 b2 h2 c2 room k1 bits1 pl1 second k2 bits2 pl2 w'))
  case atStart => exact ⟨0, rfl, Nat.zero_le _, ⟨by omega⟩, HT⟩
  case round =>
    clear HT LO1 PR1 HB1 LO2 PR2 HB2 HV HX HY
    obtain ⟨i, rfl, hin, HK, HT⟩ := hrel
    obtain ⟨b1', c1', k1, pl1, b2', c2', k2, pl2, ht⟩ := HT.out
    have HTW := Aside0.mk ht
    have cX0 : wr.cell? ⟨w1.heap.size, 0, none⟩ = some (.pointer (some ⟨g1, 0, none⟩)) := (blk_cell ht.xbk 0).trans rfl
    have cX1 : wr.cell? ⟨w1.heap.size, 1, none⟩ = some (.pointer (some ⟨h1, 0, none⟩)) := (blk_cell ht.xbk 1).trans rfl
    have cY0 : wr.cell? ⟨w2.heap.size, 0, none⟩ = some (.pointer (some ⟨g2, 0, none⟩)) := (blk_cell ht.ybk 0).trans rfl
    have cY1 : wr.cell? ⟨w2.heap.size, 1, none⟩ = some (.pointer (some ⟨h2, 0, none⟩)) := (blk_cell ht.ybk 1).trans rfl
    have lX := blk_lt ht.xbk
    have lY := blk_lt ht.ybk
    have hWw := ht.bel.size
    clear ht HT
    by_cases hi : i < n
    · obtain ⟨kk, rfl⟩ : ∃ kk, gk = kk + 1 := ⟨gk - 1, by have := HK.out; omega⟩
      have HII := Aside0.mk hi
      obtain ⟨ab, ao, rfl, s0, s1, s2, s3, s4⟩ := (HOP.out.below HTW.out.bel) i hi
      have lS := cell_block s0
      dsimp only at lS
      have HAL : Aside0 (∀ Z : Array Value, Below wr.heap.size wr (wr.alloc (.cells Z 26)) ∧ (wr.alloc (.cells Z 26)).heap[wr.heap.size]? = some (.cells Z 26 (0, 0))) := ⟨fun Z => ⟨(Below.refl _ wr).alloc (Nat.le_refl _) _, heap_alloc_new wr _⟩⟩
      obtain ⟨o0, ho0⟩ : ∃ x, x = (f i).1 := ⟨_, rfl⟩
      obtain ⟨o1, ho1⟩ : ∃ x, x = (f i).2.1 := ⟨_, rfl⟩
      obtain ⟨o2, ho2⟩ : ∃ x, x = (f i).2.2.1 := ⟨_, rfl⟩
      obtain ⟨o3, ho3⟩ : ∃ x, x = (f i).2.2.2.1 := ⟨_, rfl⟩
      obtain ⟨o4, ho4⟩ : ∃ x, x = (f i).2.2.2.2 := ⟨_, rfl⟩
      rw [← ho0] at s0
      rw [← ho1] at s1
      rw [← ho2] at s2
      rw [← ho3] at s3
      rw [← ho4] at s4
      clear ho0 ho1 ho2 ho3 ho4
      cases o1 with
      | false =>
        have X23 : Aside0 (∀ w', Two W w1.heap.size w2.heap.size g1 b1' h1 c1' g2 b2' h2 c2' room k1 bits1 pl1 second k2 bits2 pl2 w' → Calls Try.prog 23 #[.agg #[.pointer (some ⟨g1, 0, none⟩), .pointer (some ⟨h1, 0, none⟩)], .agg #[.int .i64 o0, .bool false, .int .u64 o2, .int .i64 o3, .int .i64 o4]] w' fun e w4 => e = .returned (.bool true) ∧ (∃ b1 c1 k1 pl1 b2 c2 k2 pl2, Two W w1.heap.size w2.heap.size g1 b1 h1 c1 g2 b2 h2 c2 room k1 bits1 pl1 second k2 bits2 pl2 w4)) := ⟨fun w' h => (step_calls o0 false o2 o3 o4 h.p).mono (fun e w4 hs => by
          obtain ⟨x1, x2, x3, x4, x5⟩ := h.stepx hs.2
          exact ⟨hs.1, x1, x2, x3, x4, _, _, _, _, x5⟩)⟩
        have HTD : Aside0 (Two W w1.heap.size w2.heap.size g1 b1' h1 c1' g2 b2' h2 c2' room k1 bits1 pl1 second k2 bits2 pl2 (wr.alloc (.cells #[.pointer (some ⟨g1, 0, none⟩), .pointer (some ⟨h1, 0, none⟩)] 26)).drew) := ⟨(HTW.out.below (HAL.out _).1).drewN 1⟩
        go_wp2_with (fail)
        go_region_with (first | (go_at_call 23; refine (X23.out _ HTD.out).mono ?_; rintro e w4 ⟨rfl, h4⟩; have HT4 := Aside0.mk h4; clear h4))
        all_goals go_wp2_with (fail)
        all_goals go_roundg kk
        all_goals first
          | exact ⟨i + 1, rfl, by omega, ⟨by have := HK.out; omega⟩, HT4⟩
          | omega
      | true =>
        have X23 : Aside0 (∀ w', Two W w1.heap.size w2.heap.size g1 b1' h1 c1' g2 b2' h2 c2' room k1 bits1 pl1 second k2 bits2 pl2 w' → Calls Try.prog 23 #[.agg #[.pointer (some ⟨g2, 0, none⟩), .pointer (some ⟨h2, 0, none⟩)], .agg #[.int .i64 o0, .bool true, .int .u64 o2, .int .i64 o3, .int .i64 o4]] w' fun e w4 => e = .returned (.bool true) ∧ (∃ b1 c1 k1 pl1 b2 c2 k2 pl2, Two W w1.heap.size w2.heap.size g1 b1 h1 c1 g2 b2 h2 c2 room k1 bits1 pl1 second k2 bits2 pl2 w4)) := ⟨fun w' h => (step_calls o0 true o2 o3 o4 h.q).mono (fun e w4 hs => by
          obtain ⟨x1, x2, x3, x4, x5⟩ := h.stepy hs.2
          exact ⟨hs.1, _, _, _, _, x1, x2, x3, x4, x5⟩)⟩
        have HTD : Aside0 (Two W w1.heap.size w2.heap.size g1 b1' h1 c1' g2 b2' h2 c2' room k1 bits1 pl1 second k2 bits2 pl2 (wr.alloc (.cells #[.pointer (some ⟨g2, 0, none⟩), .pointer (some ⟨h2, 0, none⟩)] 26)).drew) := ⟨(HTW.out.below (HAL.out _).1).drewN 1⟩
        go_wp2_with (fail)
        go_region_with (first | (go_at_call 23; refine (X23.out _ HTD.out).mono ?_; rintro e w4 ⟨rfl, h4⟩; have HT4 := Aside0.mk h4; clear h4))
        all_goals go_wp2_with (fail)
        all_goals go_roundg kk
        all_goals first
          | exact ⟨i + 1, rfl, by omega, ⟨by have := HK.out; omega⟩, HT4⟩
          | omega
    · obtain rfl : i = n := by omega
      have PX : Aside0 (∀ w', Two W w1.heap.size w2.heap.size g1 b1' h1 c1' g2 b2' h2 c2' room k1 bits1 pl1 second k2 bits2 pl2 w' → Calls Try.prog 24 #[.agg #[.pointer (some ⟨g1, 0, none⟩), .pointer (some ⟨h1, 0, none⟩)]] w' fun e w4 => e = .returned (.bool true) ∧ Two W w1.heap.size w2.heap.size g1 b1' h1 c1' g2 b2' h2 c2' room k1 bits1 pl1 second k2 bits2 pl2 w4) := ⟨fun w' h => (placed_calls h.p.x.1 h.p.x.2.1 h.p.y).mono (fun e w4 hs => ⟨hs.1, h.below hs.2⟩)⟩
      have PY : Aside0 (∀ w', Two W w1.heap.size w2.heap.size g1 b1' h1 c1' g2 b2' h2 c2' room k1 bits1 pl1 second k2 bits2 pl2 w' → Calls Try.prog 24 #[.agg #[.pointer (some ⟨g2, 0, none⟩), .pointer (some ⟨h2, 0, none⟩)]] w' fun e w4 => e = .returned (.bool true) ∧ Two W w1.heap.size w2.heap.size g1 b1' h1 c1' g2 b2' h2 c2' room k1 bits1 pl1 second k2 bits2 pl2 w4) := ⟨fun w' h => (placed_calls h.q.x.1 h.q.x.2.1 h.q.y).mono (fun e w4 hs => ⟨hs.1, h.below hs.2⟩)⟩
      have SX : Aside0 (∀ w', Two W w1.heap.size w2.heap.size g1 b1' h1 c1' g2 b2' h2 c2' room k1 bits1 pl1 second k2 bits2 pl2 w' → Calls Try.prog 23 #[.agg #[.pointer (some ⟨g1, 0, none⟩), .pointer (some ⟨h1, 0, none⟩)], .agg #[.int .i64 3, .bool false, .int .u64 0, .int .i64 0, .int .i64 0]] w' fun e w4 => e = .returned (.bool true) ∧ (∃ b1 c1 k1 pl1 b2 c2 k2 pl2, Two W w1.heap.size w2.heap.size g1 b1 h1 c1 g2 b2 h2 c2 room k1 bits1 pl1 second k2 bits2 pl2 w4)) := ⟨fun w' h => (step_calls 3 false 0 0 0 h.p).mono (fun e w4 hs => by
          obtain ⟨x1, x2, x3, x4, x5⟩ := h.stepx hs.2
          exact ⟨hs.1, x1, x2, x3, x4, _, _, _, _, x5⟩)⟩
      have SY : Aside0 (∀ w', (∃ b1 c1 k1 pl1 b2 c2 k2 pl2, Two W w1.heap.size w2.heap.size g1 b1 h1 c1 g2 b2 h2 c2 room k1 bits1 pl1 second k2 bits2 pl2 w') → Calls Try.prog 23 #[.agg #[.pointer (some ⟨g2, 0, none⟩), .pointer (some ⟨h2, 0, none⟩)], .agg #[.int .i64 3, .bool false, .int .u64 0, .int .i64 0, .int .i64 0]] w' fun e w4 => e = .returned (.bool true) ∧ (∃ b1 c1 k1 pl1 b2 c2 k2 pl2, Two W w1.heap.size w2.heap.size g1 b1 h1 c1 g2 b2 h2 c2 room k1 bits1 pl1 second k2 bits2 pl2 w4)) := ⟨fun w' ⟨y1, y2, y3, y4, y5, y6, y7, y8, h⟩ => (step_calls 3 false 0 0 0 h.q).mono (fun e w4 hs => by
          obtain ⟨x1, x2, x3, x4, x5⟩ := h.stepy hs.2
          exact ⟨hs.1, _, _, _, _, x1, x2, x3, x4, x5⟩)⟩
      go_wp2_with (first
        | (go_at_call_of 24 (Value.agg #[.pointer (some ⟨g1, 0, none⟩), .pointer (some ⟨h1, 0, none⟩)]); refine (PX.out _ HTW.out).mono ?_; rintro e w4 ⟨rfl, t4⟩; have T4 := Aside0.mk t4; have dY0 : w4.cell? ⟨w2.heap.size, 0, none⟩ = some (.pointer (some ⟨g2, 0, none⟩)) := (blk_cell t4.ybk 0).trans rfl; have dY1 : w4.cell? ⟨w2.heap.size, 1, none⟩ = some (.pointer (some ⟨h2, 0, none⟩)) := (blk_cell t4.ybk 1).trans rfl; clear t4)
        | (go_at_call_of 24 (Value.agg #[.pointer (some ⟨g2, 0, none⟩), .pointer (some ⟨h2, 0, none⟩)]); refine (PY.out _ T4.out).mono ?_; rintro e w5 ⟨rfl, t5⟩; have T5 := Aside0.mk t5; have eX0 : w5.cell? ⟨w1.heap.size, 0, none⟩ = some (.pointer (some ⟨g1, 0, none⟩)) := (blk_cell t5.xbk 0).trans rfl; have eX1 : w5.cell? ⟨w1.heap.size, 1, none⟩ = some (.pointer (some ⟨h1, 0, none⟩)) := (blk_cell t5.xbk 1).trans rfl; clear t5)
        | (go_at_call_of 23 (Value.agg #[.pointer (some ⟨g1, 0, none⟩), .pointer (some ⟨h1, 0, none⟩)]); refine (SX.out _ T5.out).mono ?_; rintro e w6 ⟨rfl, t6⟩; have T6 := Aside0.mk t6; (obtain ⟨_, _, _, _, _, _, _, _, t6'⟩ := t6); have fY0 : w6.cell? ⟨w2.heap.size, 0, none⟩ = some (.pointer (some ⟨g2, 0, none⟩)) := (blk_cell t6'.ybk 0).trans rfl; have fY1 : w6.cell? ⟨w2.heap.size, 1, none⟩ = some (.pointer (some ⟨h2, 0, none⟩)) := (blk_cell t6'.ybk 1).trans rfl; clear t6')
        | (go_at_call_of 23 (Value.agg #[.pointer (some ⟨g2, 0, none⟩), .pointer (some ⟨h2, 0, none⟩)]); refine (SY.out _ T6.out).mono ?_; rintro e w7 ⟨rfl, t7⟩; have T7 := Aside0.mk t7; clear t7))
      go_ret
      obtain ⟨_, _, _, _, _, _, _, _, t7⟩ := T7.out
      exact ⟨rfl, t7.bel⟩

theorem indexAll_calls (room second : Int) (A : Option Addr) (n cap : Nat) (f : Nat → Int × Bool × Int × Int × Int) (W : World) (hop : Opp W A n f) (hn : n ≤ 9223372036854775807) :
    Calls Try.prog 8 #[.int .i64 room, .int .i64 second, .slice A n cap] W fun e W' => e = .returned (.bool true) ∧ Below W.heap.size W W' := by
  by_cases h1 : room < 1 ∨ 65536 < room
  · by_cases h2 : second < 1 ∨ 65536 < second
    · exact indexAll_bb room second A n cap W h1 h2
    · exact indexAll_bg room second A n cap W h1 (by omega) (by omega)
  · by_cases h2 : second < 1 ∨ 65536 < second
    · exact indexAll_gb room second A n cap W (by omega) (by omega) h2
    · exact indexAll_good room second A n cap f W (by omega) (by omega) (by omega) (by omega) hop hn
end Go.Proofs.Ytmcaoecmjibegaa.PIx
