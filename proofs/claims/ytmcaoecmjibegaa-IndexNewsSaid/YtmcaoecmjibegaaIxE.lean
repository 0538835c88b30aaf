/- IndexNews. -/
import Derived.Test.YtmcaoecmjibegaaIxD
import Derived.Deep.RegionHeld3
import Derived.Deep.DrawnRows
namespace Go.Proofs.Ytmcaoecmjibegaa.PIx
open Go.RowKit Go.Proofs.YtmcaoecmjibegaaW.PrintWords Go.Proofs.YtmcaoecmjibegaaW.PrintLast Go.Proofs.YtmcaoecmjibegaaW.PrintMore
set_option linter.unusedVariables false
set_option linter.unusedSimpArgs false
attribute [local go_sem ↓] Go.wp_at_zero Go.wp_at_succ

set_option maxHeartbeats 8000000 in
set_option maxRecDepth 100000 in
theorem news_bad (room : Int) (W : World) (h : room < 1 ∨ 65536 < room) :
    Calls Try.prog 4 #[.int .i64 room] W fun e W' => e = .returned (.bool true) ∧ Below W.heap.size W W' := by
  have HH := Aside0.mk h
  clear h
  go_enter Try.func4, Try.ntmps4
  go_wp2_with (first | ((with_reducible refine gate_callee (f := 10) rfl ?_); refine goesL_ (some 7) rfl rfl Try.func10 (by kernel_rfl) rfl #[.int .i64 room] rfl (by (try simp only [List.map_toArray, List.map_cons, List.map_nil]); first | done | rfl) ?_; (with_reducible refine (made_bad room _ HH.out).mono ?_); rintro e w4 ⟨rfl, hb⟩; refine ⟨_, rfl, ?_⟩; have B1 := Aside0.mk hb; clear hb))
  go_ret
  exact ⟨rfl, below_alloc B1.out _⟩

theorem slots_len {W : World} {g b : Nat} {room keys : Int} {bits : Nat} {pl : List S72} (N : Nat) (h : Ix W g b room keys bits pl) (hn : pl.length ≤ 131072) (hN : pl.length = N) :
    Calls Try.prog 15 #[.pointer (some ⟨g, 0, none⟩)] W fun e W' => ∃ A cc, e = .returned (.slice A N cc) ∧ Below W.heap.size W W' := by
  refine (slots_calls h hn).mono ?_
  rintro e W' ⟨v, rfl, hr, hb⟩
  obtain ⟨A, cc, rfl⟩ := Kd.R_slice hr
  exact ⟨A, cc, by rw [List.length_map, hN], hb⟩

/-- What the long test reads, in any of its worlds. -/
def NewsW (W0 : World) (g b h c : Nat) (room : Int) (bits : Nat) (w : World) : Prop :=
  Ix w g b room 0 bits (List.replicate (2 ^ bits) z72) ∧ Rx w h c room 0 (List.replicate (2 ^ bits) z79) ∧ Below W0.heap.size W0 w

theorem NewsW.below {W0 w w' : World} {g b h c : Nat} {room : Int} {bits : Nat} (x : Aside0 (NewsW W0 g b h c room bits w)) (k : Below w.heap.size w w') : Aside0 (NewsW W0 g b h c room bits w') :=
  ⟨x.out.1.below k, x.out.2.1.below k, below_then x.out.2.2 x.out.2.2.size k⟩
theorem NewsW.ix {W0 w : World} {g b h c : Nat} {room : Int} {bits : Nat} (x : Aside0 (NewsW W0 g b h c room bits w)) : Ix w g b room 0 bits (List.replicate (2 ^ bits) z72) := x.out.1
theorem NewsW.rx {W0 w : World} {g b h c : Nat} {room : Int} {bits : Nat} (x : Aside0 (NewsW W0 g b h c room bits w)) : Rx w h c room 0 (List.replicate (2 ^ bits) z79) := x.out.2.1
theorem NewsW.b {W0 w : World} {g b h c : Nat} {room : Int} {bits : Nat} (x : Aside0 (NewsW W0 g b h c room bits w)) : Below W0.heap.size W0 w := x.out.2.2
theorem NewsW.drew {W0 w : World} {g b h c : Nat} {room : Int} {bits : Nat} (x : Aside0 (NewsW W0 g b h c room bits w)) : Aside0 (NewsW W0 g b h c room bits w.drew) :=
  NewsW.below x (below_drew (Below.refl _ _))

set_option maxHeartbeats 8000000 in
set_option maxRecDepth 100000 in
theorem news_good (room : Int) (W : World) (h1 : 1 ≤ room) (h2 : room ≤ 65536) :
    Calls Try.prog 4 #[.int .i64 room] W fun e W' => e = .returned (.bool true) ∧ Below W.heap.size W W' := by
  go_enter Try.func4, Try.ntmps4
  go_wp2_with (first | ((with_reducible refine gate_callee (f := 10) rfl ?_); refine goesL_ (some 7) rfl rfl Try.func10 (by kernel_rfl) rfl #[.int .i64 room] rfl (by (try simp only [List.map_toArray, List.map_cons, List.map_nil]); first | done | rfl) ?_; (with_reducible refine (made_good room _ h1 h2).mono ?_); rintro e w4 ⟨g, b, h, c, bits, rfl, hg, hb_, hh, hc, _, hl, hx, hy, hb⟩; refine ⟨_, rfl, ?_⟩; have B1 := Aside0.mk hb; have X1 := Aside0.mk hx; have X2 := Aside0.mk hy; have XL := Aside0.mk hl; clear hb hg hb_ hh hc hl hx hy))
  have h17 := XL.out.2.1
  have hp : (List.replicate (2 ^ bits) z72).length ≤ 131072 := by
    rw [List.length_replicate]
    exact Nat.le_trans (Nat.pow_le_pow_right (by decide) h17) (by decide)
  have HP := Aside0.mk hp
  have HL := Aside0.mk h17
  clear hp h17
  have b5 : Below w4.heap.size w4 (w4.alloc (.cells #[.pointer (some ⟨g, 0, none⟩), .pointer (some ⟨h, 0, none⟩)] 26)) := below_alloc (Below.refl _ _) _
  have N0 : NewsW W g b h c room bits (w4.alloc (.cells #[.pointer (some ⟨g, 0, none⟩), .pointer (some ⟨h, 0, none⟩)] 26)) := ⟨X1.out.below b5, X2.out.below b5, below_then B1.out B1.out.size b5⟩
  have T0 := heap_alloc_new w4 (.cells #[.pointer (some ⟨g, 0, none⟩), .pointer (some ⟨h, 0, none⟩)] 26)
  obtain ⟨cc, hh, _⟩ := N0.2.1
  have hx2 := (blk_cell hh 2)
  clear b5 hh
  rw [List.length_replicate] at hx2
  obtain ⟨w5, hw5⟩ : ∃ w5, w5 = w4.alloc (.cells #[.pointer (some ⟨g, 0, none⟩), .pointer (some ⟨h, 0, none⟩)] 26) := ⟨_, rfl⟩
  rw [← hw5] at hx2 N0 T0 ⊢
  obtain ⟨t, ht⟩ : ∃ t, t = w4.heap.size := ⟨_, rfl⟩
  rw [← ht] at T0 ⊢
  obtain ⟨N, hN⟩ : ∃ N : Nat, N = 2 ^ bits := ⟨_, rfl⟩
  rw [← hN] at hx2
  have hc0 : w5.cell? ⟨t, 0, none⟩ = some (.pointer (some ⟨g, 0, none⟩)) := (blk_cell T0 0).trans rfl
  have hc1 : w5.cell? ⟨t, 1, none⟩ = some (.pointer (some ⟨h, 0, none⟩)) := (blk_cell T0 1).trans rfl
  replace hx2 : w5.cell? ⟨h, 2, none⟩ = some (.slice (some ⟨c, 0, none⟩) N cc) := hx2
  have HNL := Aside0.mk (show (List.replicate (2 ^ bits) z72).length = N by rw [List.length_replicate, hN])
  have HRL := Aside0.mk (show (List.replicate (2 ^ bits) z79).length = 2 ^ bits by rw [List.length_replicate])
  have HS := Aside0.mk N0
  clear hw5 ht T0 N0 hN X1 X2 B1
  go_region_held3 (fun w' => w'.cell? ⟨t, 0, none⟩ = some (.pointer (some ⟨g, 0, none⟩)) ∧ w'.cell? ⟨t, 1, none⟩ = some (.pointer (some ⟨h, 0, none⟩)) ∧ w'.cell? ⟨h, 2, none⟩ = some (.slice (some ⟨c, 0, none⟩) N cc) ∧ Aside0 (NewsW W g b h c room bits w')) ((go_split_ands; refine ⟨?_, ?_, ?_, ?_⟩ <;> first | assumption | exact NewsW.drew (by assumption) | (exact NewsW.below (by assumption) (by assumption)) | (exact pw_cell_below (by assumption) (by assumption)) | go_keep))
    (first
      | (go_at_call 13; refine (room_calls (W := _) (g := g) (b := b) (room := room) (keys := 0) (bits := bits) (pl := List.replicate (2 ^ bits) z72) ?_).mono ?_; (refine NewsW.ix (W0 := W) (h := h) (c := c) ?_); (go_split_ands; assumption); rintro e w' ⟨rfl, rfl⟩)
      | (go_at_call 14; refine (len_calls (W := _) (g := g) (b := b) (room := room) (keys := 0) (bits := bits) (pl := List.replicate (2 ^ bits) z72) ?_).mono ?_; (refine NewsW.ix (W0 := W) (h := h) (c := c) ?_); (go_split_ands; assumption); rintro e w' ⟨rfl, rfl⟩)
      | (go_at_call 15; refine (slots_len (W := _) (g := g) (b := b) (room := room) (keys := 0) (bits := bits) (pl := List.replicate (2 ^ bits) z72) N ?_ HP.out HNL.out).mono ?_; (refine NewsW.ix (W0 := W) (h := h) (c := c) ?_); (go_split_ands; assumption); rintro e w' ⟨A, c1, rfl, hbel⟩)
      | (go_at_call 11; refine (home_calls (W := _) (g := g) (b := b) (room := room) (keys := 0) (bits := bits) (pl := List.replicate (2 ^ bits) z72) 9223372036854775813 ?_ HL.out).mono ?_; (refine NewsW.ix (W0 := W) (h := h) (c := c) ?_); (go_split_ands; assumption); rintro e w' ⟨rfl, rfl⟩)
      | (go_at_call 12; refine (rhome_calls (W := _) (g := h) (b := c) (room := room) (count := 0) (bits := bits) (pl := List.replicate (2 ^ bits) z79) 9223372036854775813 ?_ HRL.out HL.out).mono ?_; (refine NewsW.rx (W0 := W) (g := g) (b := b) ?_); (go_split_ands; assumption); rintro e w' ⟨rfl, rfl⟩))
  all_goals (go_wp2; go_ret; go_split_ands)
  all_goals (refine ⟨rfl, NewsW.b (g := g) (b := b) (h := h) (c := c) (room := room) (bits := bits) ?_⟩; assumption)

theorem news_calls (room : Int) (W : World) :
    Calls Try.prog 4 #[.int .i64 room] W fun e W' => e = .returned (.bool true) ∧ Below W.heap.size W W' := by
  by_cases h : room < 1 ∨ 65536 < room
  · exact news_bad room W h
  · exact news_good room W (by omega) (by omega)
end Go.Proofs.Ytmcaoecmjibegaa.PIx
