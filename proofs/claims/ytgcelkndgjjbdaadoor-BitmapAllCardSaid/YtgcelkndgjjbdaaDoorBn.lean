/- BitmapNumbers. -/
import Derived.Test.YtgcelkndgjjbdaaDoorBmZ
import Derived.Deep.RegionHeld3
namespace Go.Proofs.YtgcelkndgjjbdaaDoor.PBm
open Go.RowKit Go.Proofs.YtgcelkndgjjbdaaDoorW.PrintWords Go.Proofs.YtgcelkndgjjbdaaDoorW.PrintLast Go.Proofs.YtgcelkndgjjbdaaDoorW.PrintMore
open Go.Shelf
set_option linter.unusedVariables false
set_option linter.unusedSimpArgs false

/-- A map and its list. -/
structure Nm (W : World) (g X : Nat) (S : St) (v : Value) (l : List Int) (w : World) : Prop where
  m : Bm w g S
  x : w.heap[X]? = some (.cells #[.pointer (some ⟨g, 0, none⟩), v] 40 (0, 0))
  li : Li w (X + 1) v l
  rep : Rep l S
  bel : Below W.heap.size W w
  g_ : g = W.heap.size
  x_ : X = W.heap.size + 1
theorem Nm.drewN {W w : World} {g X : Nat} {S : St} {v : Value} {l : List Int} (h : Nm W g X S v l w) (n : Nat) : Nm W g X S v l (w.drewN n) := ⟨h.m, h.x, h.li.keep (fun _ _ _ _ => rfl), h.rep, pw_below_drewN h.bel n, h.g_, h.x_⟩
theorem Nm.fr {W w w' : World} {g X : Nat} {S : St} {v : Value} {l : List Int} (h : Nm W g X S v l w) (k : Fr (fun i => i = g) w w') (hm : Bm w' g S) : Nm W g X S v l w' := by
  have := h.g_; have := h.x_
  exact ⟨hm, k.blk h.x (by omega), h.li.fr k (fun i hi e => by have := Kd.R_base h.li i e; omega), h.rep, Fr.onto h.bel k (fun i hi => by omega), h.g_, h.x_⟩

set_option maxHeartbeats 16000000 in
set_option maxRecDepth 100000 in
theorem numbers_calls {W : World} {A : Option Addr} {n cap : Nat} {f : Nat → Int} (a b : Int) (ha : a ≤ 9223372036854775807) (hl : Ints W A n f) (hn : n ≤ 9223372036854775807) (hT : Tz W) :
    Calls Tryd.prog 5 #[.slice A n cap, .int .i64 a, .int .i64 b] W fun e w' => e = .returned (.bool true) ∧ Below W.heap.size W w' := by
  have HL := Aside0.mk hl
  have HTW := Aside0.mk hT
  have HA := Aside0.mk ha
  obtain ⟨Z, hZ⟩ : ∃ Z, Z = cells E0 := ⟨_, rfl⟩
  have hz : ∀ w, (zeroValue 37).run Tryd.prog w = .ok (.agg Z) w := fun w => by rw [hZ]; exact zero30 w
  have s1 : (W.alloc (.cells Z 37)).heap.size = W.heap.size + 1 := World.size_alloc _ _
  obtain ⟨w1, hw1⟩ : ∃ w1, w1 = (W.alloc (.cells Z 37)).alloc (.cells #[.pointer (some ⟨W.heap.size, 0, none⟩), .slice none 0 0] 40) := ⟨_, rfl⟩
  have N0 : Aside0 (Nm W W.heap.size (W.heap.size + 1) E0 (.slice none 0 0) [] w1) := ⟨by
    rw [hw1]
    refine ⟨(Below.heap_alloc _ _ _ (by rw [s1]; omega)).trans (by rw [hZ]; exact heap_alloc_new W _), ?_, Li.nil _ _, Rep.nil, ((Below.refl _ W).alloc (Nat.le_refl _) _).alloc (by rw [s1]; omega) _, rfl, rfl⟩
    have := heap_alloc_new (W.alloc (.cells Z 37)) (.cells #[.pointer (some ⟨W.heap.size, 0, none⟩), .slice none 0 0] 40)
    rw [s1] at this
    exact this⟩
  clear hl hT ha hZ s1
  go_enter Tryd.func5, Tryd.ntmps5
  go_upto_region 2 with (fail)
  rw [← hw1]
  clear hw1 hz
  obtain ⟨g, hg⟩ : ∃ g, g = W.heap.size := ⟨_, rfl⟩
  obtain ⟨X, hX⟩ : ∃ X, X = W.heap.size + 1 := ⟨_, rfl⟩
  rw [← hX, ← hg] at N0 ⊢
  have HXg : Aside0 (X = W.heap.size + 1 ∧ g = W.heap.size) := ⟨hX, hg⟩
  clear hg hX
  go_wp2_with (fail)
  go_loopg [8] n (fun kq v8 w' => ∃ (i : Nat) (S : St) (v : Value) (l : List Int), v8 = .int .i64 (i : Int) ∧ i ≤ n ∧ Aside0 (kq + i = n) ∧ Aside0 (Nm W g X S v l w'))
  case atStart => exact ⟨0, E0, _, [], rfl, Nat.zero_le _, ⟨by omega⟩, N0⟩
  case round =>
    obtain ⟨i, S, v, l, rfl, hi, HK, HN⟩ := hrel
    by_cases hlt : i < n
    · obtain ⟨kk, rfl⟩ : ∃ kk, gk = kk + 1 := ⟨gk - 1, by have := HK.out; omega⟩
      obtain ⟨ab, ao, rfl, hc0⟩ := HL.out i hlt
      have habt : ab < W.heap.size := block_lt_of_cell hc0
      have HAB : Aside0 (ab < W.heap.size) := ⟨habt⟩
      have HC : Aside0 (∀ w, Below W.heap.size W w → w.cell? ⟨ab, ao + i, none⟩ = some (.int .i64 (f i))) := ⟨fun w hb => (hb.cell (p := ⟨ab, ao + i, none⟩) habt).trans hc0⟩
      obtain ⟨x, hx⟩ : ∃ x, x = f i := ⟨_, rfl⟩
      rw [← hx] at HC
      have c1 := HC.out _ HN.out.bel
      have c2 : wr.cell? ⟨X, 1, none⟩ = some v := (blk_cell HN.out.x 1).trans rfl
      have HB : Aside0 (X + 1 ≤ wr.heap.size) := ⟨blk_lt HN.out.x⟩
      have CW : Aside0 (Calls Tryd.prog 14 #[v, .int .i64 x] wr.drew (SetP (X + 1) wr.drew (tickB x && !hasB S x) (put S x))) := ⟨with_calls (w := wr.drew) (HN.out.li.keep (w' := wr.drew) (fun _ _ _ _ => rfl)) HN.out.rep HB.out x⟩
      obtain ⟨bb, hbb⟩ : ∃ b, b = (tickB x && !hasB S x) := ⟨_, rfl⟩
      have HBB := Aside0.mk hbb
      rw [← hbb] at CW
      have ebb : (bb != bb) = false := bne_self_eq_false' (a := bb)
      have hi2 : (i : Int) < (n : Int) := by omega
      have hn2 : (n : Int) ≤ 9223372036854775807 := by omega
      clear hx habt hc0 hbb
      go_wp2_with (fail)
      go_region_held3 (fun w' => w'.cell? ⟨ab, ao + i, none⟩ = some (.int .i64 x) ∧ w'.cell? ⟨X, 1, none⟩ = some v) ((first | (exact ⟨c1, c2⟩) | (exact ⟨d1, d2⟩)))
        (first
          | (go_at_call 14; (with_reducible refine (CW.out).mono ?_); rintro e w5 ⟨v', l', rfl, h1, h2, h3, _⟩; have H1 := Aside0.mk h1; have H2 := Aside0.mk h2; have H3 := Aside0.mk h3; have d2 : w5.cell? ⟨X, 1, none⟩ = some v := (h3.cell (p := ⟨X, 1, none⟩) (Nat.lt_succ_self X)).trans c2; have d1 : w5.cell? ⟨ab, ao + i, none⟩ = some (.int .i64 x) := (h3.cell (p := ⟨ab, ao + i, none⟩) (by have := HAB.out; have := HXg.out; show ab < X + 1; omega)).trans c1; clear h1 h2 h3))
      obtain ⟨A', c', hv'⟩ := H1.out.form
      obtain ⟨m', hm'⟩ : ∃ m', m' = l'.length := ⟨_, rfl⟩
      rw [← hm'] at hv'
      subst hv'
      clear hm'
      have c3 : w5.heap[X]? = some (.cells #[.pointer (some ⟨g, 0, none⟩), v] 40 (0, 0)) := (H3.out.block X (Nat.lt_succ_self X)).trans HN.out.x
      have M5 : Aside0 (Bm w5.drew g S) := ⟨HN.out.m.keep (H3.out.block g (by have := HXg.out; omega))⟩
      have d3 : w5.cell? ⟨X, 0, none⟩ = some (.pointer (some ⟨g, 0, none⟩)) := (blk_cell c3 0).trans rfl
      have C3 := Aside0.mk c3
      have CS : Aside0 (Calls Tryd.prog 15 #[.pointer (some ⟨g, 0, none⟩), .int .i64 x] w5.drew fun e w' => e = .returned (.bool bb) ∧ Bm w' g (put S x) ∧ Fr (fun k => k = g) w5.drew w') := ⟨by rw [HBB.out]; exact set_any S M5.out x⟩
      clear c3 d2
      go_wp2_with (fail)
      go_region_held3 (fun w' => w'.cell? ⟨ab, ao + i, none⟩ = some (.int .i64 x) ∧ w'.cell? ⟨X, 0, none⟩ = some (.pointer (some ⟨g, 0, none⟩))) ((first | (exact ⟨d1, d3⟩) | (exact ⟨b1, b3⟩)))
        (first
          | (go_at_call 15; (with_reducible refine (CS.out).mono ?_); rintro e w6 ⟨rfl, h1, h2⟩; have G1 := Aside0.mk h1; have G2 := Aside0.mk h2; have b0 : w6.heap[X]? = some (.cells #[.pointer (some ⟨g, 0, none⟩), v] 40 (0, 0)) := h2.blk C3.out (by have := HXg.out; omega); have b3 : w6.cell? ⟨X, 0, none⟩ = some (.pointer (some ⟨g, 0, none⟩)) := (blk_cell b0 0).trans rfl; have b1 : w6.cell? ⟨ab, ao + i, none⟩ = some (.int .i64 x) := (World.cell?_of_block (a := ⟨ab, ao + i, none⟩) (h2.block ab (by have := block_lt_of_cell d1; exact this) (by have := HAB.out; have := HXg.out; omega))).trans d1; clear h1 h2))
      have b4 : w6.cell? ⟨X, 1, none⟩ = some v := (blk_cell b0 1).trans rfl
      have b5 : w6.frozen? ⟨X, 1, none⟩ = false := blk_frozen b0 1
      have B0 := Aside0.mk b0
      clear b0 d1 d3
      go_wp2_with (fail)
      go_roundg kk
      case measure => omega
      case rel =>
        refine ⟨i + 1, put S x, .slice A' m' c', l', by simp, hlt, ⟨by have := HK.out; omega⟩, ⟨?_⟩⟩
        have hX := HXg.out
        have hf : Fr (fun k => k = X) w6 (w6.setCell ⟨X, 1, none⟩ (.slice A' m' c')) := (Fr.refl (fun k => k = X) w6).setCell (p := ⟨X, 1, none⟩) (.inl rfl) _
        have hg2 : Fr (fun k => k = g) w5 w6 := (Fr.refl (fun k => k = g) w5).drew.trans G2.out (fun i hi => .inl hi)
        have hli : Li w6 (X + 1) (.slice A' m' c') l' := H1.out.fr hg2 (fun k hk e => by have := Kd.R_base H1.out k e; omega)
        refine ⟨G1.out.fr hf (by omega), blk_set B0.out 1 _, hli.fr hf (fun k hk e => by have := Kd.R_base hli k e; omega), H2.out, ?_, hX.2, hX.1⟩
        have h5 : Below W.heap.size W w5 := HN.out.bel.drew.trans (H3.out.mono (by omega))
        exact (Fr.onto (Fr.onto h5 hg2 (fun k hk => by omega)) hf (fun k hk => by omega))
    · obtain rfl : i = n := by omega
      clear HK
      go_wp2_with (fail)
      go_loopg [11] 9 (fun kq v11 w' => ∃ k : Nat, v11 = .int .i64 (k : Int) ∧ k ≤ 11 ∧ Aside0 (kq + k = 11) ∧ Aside0 (Nm W g X S v l w'))
      case atStart => exact ⟨2, rfl, by omega, ⟨rfl⟩, HN⟩
      case round =>
        clear HN
        obtain ⟨k, rfl, hk, HK, HN⟩ := hrel
        have TZ : Aside0 (Tz wr) := ⟨HTW.out.below HN.out.bel HTW.out.lt⟩
        have c0 : wr.cell? ⟨X, 0, none⟩ = some (.pointer (some ⟨g, 0, none⟩)) := (blk_cell HN.out.x 0).trans rfl
        have c1 : wr.cell? ⟨X, 1, none⟩ = some v := (blk_cell HN.out.x 1).trans rfl
        by_cases hk2 : k < 11
        · obtain ⟨kk, rfl⟩ : ∃ kk, gk = kk + 1 := ⟨gk - 1, by have := HK.out; omega⟩
          have CA : Aside0 (Calls Tryd.prog 16 #[.agg #[.pointer (some ⟨g, 0, none⟩), v], .agg #[.int .i64 (k : Int), .int .i64 0, .int .i64 0, .int .i64 a, .int .i64 b]] wr fun e W' => e = .returned (.bool true) ∧ Bm W' g S ∧ Fr (fun i => i = g) wr W') := ⟨ask_calls _ _ _ _ _ HA.out HN.out.m TZ.out HN.out.li HN.out.rep⟩
          obtain ⟨A', c', hv'⟩ := HN.out.li.form
          obtain ⟨m', hm'⟩ : ∃ m', m' = l.length := ⟨_, rfl⟩
          rw [← hm'] at hv'
          subst hv'
          clear hm'
          go_wp2_with (first
            | ((with_reducible refine gate_callee (f := 16) rfl ?_); (try (refine gate_guard (by rfl) ?_; dsimp only)); refine goesL_ (some 51) rfl rfl Tryd.func16 (by kernel_rfl) rfl #[.agg #[.pointer (some ⟨g, 0, none⟩), .slice A' m' c'], .agg #[.int .i64 (k : Int), .int .i64 0, .int .i64 0, .int .i64 a, .int .i64 b]] rfl (by (try simp only [List.map_toArray, List.map_cons, List.map_nil]); first | done | rfl) ?_; (with_reducible refine (CA.out).mono ?_); rintro e w5 ⟨rfl, h1, h2⟩; refine ⟨_, rfl, ?_⟩; have H1 := Aside0.mk h1; have H2 := Aside0.mk h2; clear h1 h2))
          go_roundg kk
          case measure => omega
          case rel => exact ⟨k + 1, by simp, hk2, ⟨by have := HK.out; omega⟩, ⟨HN.out.fr H2.out H1.out⟩⟩
        · obtain rfl : k = 11 := by omega
          have CA : Aside0 (Calls Tryd.prog 17 #[.agg #[.pointer (some ⟨g, 0, none⟩), v]] wr fun e W' => e = .returned (.bool true) ∧ Bm W' g S ∧ Fr (fun i => i = g) wr W') := ⟨alike_calls HN.out.m TZ.out HN.out.li HN.out.rep⟩
          obtain ⟨A', c', hv'⟩ := HN.out.li.form
          obtain ⟨m', hm'⟩ : ∃ m', m' = l.length := ⟨_, rfl⟩
          rw [← hm'] at hv'
          subst hv'
          clear hm'
          go_wp2_with (first
            | ((with_reducible refine gate_callee (f := 17) rfl ?_); (try (refine gate_guard (by rfl) ?_; dsimp only)); refine goesL_ (some 54) rfl rfl Tryd.func17 (by kernel_rfl) rfl #[.agg #[.pointer (some ⟨g, 0, none⟩), .slice A' m' c']] rfl (by (try simp only [List.map_toArray, List.map_cons, List.map_nil]); first | done | rfl) ?_; (with_reducible refine (CA.out).mono ?_); rintro e w5 ⟨rfl, h1, h2⟩; refine ⟨_, rfl, ?_⟩; have H1 := Aside0.mk h1; have H2 := Aside0.mk h2; clear h1 h2))
          go_ret
          exact ⟨rfl, (HN.out.fr H2.out H1.out).bel⟩
end Go.Proofs.YtgcelkndgjjbdaaDoor.PBm
