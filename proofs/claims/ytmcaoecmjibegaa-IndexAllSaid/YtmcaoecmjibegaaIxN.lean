/- IndexTidy. -/
import Derived.Test.YtmcaoecmjibegaaIxM
import Derived.BigRegion
namespace Go.Proofs.Ytmcaoecmjibegaa.PIx
open Go.RowKit Go.Proofs.YtmcaoecmjibegaaW.PrintWords Go.Proofs.YtmcaoecmjibegaaW.PrintLast Go.Proofs.YtmcaoecmjibegaaW.PrintMore
set_option linter.unusedVariables false
set_option linter.unusedSimpArgs false

/-- The steps of an argument. -/
def Stp (W : World) (A : Option Addr) (n : Nat) (f : Nat → Bool × Int × Int) : Prop :=
  ∀ i, i < n → ∃ ab ao, A = some ⟨ab, ao, none⟩ ∧ W.cell? ⟨ab, ao + i * 3, none⟩ = some (.bool (f i).1) ∧ W.cell? ⟨ab, ao + i * 3 + 1, none⟩ = some (.int .u64 (f i).2.1) ∧ W.cell? ⟨ab, ao + i * 3 + 2, none⟩ = some (.int .i64 (f i).2.2)

theorem Stp.below {W W' : World} {A : Option Addr} {n : Nat} {f : Nat → Bool × Int × Int} (h : Stp W A n f) (k : Below W.heap.size W W') : Stp W' A n f := by
  intro i hi
  obtain ⟨ab, ao, ha, h0, h1, h2⟩ := h i hi
  exact ⟨ab, ao, ha, pw_cell_below k h0, pw_cell_below k h1, pw_cell_below k h2⟩

/-- What a call on an index of one's own leaves. -/
theorem keptOf {W w1 w2 : World} {g b : Nat} (hg : W.heap.size ≤ g) (hb : W.heap.size ≤ b) (h : Below W.heap.size W w1) (k : Fr (fun i => i = g ∨ i = b) w1 w2) : Below W.heap.size W w2 :=
  (((Fr.refl (fun i => i = g ∨ i = b) W).below h).trans k (fun i hi => .inl hi)).toBelow (fun i hi => hi.elim (fun e => by rw [e]; exact hg) (fun e => by rw [e]; exact hb))

set_option maxHeartbeats 8000000 in
set_option maxRecDepth 100000 in
theorem indexTidy_bad (room : Int) (A : Option Addr) (n cap : Nat) (W : World) (h : room < 1 ∨ 65536 < room) :
    Calls Try.prog 6 #[.int .i64 room, .slice A n cap] W fun e W' => e = .returned (.bool true) ∧ Below W.heap.size W W' := by
  have HR := Aside0.mk h
  by_cases h1 : room < 1
  · have d1 : decide (room < 1) = true := decide_eq_true h1
    clear h
    go_enter Try.func6, Try.ntmps6
    go_wp2_with (first
      | ((with_reducible refine gate_callee (f := 16) rfl ?_); (try (refine gate_guard (by rfl) ?_; dsimp only)); refine goesL_ (some 10) rfl rfl Try.func16 (by kernel_rfl) rfl #[.int .i64 room] rfl (by (try simp only [List.map_toArray, List.map_cons, List.map_nil]); first | done | rfl) ?_; (with_reducible refine (new_bad room W HR.out).mono ?_); rintro e w1 ⟨rfl, hbel⟩; refine ⟨_, rfl, ?_⟩; have HB := Aside0.mk hbel; clear hbel)
      | ((with_reducible refine gate_callee (f := 17) rfl ?_); (try (refine gate_guard (by rfl) ?_; dsimp only)); refine goesL_ (some 19) rfl rfl Try.func17 (by kernel_rfl) rfl #[] rfl (by (try simp only [List.map_toArray, List.map_cons, List.map_nil]); first | done | rfl) ?_; (with_reducible refine (lives_calls w1).mono ?_); rintro e w2 ⟨rfl, hbel⟩; refine ⟨_, rfl, ?_⟩; have HB2 := Aside0.mk hbel; clear hbel))
    go_ret
    exact ⟨rfl, below_then HB.out HB.out.size HB2.out⟩
  · have h2 : 65536 < room := by omega
    have d1 : decide (room < 1) = false := decide_eq_false h1
    have d2 : decide (65536 < room) = true := decide_eq_true h2
    clear h
    go_enter Try.func6, Try.ntmps6
    go_wp2_with (first
      | ((with_reducible refine gate_callee (f := 16) rfl ?_); (try (refine gate_guard (by rfl) ?_; dsimp only)); refine goesL_ (some 10) rfl rfl Try.func16 (by kernel_rfl) rfl #[.int .i64 room] rfl (by (try simp only [List.map_toArray, List.map_cons, List.map_nil]); first | done | rfl) ?_; (with_reducible refine (new_bad room W HR.out).mono ?_); rintro e w1 ⟨rfl, hbel⟩; refine ⟨_, rfl, ?_⟩; have HB := Aside0.mk hbel; clear hbel)
      | ((with_reducible refine gate_callee (f := 17) rfl ?_); (try (refine gate_guard (by rfl) ?_; dsimp only)); refine goesL_ (some 19) rfl rfl Try.func17 (by kernel_rfl) rfl #[] rfl (by (try simp only [List.map_toArray, List.map_cons, List.map_nil]); first | done | rfl) ?_; (with_reducible refine (lives_calls w1).mono ?_); rintro e w2 ⟨rfl, hbel⟩; refine ⟨_, rfl, ?_⟩; have HB2 := Aside0.mk hbel; clear hbel))
    go_ret
    exact ⟨rfl, below_then HB.out HB.out.size HB2.out⟩

set_option maxHeartbeats 16000000 in
set_option maxRecDepth 100000 in
theorem indexTidy_good (room : Int) (A : Option Addr) (n cap : Nat) (f : Nat → Bool × Int × Int) (W : World) (h1 : 1 ≤ room) (h2 : room ≤ 65536) (hst : Stp W A n f) (hn : n ≤ 9223372036854775807) :
    Calls Try.prog 6 #[.int .i64 room, .slice A n cap] W fun e W' => e = .returned (.bool true) ∧ Below W.heap.size W W' := by
  have HST := Aside0.mk hst
  clear hst
  go_enter Try.func6, Try.ntmps6
  go_wp2_with (first
    | ((with_reducible refine gate_callee (f := 16) rfl ?_); (try (refine gate_guard (by rfl) ?_; dsimp only)); refine goesL_ (some 10) rfl rfl Try.func16 (by kernel_rfl) rfl #[.int .i64 room] rfl (by (try simp only [List.map_toArray, List.map_cons, List.map_nil]); first | done | rfl) ?_; (with_reducible refine (new_live room W h1 h2).mono ?_); rintro e w1 ⟨g, b, bits, pl, rfl, hg, hb, hl, hno, hbel⟩; refine ⟨_, rfl, ?_⟩; have HL := Aside0.mk hl; have HG := Aside0.mk hg; have HH := Aside0.mk hb; have HB := Aside0.mk hbel; clear hl hno hg hb hbel))
  go_loopg [7] n (fun kq v7 w' => ∃ (i : Nat) (keys' : Int) (pl' : List S72), v7 = .int .i64 (i : Int) ∧ i ≤ n ∧ Aside0 (kq + i = n) ∧ Aside0 (Live w' g b room keys' bits pl') ∧ Aside0 (Below W.heap.size W w'))
  case atStart => exact ⟨0, 0, pl, rfl, Nat.zero_le _, ⟨rfl⟩, HL, HB⟩
  case round =>
    obtain ⟨i, keys1, pl1, rfl, hin, HK, HLR, HBR⟩ := hrel
    by_cases hi : i < n
    · obtain ⟨k1, rfl⟩ : ∃ k1, gk = k1 + 1 := ⟨gk - 1, by have := HK.out; omega⟩
      obtain ⟨ab, ao, rfl, s0, s1, s2⟩ := (HST.out.below HBR.out) i hi
      obtain ⟨⟨sd, sk, sv⟩, hs⟩ : ∃ s, s = f i := ⟨_, rfl⟩
      rw [← hs] at s0 s1 s2
      dsimp only at s0 s1 s2
      clear hs
      have HLD : Aside0 (Live wr.drew g b room keys1 bits pl1) := ⟨HLR.out.keep rfl rfl⟩
      have HBD : Aside0 (Below W.heap.size W wr.drew) := ⟨⟨HBR.out.os, HBR.out.tape, HBR.out.output, HBR.out.size, HBR.out.block⟩⟩
      by_cases c3 : (i : Int) % 4 = 3
      · have c3' : ((i : Int) % 4 == 3) = true := beq_iff_eq.mpr c3
        cases sd with
        | true =>
          go_wp2_with (first
            | ((with_reducible refine gate_callee (f := 18) rfl ?_); (try (refine gate_guard (by rfl) ?_; dsimp only)); refine goesL_ (some 45) rfl rfl Try.func18 (by kernel_rfl) rfl #[.pointer (some ⟨g, 0, none⟩), .int .u64 sk] rfl (by (try simp only [List.map_toArray, List.map_cons, List.map_nil]); first | done | rfl) ?_; (with_reducible refine (drop_any HLR.out sk).mono ?_); rintro e w2 ⟨v2, is2, keys2, pl2, rfl, l2, f2, hc2⟩; refine ⟨_, rfl, ?_⟩; have HL2 := Aside0.mk l2; have HB2 : Aside0 (Below W.heap.size W w2) := ⟨keptOf HG.out HH.out HBR.out f2⟩; clear l2 f2 hc2)
            | ((with_reducible refine gate_callee (f := 21) rfl ?_); (try (refine gate_guard (by rfl) ?_; dsimp only)); refine goesL_ (some 63) rfl rfl Try.func21 (by kernel_rfl) rfl #[.pointer (some ⟨g, 0, none⟩)] rfl (by (try simp only [List.map_toArray, List.map_cons, List.map_nil]); first | done | rfl) ?_; (with_reducible refine (tidy_calls HL2.out).mono ?_); rintro e w3 ⟨rfl, bel⟩; refine ⟨_, rfl, ?_⟩; have HL3 := Aside0.mk (HL2.out.below bel); have HB3 : Aside0 (Below W.heap.size W w3) := ⟨below_then HB2.out HB2.out.size bel⟩; clear bel))
          go_roundg k1
          case measure => omega
          case rel => exact ⟨i + 1, keys2, pl2, rfl, by omega, ⟨by have := HK.out; omega⟩, HL3, HB3⟩
        | false =>
          go_wp2_with (fail)
          go_region_with (first | (go_at_call 19; refine (put_any HLD.out sk sv).mono ?_; rintro e w2 ⟨r2, keys2, pl2, rfl, l2, f2, hc2⟩))
          all_goals (have HL2 := Aside0.mk l2; have HB2 : Aside0 (Below W.heap.size W w2) := ⟨keptOf HG.out HH.out HBD.out f2⟩; clear l2 f2 hc2)
          all_goals (go_wp2_with (first
            | ((with_reducible refine gate_callee (f := 21) rfl ?_); (try (refine gate_guard (by rfl) ?_; dsimp only)); refine goesL_ (some 63) rfl rfl Try.func21 (by kernel_rfl) rfl #[.pointer (some ⟨g, 0, none⟩)] rfl (by (try simp only [List.map_toArray, List.map_cons, List.map_nil]); first | done | rfl) ?_; (with_reducible refine (tidy_calls HL2.out).mono ?_); rintro e w3 ⟨rfl, bel⟩; refine ⟨_, rfl, ?_⟩; have HL3 := Aside0.mk (HL2.out.below bel); have HB3 : Aside0 (Below W.heap.size W w3) := ⟨below_then HB2.out HB2.out.size bel⟩; clear bel)))
          all_goals go_roundg k1
          all_goals first
            | exact ⟨i + 1, keys2, pl2, rfl, by omega, ⟨by have := HK.out; omega⟩, HL3, HB3⟩
            | omega
      · have c3' : ((i : Int) % 4 == 3) = false := beq_eq_false_iff_ne.mpr c3
        cases sd with
        | true =>
          go_wp2_with (first
            | ((with_reducible refine gate_callee (f := 18) rfl ?_); (try (refine gate_guard (by rfl) ?_; dsimp only)); refine goesL_ (some 45) rfl rfl Try.func18 (by kernel_rfl) rfl #[.pointer (some ⟨g, 0, none⟩), .int .u64 sk] rfl (by (try simp only [List.map_toArray, List.map_cons, List.map_nil]); first | done | rfl) ?_; (with_reducible refine (drop_any HLR.out sk).mono ?_); rintro e w2 ⟨v2, is2, keys2, pl2, rfl, l2, f2, hc2⟩; refine ⟨_, rfl, ?_⟩; have HL2 := Aside0.mk l2; have HB2 : Aside0 (Below W.heap.size W w2) := ⟨keptOf HG.out HH.out HBR.out f2⟩; clear l2 f2 hc2))
          go_roundg k1
          case measure => omega
          case rel => exact ⟨i + 1, keys2, pl2, rfl, by omega, ⟨by have := HK.out; omega⟩, HL2, HB2⟩
        | false =>
          go_wp2_with (fail)
          go_region_with (first | (go_at_call 19; refine (put_any HLD.out sk sv).mono ?_; rintro e w2 ⟨r2, keys2, pl2, rfl, l2, f2, hc2⟩))
          all_goals (have HL2 := Aside0.mk l2; have HB2 : Aside0 (Below W.heap.size W w2) := ⟨keptOf HG.out HH.out HBD.out f2⟩; clear l2 f2 hc2)
          all_goals go_wp2
          all_goals go_roundg k1
          all_goals first
            | exact ⟨i + 1, keys2, pl2, rfl, by omega, ⟨by have := HK.out; omega⟩, HL2, HB2⟩
            | omega
    · go_wp2_with (first
        | ((with_reducible refine gate_callee (f := 21) rfl ?_); (try (refine gate_guard (by rfl) ?_; dsimp only)); refine goesL_ (some 67) rfl rfl Try.func21 (by kernel_rfl) rfl #[.pointer (some ⟨g, 0, none⟩)] rfl (by (try simp only [List.map_toArray, List.map_cons, List.map_nil]); first | done | rfl) ?_; (with_reducible refine (tidy_calls HLR.out).mono ?_); rintro e w3 ⟨rfl, bel⟩; refine ⟨_, rfl, ?_⟩; have HB3 : Aside0 (Below W.heap.size W w3) := ⟨below_then HBR.out HBR.out.size bel⟩; clear bel)
        | ((with_reducible refine gate_callee (f := 17) rfl ?_); (try (refine gate_guard (by rfl) ?_; dsimp only)); refine goesL_ (some 69) rfl rfl Try.func17 (by kernel_rfl) rfl #[] rfl (by (try simp only [List.map_toArray, List.map_cons, List.map_nil]); first | done | rfl) ?_; (with_reducible refine (lives_calls w3).mono ?_); rintro e w4 ⟨rfl, bel⟩; refine ⟨_, rfl, ?_⟩; have HB4 : Aside0 (Below W.heap.size W w4) := ⟨below_then HB3.out HB3.out.size bel⟩; clear bel))
      go_ret
      exact ⟨rfl, HB4.out⟩
end Go.Proofs.Ytmcaoecmjibegaa.PIx
