/- IndexTwo. -/
import Derived.Test.YtmcaoecmjibegaaIyF
import Derived.BigRegion
import Derived.IntWalk
import Derived.Deep.CutRange
import Derived.Deep.RegionHeld3
namespace Go.Proofs.Ytmcaoecmjibegaa.PIx
open Go.RowKit Go.Proofs.YtmcaoecmjibegaaW.PrintWords Go.Proofs.YtmcaoecmjibegaaW.PrintLast Go.Proofs.YtmcaoecmjibegaaW.PrintMore
open Go.Shelf
set_option linter.unusedVariables false
set_option linter.unusedSimpArgs false
attribute [local go_sem] Oper.semAt_some

set_option maxHeartbeats 32000000 in
set_option maxRecDepth 100000 in
theorem indexTwo_good (room more : Int) (A : Option Addr) (n cap : Nat) (f : Nat → Bool × Int × Int) (A2 : Option Addr) (n2 cap2 : Nat) (ask : Nat → Int) (W : World) (h1 : 1 ≤ room) (h2 : room ≤ 65536) (hst : Stp W A n f) (hn : n ≤ 9223372036854775807) (hask : Ask W A2 n2 ask) (hn2 : n2 ≤ 9223372036854775807) :
    Calls Try.prog 9 #[.int .i64 room, .int .i64 more, .slice A n cap, .slice A2 n2 cap2] W fun e W' => e = .returned (.bool true) ∧ Below W.heap.size W W' := by
  have HST := Aside0.mk hst
  have HASK := Aside0.mk hask
  clear hst hask
  have HR := Aside0.mk (And.intro h1 h2)
  have K0 : Aside0 ((W.alloc (.cells #[.bool false] 4)).heap[W.heap.size]? = some (.cells #[.bool false] 4 (0, 0)) ∧ Below W.heap.size W (W.alloc (.cells #[.bool false] 4))) := ⟨heap_alloc_new W _, (Below.refl _ W).alloc (Nat.le_refl _) _⟩
  refine (callsIn_wide (n := 8)).1 (callsIn_of_wp_marks (F := Fence.wide) Try.func9 rfl trivial ?_ rfl)
  refine wpIn_noPanic ?_
  refine wpIn_wide.2 ?_
  have hnf := func_nil
  simp only [Try.ntmps9, List.size_toArray, List.length_cons, List.length_nil, Nat.reduceAdd, Nat.reduceSub, Array.replicate_succ, Array.replicate_zero, List.push_toArray, List.append_toArray, List.nil_append, List.cons_append]
  clear h1 h2
  go_upto_region 6 with (first
    | ((with_reducible refine gate_callee (f := 17) rfl ?_); (try (refine gate_guard (by rfl) ?_; dsimp only)); refine goesL_ (some 29) rfl rfl Try.func17 (by kernel_rfl) rfl #[] rfl (by (try simp only [List.map_toArray, List.map_cons, List.map_nil]); first | done | rfl) ?_; (with_reducible refine (lives_calls _).mono ?_); rintro e w0 ⟨rfl, hbel0⟩; refine ⟨_, rfl, ?_⟩; have KA : Aside0 (w0.heap[W.heap.size]? = some (.cells #[.bool false] 4 (0, 0)) ∧ Below W.heap.size W w0) := ⟨blk_below K0.out.1 hbel0, below_then K0.out.2 K0.out.2.size hbel0⟩; clear hbel0)
    | ((with_reducible refine gate_callee (f := 16) rfl ?_); (try (refine gate_guard (by rfl) ?_; dsimp only)); refine goesL_ (some 33) rfl rfl Try.func16 (by kernel_rfl) rfl #[.int .i64 room] rfl (by (try simp only [List.map_toArray, List.map_cons, List.map_nil]); first | done | rfl) ?_; (with_reducible refine (new_live room _ HR.out.1 HR.out.2).mono ?_); rintro e w1 ⟨g1, b1, bits1, pl1, rfl, hg1, hb1, hl1, hno1, hbel1⟩; refine ⟨_, rfl, ?_⟩; have HL1 := Aside0.mk hl1; have HG1 := Aside0.mk hg1; have HB1 := Aside0.mk hb1; have HN1 := Aside0.mk hno1; have HE1 := Aside0.mk hbel1; clear hl1 hno1 hg1 hb1 hbel1))
  obtain ⟨B, hBd⟩ : ∃ B, B = decide (more < 0 ∨ 100 < more ∨ 65536 < room + more) := ⟨_, rfl⟩
  have HBD := Aside0.mk hBd
  clear hBd
  go_cut [59] from 48 to 59 (fun v wc => v = .bool B ∧ w1 = wc)
  case first =>
    by_cases c1 : more < 0
    · have e1 : decide (more < 0) = true := decide_eq_true c1
      have HC := Aside0.mk c1
      clear c1
      go_wp2
      go_meet
      case rel => exact ⟨by rw [HBD.out, decide_eq_true (.inl HC.out)], rfl⟩
    · have e1 : decide (more < 0) = false := decide_eq_false c1
      by_cases c2 : 100 < more
      · have e2 : decide (100 < more) = true := decide_eq_true c2
        have HC := Aside0.mk c2
        clear c1 c2
        go_wp2
        go_meet
        case rel => exact ⟨by rw [HBD.out, decide_eq_true (.inr (.inl HC.out))], rfl⟩
      · have e2 : decide (100 < more) = false := decide_eq_false c2
        have e3 : IntKind.i64.wrap (room + more) = room + more := IntWalk.i64_in _ (by have := HR.out; omega)
        have HC := Aside0.mk (And.intro c1 c2)
        clear c1 c2
        by_cases c3 : 65536 < room + more
        · have e4 : decide (65536 < room + more) = true := decide_eq_true c3
          have HC3 := Aside0.mk c3
          clear c3
          go_wp2
          go_meet
          case rel => exact ⟨by rw [HBD.out, decide_eq_true (.inr (.inr HC3.out))], rfl⟩
        · have e4 : decide (65536 < room + more) = false := decide_eq_false c3
          have HC3 := Aside0.mk c3
          clear c3
          go_wp2
          go_meet
          case rel => exact ⟨by rw [HBD.out, decide_eq_false (fun h => by have := HC.out; have := HC3.out; omega)], rfl⟩
  case rest =>
    obtain ⟨rfl, rfl⟩ := hcut
    obtain ⟨m2, hm2⟩ : ∃ m2, m2 = moreOf room more := ⟨_, rfl⟩
    have HM2 := Aside0.mk hm2
    clear hm2
    go_upto_if 59 with (fail)
    go_cut [1] from 59 to 59 (fun v wc => v = .int .i64 m2 ∧ w1 = wc)
    case first =>
      cases B with
      | true =>
        go_wp2
        go_meet
        case rel => exact ⟨by rw [HM2.out]; unfold moreOf; rw [if_pos (of_decide_eq_true HBD.out.symm)], rfl⟩
      | false =>
        go_wp2
        go_meet
        case rel => exact ⟨by rw [HM2.out]; unfold moreOf; rw [if_neg (of_decide_eq_false HBD.out.symm)], rfl⟩
    case rest =>
      obtain ⟨rfl, rfl⟩ := hcut
      have HMO : Aside0 (1 ≤ room + m2 ∧ room + m2 ≤ 65536 ∧ 0 ≤ m2 ∧ m2 ≤ 100) := ⟨by rw [HM2.out]; exact moreOf_ok HR.out.1 HR.out.2⟩
      have e3 : IntKind.i64.wrap (room + m2) = room + m2 := IntWalk.i64_in _ (by have := HMO.out; omega)
      go_wp2_with (first
        | ((with_reducible refine gate_callee (f := 16) rfl ?_); (try (refine gate_guard (by rfl) ?_; dsimp only)); refine goesL_ (some 64) rfl rfl Try.func16 (by kernel_rfl) rfl #[.int .i64 (room + m2)] rfl (by (try simp only [List.map_toArray, List.map_cons, List.map_nil]); first | done | rfl) ?_; (with_reducible refine (new_live (room + m2) _ HMO.out.1 HMO.out.2.1).mono ?_); rintro e w2 ⟨g2, b2, bits2, pl2, rfl, hg2, hb2, hl2, hno2, hbel2⟩; refine ⟨_, rfl, ?_⟩; have HL2 := Aside0.mk hl2; have HG2 := Aside0.mk hg2; have HB2 := Aside0.mk hb2; have HN2 := Aside0.mk hno2; have HE2 := Aside0.mk hbel2; clear hl2 hno2 hg2 hb2 hbel2))
      have HT0 : Aside0 (TrW W W.heap.size g1 b1 g2 b2 w2.heap.size room 0 bits1 pl1 (room + m2) 0 bits2 pl2 (w2.alloc (.cells #[.pointer (some ⟨g2, 0, none⟩)] 23))) := ⟨by
        have e1 := HG1.out
        have e2 := HB1.out
        have s0 := blk_lt KA.out.1
        have s1 := HL1.out.1.lt
        have s2 := HL1.out.1.ltb
        have e3 := HG2.out
        have e4 := HB2.out
        have hb2 : Below W.heap.size W w1 := below_then KA.out.2 KA.out.2.size HE1.out
        have hb3 : Below W.heap.size W w2 := below_then hb2 hb2.size HE2.out
        have hb4 : Below w2.heap.size w2 (w2.alloc (.cells #[.pointer (some ⟨g2, 0, none⟩)] 23)) := (Below.refl _ w2).alloc (Nat.le_refl _) _
        have r2 := blk_below (blk_below KA.out.1 HE1.out) HE2.out
        exact ⟨below_then hb3 hb3.size hb4, blk_below r2 hb4, heap_alloc_new w2 _, (HL1.out.below HE2.out).below hb4, HL2.out.below hb4,
          ⟨Nat.le_refl _, by omega, by omega, by omega, by omega, by omega, by omega, HL2.out.1.lt, HL2.out.1.ltb⟩⟩⟩
      have HS0 : Aside0 (∀ k v, Has pl1 k v ↔ Has pl2 k v) := ⟨fun k v => ⟨fun h => absurd h (HN1.out k v), fun h => absurd h (HN2.out k v)⟩⟩
      clear e3
      go_loopg [13] n (fun kq v13 w' => ∃ (i : Nat) (K : Int) (p1 p2 : List S72), v13 = .int .i64 (i : Int) ∧ i ≤ n ∧ Aside0 (kq + i = n) ∧ Aside0 (TrW W W.heap.size g1 b1 g2 b2 w2.heap.size room K bits1 p1 (room + m2) K bits2 p2 w') ∧ Aside0 (∀ k v, Has p1 k v ↔ Has p2 k v))
      case atStart => exact ⟨0, 0, pl1, pl2, rfl, Nat.zero_le _, ⟨by omega⟩, HT0, HS0⟩
      case round =>
        obtain ⟨i, K, p1, p2, rfl, hin, HK, HTR, HSM⟩ := hrel
        by_cases hi : i < n
        · obtain ⟨k1, rfl⟩ : ∃ k1, gk = k1 + 1 := ⟨gk - 1, by have := HK.out; omega⟩
          obtain ⟨ab, ao, rfl, s0, s1, s2⟩ := (HST.out.below HTR.out.bel) i hi
          obtain ⟨⟨sd, sk, sv⟩, hs⟩ : ∃ s, s = f i := ⟨_, rfl⟩
          rw [← hs] at s0 s1 s2
          dsimp only at s0 s1 s2
          have HFI : Aside0 ((f i).1 = sd ∧ (f i).2.1 = sk ∧ (f i).2.2 = sv) := ⟨by rw [← hs]; exact ⟨rfl, rfl, rfl⟩⟩
          have HII := Aside0.mk hi
          clear hs
          cases sd with
          | true =>
            obtain ⟨v, d, is, hx, hy⟩ := drop_both (g := g1) (b := b1) (room := room) (keys := K) (bits := bits1) (g2 := g2) (b2 := b2) (room2 := room + m2) (keys2 := K) (bits2 := bits2) HSM.out sk
            have HX := Aside0.mk hx
            have HY := Aside0.mk hy
            clear hx hy
            go_wp2_with (first
              | ((with_reducible refine gate_callee (f := 18) rfl ?_); (try (refine gate_guard (by rfl) ?_; dsimp only)); refine goesL_ (some 91) rfl rfl Try.func18 (by kernel_rfl) rfl #[.pointer (some ⟨g1, 0, none⟩), .int .u64 sk] rfl (by (try simp only [List.map_toArray, List.map_cons, List.map_nil]); first | done | rfl) ?_; (with_reducible refine (HX.out _ HTR.out.x).mono ?_); rintro e w3 ⟨rfl, q1, l3, f3, hc3⟩; refine ⟨_, rfl, ?_⟩; have T3 := Aside0.mk (HTR.out.xcall l3 f3); have C3 := Aside0.mk hc3; clear l3 f3 hc3))
            have cy3 : w3.cell? ⟨w2.heap.size, 0, none⟩ = some (.pointer (some ⟨g2, 0, none⟩)) := (blk_cell T3.out.ybk 0).trans rfl
            have t1 : w3.cell? ⟨ab, ao + i * 3 + 1, none⟩ = some (.int .u64 sk) := by rw [← HFI.out.2.1]; exact stp_at HST.out T3.out.bel HII.out
            clear s0 s1 s2
            go_region_with (first | (go_at_call 18; refine (HY.out _ T3.out.drew.y).mono ?_; rintro e w4 ⟨rfl, q2, l4, f4, hc4⟩; have T4 := Aside0.mk (T3.out.drew.ycall l4 f4); have C4 := Aside0.mk hc4; clear l4 f4 hc4))
            all_goals clear cy3 t1
            all_goals go_wp2_with (fail)
            all_goals go_roundg k1
            all_goals first
              | exact ⟨i + 1, K - d, q1, q2, rfl, by omega, ⟨by have := HK.out; omega⟩, T4, ⟨fun k x => ((C3.out k x).trans (and_congr_left' (HSM.out k x))).trans (C4.out k x).symm⟩⟩
              | omega
          | false =>
            have HIX : Aside0 (Ix wr g1 b1 room K bits1 p1) := ⟨HTR.out.x.1⟩
            by_cases hfull : K = room
            · have e4 : (K == room) = true := beq_iff_eq.mpr hfull
              clear hfull
              go_wp2_with (first
                | (go_at_call 14; (with_reducible refine (len_calls HIX.out).mono ?_); rintro e w3 ⟨rfl, h5⟩; subst w3)
                | (go_at_call 13; (with_reducible refine (room_calls HIX.out).mono ?_); rintro e w3 ⟨rfl, h5⟩; subst w3))
              go_roundg k1
              case measure => omega
              case rel => exact ⟨i + 1, K, p1, p2, rfl, by omega, ⟨by have := HK.out; omega⟩, HTR, HSM⟩
            · have e4 : (K == room) = false := beq_eq_false_iff_ne.mpr hfull
              have hkr : K < room := by have := HTR.out.x.2.1.most; omega
              obtain ⟨r, d, hx, hy⟩ := put_both (g := g1) (b := b1) (room := room) (keys := K) (bits := bits1) (g2 := g2) (b2 := b2) (room2 := room + m2) (keys2 := K) (bits2 := bits2) HSM.out hkr (by have := HMO.out; omega) sk sv
              have HX := Aside0.mk hx
              have HY := Aside0.mk hy
              have HTD : Aside0 (TrW W W.heap.size g1 b1 g2 b2 w2.heap.size room K bits1 p1 (room + m2) K bits2 p2 wr.drew) := ⟨HTR.out.drew⟩
              have cy0 : wr.cell? ⟨w2.heap.size, 0, none⟩ = some (.pointer (some ⟨g2, 0, none⟩)) := (blk_cell HTR.out.ybk 0).trans rfl
              clear hx hy hfull hkr
              go_wp2_with (first
                | (go_at_call 14; (with_reducible refine (len_calls HIX.out).mono ?_); rintro e w3 ⟨rfl, h5⟩; subst w3)
                | (go_at_call 13; (with_reducible refine (room_calls HIX.out).mono ?_); rintro e w3 ⟨rfl, h5⟩; subst w3))
              have hS0 : (fun w' : World => w'.cell? ⟨w2.heap.size, 0, none⟩ = some (.pointer (some ⟨g2, 0, none⟩)) ∧ w'.cell? ⟨ab, ao + i * 3 + 1, none⟩ = some (.int .u64 sk) ∧ w'.cell? ⟨ab, ao + i * 3 + 2, none⟩ = some (.int .i64 sv)) wr.drew := ⟨cy0, s1, s2⟩
              have HS0 := Aside0.mk hS0
              clear hS0 cy0 s0 s1 s2
              go_region_held3 (fun w' => w'.cell? ⟨w2.heap.size, 0, none⟩ = some (.pointer (some ⟨g2, 0, none⟩)) ∧ w'.cell? ⟨ab, ao + i * 3 + 1, none⟩ = some (.int .u64 sk) ∧ w'.cell? ⟨ab, ao + i * 3 + 2, none⟩ = some (.int .i64 sv))
                (first | exact HS4.out | exact HS3.out | exact HS0.out)
                (first
                | (go_at_call_of 19 (Value.pointer (some ⟨g1, 0, none⟩)); refine (HX.out _ HTD.out.x).mono ?_; rintro e w3 ⟨rfl, q1, l3, f3, hc3⟩; have T3 := Aside0.mk (HTD.out.xcall l3 f3); have C3 := Aside0.mk hc3; clear l3 f3 hc3; have HS3 := Aside0.mk (twS HFI.out HST.out HII.out T3.out))
                | (go_at_call_of 19 (Value.pointer (some ⟨g2, 0, none⟩)); refine (HY.out _ T3.out.y).mono ?_; rintro e w4 ⟨rfl, q2, l4, f4, hc4⟩; have T4 := Aside0.mk (T3.out.ycall l4 f4); have C4 := Aside0.mk hc4; clear l4 f4 hc4; have HS4 := Aside0.mk (twS HFI.out HST.out HII.out T4.out)))
              all_goals go_wp2_with (fail)
              all_goals go_roundg k1
              all_goals first
                | exact ⟨i + 1, K + d, q1, q2, rfl, by omega, ⟨by have := HK.out; omega⟩, T4, ⟨fun k x => ((C3.out k x).trans (or_congr_left (HSM.out k x))).trans (C4.out k x).symm⟩⟩
                | omega
        · obtain rfl : i = n := by omega
          go_wp2_with (fail)
          go_loopg [18] n2 (fun kq v18 w' => ∃ j : Nat, v18 = .int .i64 (j : Int) ∧ j ≤ n2 ∧ Aside0 (kq + j = n2) ∧ Aside0 (TrW W W.heap.size g1 b1 g2 b2 w2.heap.size room K bits1 p1 (room + m2) K bits2 p2 w'))
          case atStart => exact ⟨0, rfl, Nat.zero_le _, ⟨by omega⟩, HTR⟩
          case round =>
            clear HTR
            obtain ⟨j, rfl, hj, HKj, HTR⟩ := hrel
            by_cases hjn : j < n2
            · obtain ⟨k2, rfl⟩ : ∃ k2, gk = k2 + 1 := ⟨gk - 1, by have := HKj.out; omega⟩
              obtain ⟨ab2, ao2, rfl, s0⟩ := (HASK.out.below HTR.out.bel) j hjn
              obtain ⟨sk, hs⟩ : ∃ s, s = ask j := ⟨_, rfl⟩
              rw [← hs] at s0
              have HFI := Aside0.mk hs
              have HII := Aside0.mk hjn
              obtain ⟨v, is, hx, hy⟩ := get_both (g := g1) (b := b1) (room := room) (keys := K) (bits := bits1) (w := wr) (g2 := g2) (b2 := b2) (room2 := room + m2) (keys2 := K) (bits2 := bits2) HTR.out.x.2.1 HSM.out sk
              have HX := Aside0.mk hx
              have HY := Aside0.mk hy
              clear hx hy hs
              go_wp2_with (first
                | ((with_reducible refine gate_callee (f := 20) rfl ?_); (try (refine gate_guard (by rfl) ?_; dsimp only)); refine goesL_ (some 154) rfl rfl Try.func20 (by kernel_rfl) rfl #[.pointer (some ⟨g1, 0, none⟩), .int .u64 sk] rfl (by (try simp only [List.map_toArray, List.map_cons, List.map_nil]); first | done | rfl) ?_; (with_reducible refine (HX.out _ HTR.out.x).mono ?_); rintro e w3 ⟨rfl, hb3⟩; refine ⟨_, rfl, ?_⟩; have T3 := Aside0.mk (HTR.out.below hb3); clear hb3))
              have cy3 : w3.cell? ⟨w2.heap.size, 0, none⟩ = some (.pointer (some ⟨g2, 0, none⟩)) := (blk_cell T3.out.ybk 0).trans rfl
              have t1 : w3.cell? ⟨ab2, ao2 + j, none⟩ = some (.int .u64 sk) := by rw [HFI.out]; exact ask_at HASK.out T3.out.bel HII.out
              clear s0
              go_region_with (first | (go_at_call 20; refine (HY.out _ T3.out.drew.y).mono ?_; rintro e w4 ⟨rfl, hb4⟩; have T4 := Aside0.mk (T3.out.drew.below hb4); clear hb4))
              all_goals clear cy3 t1
              all_goals go_wp2_with (fail)
              all_goals go_roundg k2
              all_goals first
                | exact ⟨j + 1, rfl, by omega, ⟨by have := HKj.out; omega⟩, T4⟩
                | omega
            · obtain rfl : j = n2 := by omega
              go_wp2_with (first
                | ((with_reducible refine gate_callee (f := 22) rfl ?_); (try (refine gate_guard (by rfl) ?_; dsimp only)); refine goesL_ (some 175) rfl rfl Try.func22 (by kernel_rfl) rfl #[.pointer (some ⟨g1, 0, none⟩)] rfl (by (try simp only [List.map_toArray, List.map_cons, List.map_nil]); first | done | rfl) ?_; (with_reducible refine (all_calls g1 _).mono ?_); rintro e w4 ⟨rfl, rfl⟩; refine ⟨_, rfl, ?_⟩; skip))
              have HFT := HTR.out.x.2.1
              have hpl : p1.length ≤ 131072 := by rw [HFT.len]; exact Nat.le_trans (Nat.pow_le_pow_right (by decide) HFT.hb) (by decide)
              have HFIT := Aside0.mk HFT
              clear HFT
              refine (wpIn_wide (n := 8)).1 ?_
              refine wpIn_act ?_
              intro a0 ha0
              refine wpIn_world ?_
              intro w5 hw5
              have hal : w5 = (wr.alloc (.cells #[.int .i64 0] 3)).alloc (.cells #[.pointer (some ⟨g1, 0, none⟩)] 23) := hw5
              have hsz : w5.heap.size = wr.heap.size + 2 := by rw [hal, World.size_alloc, World.size_alloc]
              have hb5 : w5.heap[wr.heap.size + 1]? = some (.cells #[.pointer (some ⟨g1, 0, none⟩)] 23 (0, 0)) := by
                have := heap_alloc_new (wr.alloc (.cells #[.int .i64 0] 3)) (.cells #[.pointer (some ⟨g1, 0, none⟩)] 23)
                rw [World.size_alloc] at this
                rw [hal]
                exact this
              have hn5 : w5.heap[wr.heap.size]? = some (.cells #[.int .i64 0] 3 (0, 0)) := by
                rw [hal]
                exact (Below.heap_alloc _ _ _ (by rw [World.size_alloc]; omega)).trans (heap_alloc_new wr _)
              have HT5 : Aside0 (TrW W W.heap.size g1 b1 g2 b2 w2.heap.size room K bits1 p1 (room + m2) K bits2 p2 w5) := ⟨by rw [hal]; exact (HTR.out.alloc _).alloc _⟩
              have HTI : Aside0 (TwI W W.heap.size g1 b1 g2 b2 w2.heap.size wr.heap.size w5.heap.size room K bits1 p1 (room + m2) K bits2 p2 [] w5) := ⟨⟨HT5.out, hn5, by have := HTR.out.lt; omega, by omega⟩⟩
              have hcell : w5.cell? ⟨wr.heap.size + 1, 0, none⟩ = some (.pointer (some ⟨g1, 0, none⟩)) := (blk_cell hb5 0).trans rfl
              have HSW : Aside0 (W.heap.size < w5.heap.size ∧ wr.heap.size < w5.heap.size) := ⟨by have := HTR.out.bel.size; omega⟩
              have HPL : Aside0 ((used p1).length ≤ 131072) := ⟨Nat.le_trans (List.length_filter_le _ _) hpl⟩
              clear hal hb5 hn5
              refine wpIn_rangeFunc_ownG rfl (by decide) (gf := 30) (lb := #[.pointer (some ⟨wr.heap.size + 1, 0, none⟩)]) (by rw [ha0]; exact rfl) trivial (enters_of Try.func30 (by kernel_rfl) rfl)
                (all1_seq 7 (by decide) HT5.out.x.1 hpl hcell (by omega)) (fun h k => h.trans k) (fun W l o o' _ h hc _ => keepCells_b W l o o' h hc) (Below.refl _ _) (fun _ => rfl)
                (TwI W W.heap.size g1 b1 g2 b2 w2.heap.size wr.heap.size w5.heap.size room K bits1 p1 (room + m2) K bits2 p2) (TwX p2) (TwI.own _ _ _ _ _ _ _ _ _ _ _ _ _ _ _ _ _) (TwX.own _ _) HTI.out
                (fun x => { tmps := (((a0.tmps.setIfInBounds 179 (.int .u64 x.1)).setIfInBounds 180 (.int .i64 x.2)).setIfInBounds 25 (.int .u64 x.1)).setIfInBounds 26 (.int .i64 x.2), defers := [] }) ?assign ?body ?done ?stop
              case assign =>
                intro l x Wl Kl hK
                subst ha0
                dsimp only [encKV]
                gi_wp2
                exact hK
              case body =>
                rintro l pre x w6 HI hlen
                subst ha0
                have HI6 := Aside0.mk HI
                have hy6 : w6.cell? ⟨w2.heap.size, 0, none⟩ = some (.pointer (some ⟨g2, 0, none⟩)) := (blk_cell HI.tr.ybk 0).trans rfl
                have hle : 1 ≤ 8 - 1 - 1 := by decide
                have HPN : Aside0 (pre.length < 131072) := ⟨by have := HPL.out; omega⟩
                obtain ⟨x1, x2⟩ := x
                clear HI hlen
                by_cases hx : ∃ v, Has p2 x1 v
                · obtain ⟨v, hv⟩ := hx
                  have HV := Aside0.mk hv
                  clear hv
                  have hpm : wrap64 ((pre.length : Int) + 1) = (pre.length : Int) + 1 := by have := HPN.out; unfold wrap64; omega
                  by_cases hvx : v = x2
                  · subst hvx
                    gi_wp2_with (refine ⟨trivial, ?_⟩; gi_at_call 20; refine (CallsIn.inRound l (callsIn_wide.2 (HI6.out.get_some x1 v HV.out))).mono ?_; rintro e w7 ⟨rfl, f7, c7, z7, c8, z8, ti⟩; have F7 := Aside0.mk f7; have TI := Aside0.mk ti; clear f7 ti)
                    have FN : Aside0 (Fr (fun i => i = wr.heap.size) w6 (w7.setCell ⟨wr.heap.size, 0, none⟩ (.int .i64 ((pre.length : Int) + 1)))) := ⟨(fr_below (S := fun i => i = wr.heap.size) F7.out).setCell (p := ⟨wr.heap.size, 0, none⟩) (.inl rfl) _⟩
                    exact ⟨FN.out.keepsFrom (fun i hi => by have := HSW.out; omega), FN.out.keepCells (fun i hi => by have := HSW.out; omega), TI.out _⟩
                  · have e5 : (v != x2) = true := bne_iff_ne.mpr hvx
                    have HVX := Aside0.mk hvx
                    clear hvx
                    gi_wp2_with (refine ⟨trivial, ?_⟩; gi_at_call 20; refine (CallsIn.inRound l (callsIn_wide.2 (HI6.out.get_some x1 v HV.out))).mono ?_; rintro e w7 ⟨rfl, f7, c7, z7, c8, z8, ti⟩; have F7 := Aside0.mk f7; clear f7 ti)
                    exact ⟨((fr_below (S := fun i => i = W.heap.size) F7.out).setCell (p := ⟨W.heap.size, 0, none⟩) (.inl rfl) _).keepsFrom (fun i hi => by have := HSW.out; omega), rfl, pre, (x1, x2), rfl, fun h => HVX.out (HV.out.one HT5.out.y.2.1 h)⟩
                · have HV := Aside0.mk hx
                  clear hx
                  gi_wp2_with (refine ⟨trivial, ?_⟩; gi_at_call 20; refine (CallsIn.inRound l (callsIn_wide.2 (HI6.out.get_none x1 HV.out))).mono ?_; rintro e w7 ⟨rfl, f7, c7, z7⟩; have F7 := Aside0.mk f7; clear f7)
                  exact ⟨((fr_below (S := fun i => i = W.heap.size) F7.out).setCell (p := ⟨W.heap.size, 0, none⟩) (.inl rfl) _).keepsFrom (fun i hi => by have := HSW.out; omega), rfl, pre, (x1, x2), rfl, fun h => HV.out ⟨_, h⟩⟩
              case done =>
                rintro D ys w6 hD ⟨l, hsrt, rfl⟩ HI hK
                subst ha0
                obtain ⟨N, hN⟩ : ∃ N : Nat, N = (l.map kv).length := ⟨_, rfl⟩
                have hkn : K = (N : Int) := by rw [hN, List.length_map]; exact (hsrt.len HFIT.out).symm
                obtain ⟨ht6, hn6, _, _⟩ := HI
                rw [← hN] at hn6
                clear hN hsrt
                have ek : (K == (N : Int)) = true := beq_iff_eq.mpr hkn
                subst hkn
                have HT6 := Aside0.mk ht6
                have HD6 := Aside0.mk hD
                have HK6 := Aside0.mk hK
                have HBD : Aside0 (W.heap.size ≤ D) := ⟨by have := HSW.out; omega⟩
                have cy6 : w6.cell? ⟨w2.heap.size, 0, none⟩ = some (.pointer (some ⟨g2, 0, none⟩)) := (blk_cell ht6.ybk 0).trans rfl
                have cn6 : w6.cell? ⟨wr.heap.size, 0, none⟩ = some (.int .i64 (N : Int)) := (blk_cell hn6 0).trans rfl
                have cr6 : w6.cell? ⟨W.heap.size, 0, none⟩ = some (.bool false) := (blk_cell ht6.rbk 0).trans rfl
                have zr6 := blk_frozen ht6.rbk 0
                clear hD hK hn6 ht6 ek
                go_wp2_with (fail)
                have HTD : Aside0 (TrW W W.heap.size g1 b1 g2 b2 w2.heap.size room N bits1 p1 (room + m2) N bits2 p2 w6.drew) := ⟨HT6.out.drew⟩
                go_region_with (first
                  | (go_at_call_of 14 (Value.pointer (some ⟨g1, 0, none⟩)); refine (len_calls HTD.out.x.1).mono ?_; rintro e w7 ⟨rfl, h5⟩; subst w7)
                  | (go_at_call_of 14 (Value.pointer (some ⟨g2, 0, none⟩)); refine (len_calls HTD.out.y.1).mono ?_; rintro e w7 ⟨rfl, h5⟩; subst w7))
                all_goals go_wp2_with (fail)
                all_goals
                  have hne : D ≠ W.heap.size := by have := HD6.out; have := HSW.out; omega
                  have r11 := blk_set HT6.out.rbk 0 (.bool true)
                  have K11 : (w6.setCell ⟨W.heap.size, 0, none⟩ (.bool true)).heap[D]? = some (.deferred (some [])) := (Below.heap_setCell w6 ⟨W.heap.size, 0, none⟩ (.bool true) D hne).trans HK6.out
                  have B11 : Below W.heap.size W (w6.setCell ⟨W.heap.size, 0, none⟩ (.bool true)) := HT6.out.bel.setCell (p := ⟨W.heap.size, 0, none⟩) (Nat.le_refl _) _
                  have B12 : Below W.heap.size W (w6.setCell ⟨W.heap.size, 0, none⟩ (.bool true)).drew := ⟨B11.os, B11.tape, B11.output, B11.size, B11.block⟩
                  refine noPanic_ret ?_
                  refine ⟨by simp, .inl ⟨_, _, rfl, run_takeDeferred (w := (w6.setCell ⟨W.heap.size, 0, none⟩ (.bool true)).drew) K11, ?_⟩⟩
                  refine ⟨.bool true, results_bool rfl rfl ((blk_cell ((World.putObj_heap_other hne.symm).trans r11) 0).trans rfl), rfl, B12.grown (grownBy_putObj' _ D _) B12.size (fun k e => by cases e; exact HBD.out)⟩
              case stop =>
                rintro D c pre Wl hD hSp hX hK
                exact (hX.no HFIT.out HSM.out hSp).elim
end Go.Proofs.Ytmcaoecmjibegaa.PIx
