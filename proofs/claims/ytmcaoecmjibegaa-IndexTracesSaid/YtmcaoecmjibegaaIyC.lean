/- IndexTraces. -/
import Derived.Test.YtmcaoecmjibegaaIyB
import Derived.BigRegion
namespace Go.Proofs.Ytmcaoecmjibegaa.PIx
open Go.RowKit Go.Proofs.YtmcaoecmjibegaaW.PrintWords Go.Proofs.YtmcaoecmjibegaaW.PrintLast Go.Proofs.YtmcaoecmjibegaaW.PrintMore
open Go.Shelf
set_option linter.unusedVariables false
set_option linter.unusedSimpArgs false
attribute [local go_sem] Oper.semAt_some

set_option maxHeartbeats 16000000 in
set_option maxRecDepth 100000 in
theorem indexTraces_good (room : Int) (A : Option Addr) (n cap : Nat) (f : Nat → Bool × Int × Int) (W : World) (h1 : 1 ≤ room) (h2 : room ≤ 65536) (hst : Stp W A n f) (hn : n ≤ 9223372036854775807) :
    Calls Try.prog 7 #[.int .i64 room, .slice A n cap] W fun e W' => e = .returned (.bool true) ∧ Below W.heap.size W W' := by
  have HST := Aside0.mk hst
  clear hst
  refine (callsIn_wide (n := 8)).1 (callsIn_of_wp_marks (F := Fence.wide) Try.func7 rfl trivial ?_ rfl)
  refine wpIn_noPanic ?_
  refine wpIn_wide.2 ?_
  have hnf := func_nil
  simp only [Try.ntmps7, List.size_toArray, List.length_cons, List.length_nil, Nat.reduceAdd, Nat.reduceSub, Array.replicate_succ, Array.replicate_zero, List.push_toArray, List.append_toArray, List.nil_append, List.cons_append]
  go_wp2_with (first
    | ((with_reducible refine gate_callee (f := 16) rfl ?_); (try (refine gate_guard (by rfl) ?_; dsimp only)); refine goesL_ (some 19) rfl rfl Try.func16 (by kernel_rfl) rfl #[.int .i64 room] rfl (by (try simp only [List.map_toArray, List.map_cons, List.map_nil]); first | done | rfl) ?_; (with_reducible refine (new_least room _ h1 h2).mono ?_); rintro e w1 ⟨g1, b1, bits1, pl1, rfl, hg1, hb1, hl1, hno1, hbel1, hle1⟩; refine ⟨_, rfl, ?_⟩; have HE1L := Aside0.mk hle1; clear hle1; have HL1 := Aside0.mk hl1; have HG1 := Aside0.mk hg1; have HB1 := Aside0.mk hb1; have HN1 := Aside0.mk hno1; have HE1 := Aside0.mk hbel1; clear hl1 hno1 hg1 hb1 hbel1)
    | ((with_reducible refine gate_callee (f := 16) rfl ?_); (try (refine gate_guard (by rfl) ?_; dsimp only)); refine goesL_ (some 24) rfl rfl Try.func16 (by kernel_rfl) rfl #[.int .i64 room] rfl (by (try simp only [List.map_toArray, List.map_cons, List.map_nil]); first | done | rfl) ?_; (with_reducible refine (new_least room _ h1 h2).mono ?_); rintro e w2 ⟨g2, b2, bits2, pl2, rfl, hg2, hb2, hl2, hno2, hbel2, hle2⟩; refine ⟨_, rfl, ?_⟩; have HE2L := Aside0.mk hle2; clear hle2; have HL2 := Aside0.mk hl2; have HG2 := Aside0.mk hg2; have HB2 := Aside0.mk hb2; have HN2 := Aside0.mk hno2; have HE2 := Aside0.mk hbel2; clear hl2 hno2 hg2 hb2 hbel2))
  obtain rfl : bits1 = bits2 := HE1L.out.uniq HE2L.out
  have HT0 : Aside0 (TrW W W.heap.size g1 b1 g2 b2 w2.heap.size room 0 bits1 pl1 room 0 bits1 pl2 (w2.alloc (.cells #[.pointer (some ⟨g2, 0, none⟩)] 23))) := ⟨by
    have e1 := HG1.out
    have e2 := HB1.out
    rw [World.size_alloc] at e1 e2
    have s1 := HL1.out.1.lt
    have s2 := HL1.out.1.ltb
    have e3 := HG2.out
    have e4 := HB2.out
    have hb1 : Below W.heap.size W (W.alloc (.cells #[.bool false] 4)) := (Below.refl _ W).alloc (Nat.le_refl _) _
    have hb2 : Below W.heap.size W w1 := below_then hb1 hb1.size HE1.out
    have hb3 : Below W.heap.size W w2 := below_then hb2 hb2.size HE2.out
    have hb4 : Below w2.heap.size w2 (w2.alloc (.cells #[.pointer (some ⟨g2, 0, none⟩)] 23)) := (Below.refl _ w2).alloc (Nat.le_refl _) _
    have z1 : W.heap.size < w1.heap.size := by have := HE1.out.size; rw [World.size_alloc] at this; omega
    have r1 : w1.heap[W.heap.size]? = some (.cells #[.bool false] 4 (0, 0)) := (HE1.out.block _ (by rw [World.size_alloc]; omega)).trans (heap_alloc_new W _)
    have r2 := (HE2.out.block _ z1).trans r1
    exact ⟨below_then hb3 hb3.size hb4, (hb4.block _ (by have := HE2.out.size; omega)).trans r2, heap_alloc_new w2 _, (HL1.out.below HE2.out).below hb4, HL2.out.below hb4,
      ⟨Nat.le_refl _, by omega, by omega, by omega, by omega, by omega, by omega, HL2.out.1.lt, HL2.out.1.ltb⟩⟩⟩
  go_loopg [9] n (fun kq v9 w' => ∃ (i : Nat) (keys' : Int) (pl' : List S72), v9 = .int .i64 (i : Int) ∧ i ≤ n ∧ Aside0 (kq + i = n) ∧ Aside0 (TrW W W.heap.size g1 b1 g2 b2 w2.heap.size room keys' bits1 pl' room 0 bits1 pl2 w'))
  case atStart => exact ⟨0, 0, pl1, rfl, Nat.zero_le _, ⟨by omega⟩, HT0⟩
  case round =>
    obtain ⟨i, keys1, q1, rfl, hin, HK, HTR⟩ := hrel
    by_cases hi : i < n
    · obtain ⟨k1, rfl⟩ : ∃ k1, gk = k1 + 1 := ⟨gk - 1, by have := HK.out; omega⟩
      obtain ⟨ab, ao, rfl, s0, s1, s2⟩ := (HST.out.below HTR.out.bel) i hi
      obtain ⟨⟨sd, sk, sv⟩, hs⟩ : ∃ s, s = f i := ⟨_, rfl⟩
      rw [← hs] at s0 s1 s2
      dsimp only at s0 s1 s2
      clear hs
      have HLD : Aside0 (Live wr.drew g1 b1 room keys1 bits1 q1 ∧ TrW W W.heap.size g1 b1 g2 b2 w2.heap.size room keys1 bits1 q1 room 0 bits1 pl2 wr.drew) := ⟨HTR.out.drew.x, HTR.out.drew⟩
      cases sd with
      | true =>
        go_wp2_with (first
          | ((with_reducible refine gate_callee (f := 18) rfl ?_); (try (refine gate_guard (by rfl) ?_; dsimp only)); refine goesL_ (some 67) rfl rfl Try.func18 (by kernel_rfl) rfl #[.pointer (some ⟨g1, 0, none⟩), .int .u64 sk] rfl (by (try simp only [List.map_toArray, List.map_cons, List.map_nil]); first | done | rfl) ?_; (with_reducible refine (drop_any HTR.out.x sk).mono ?_); rintro e w3 ⟨v3, is3, keys3, q3, rfl, l3, f3, hc3⟩; refine ⟨_, rfl, ?_⟩; have HF := Aside0.mk (HTR.out.xcall l3 f3); clear l3 f3 hc3))
        go_roundg k1
        case measure => omega
        case rel => exact ⟨i + 1, keys3, q3, rfl, by omega, ⟨by have := HK.out; omega⟩, HF⟩
      | false =>
        go_wp2_with (fail)
        go_region_with (first | (go_at_call 19; refine (put_any HLD.out.1 sk sv).mono ?_; rintro e w3 ⟨r3, keys3, q3, rfl, l3, f3, hc3⟩))
        all_goals (have HF := Aside0.mk (HLD.out.2.xcall l3 f3); clear l3 f3 hc3)
        all_goals go_wp2
        all_goals go_roundg k1
        all_goals first
          | exact ⟨i + 1, keys3, q3, rfl, by omega, ⟨by have := HK.out; omega⟩, HF⟩
          | omega
    · go_wp2_with (first
        | ((with_reducible refine gate_callee (f := 22) rfl ?_); (try (refine gate_guard (by rfl) ?_; dsimp only)); refine goesL_ (some 81) rfl rfl Try.func22 (by kernel_rfl) rfl #[.pointer (some ⟨g1, 0, none⟩)] rfl (by (try simp only [List.map_toArray, List.map_cons, List.map_nil]); first | done | rfl) ?_; (with_reducible refine (all_calls g1 _).mono ?_); rintro e w4 ⟨rfl, rfl⟩; refine ⟨_, rfl, ?_⟩; skip))
      obtain rfl : i = n := by omega
      have HFT := HTR.out.x.2.1
      have hpl : q1.length ≤ 131072 := by rw [HFT.len]; exact Nat.le_trans (Nat.pow_le_pow_right (by decide) HFT.hb) (by decide)
      have HFIT := Aside0.mk HFT
      clear HFT
      refine (wpIn_wide (n := 8)).1 ?_
      refine wpIn_act ?_
      intro a0 ha0
      refine wpIn_world ?_
      intro w5 hw5
      have hal : w5 = (wr.alloc (.cells #[.int .i64 0] 3)).alloc (.cells #[.pointer (some ⟨g1, 0, none⟩)] 23) := hw5
      have hsz : w5.heap.size = wr.heap.size + 2 := by rw [hal, World.size_alloc, World.size_alloc]
      have hb5 : w5.heap[wr.heap.size + 1]? = some (.cells #[.pointer (some ⟨g1, 0, none⟩)] 23 (0, 0)) := by
        have := heap_alloc_new (wr.alloc (.cells #[.int .i64 0] 3)) (.cells #[.pointer (some ⟨g1, 0, none⟩)] 23)
        rw [World.size_alloc] at this
        rw [hal]
        exact this
      have hn5 : w5.heap[wr.heap.size]? = some (.cells #[.int .i64 0] 3 (0, 0)) := by
        rw [hal]
        exact (Below.heap_alloc _ _ _ (by rw [World.size_alloc]; omega)).trans (heap_alloc_new wr _)
      have HT5 : Aside0 (TrW W W.heap.size g1 b1 g2 b2 w2.heap.size room keys1 bits1 q1 room 0 bits1 pl2 w5) := ⟨by rw [hal]; exact (HTR.out.alloc _).alloc _⟩
      have HTI : Aside0 (TrI W W.heap.size g1 b1 g2 b2 w2.heap.size wr.heap.size w5.heap.size room keys1 bits1 q1 room bits1 [] w5) := ⟨⟨⟨pl2, HT5.out, fun k v => ⟨fun hh => absurd hh (HN2.out k v), fun hh => by cases hh⟩⟩, hn5, by have := HTR.out.lt; omega, by omega⟩⟩
      have hcell : w5.cell? ⟨wr.heap.size + 1, 0, none⟩ = some (.pointer (some ⟨g1, 0, none⟩)) := (blk_cell hb5 0).trans rfl
      have HLT : Aside0 (g1 < w5.heap.size ∧ b1 < w5.heap.size ∧ g2 < w5.heap.size ∧ b2 < w5.heap.size) := ⟨by have := HT5.out.lt; omega⟩
      have HSW : Aside0 (W.heap.size < w5.heap.size ∧ wr.heap.size < w5.heap.size) := ⟨by have := HTR.out.bel.size; omega⟩
      have HPL : Aside0 ((used q1).length ≤ 131072) := ⟨Nat.le_trans (List.length_filter_le _ _) hpl⟩
      clear hal hb5 hn5
      refine wpIn_rangeFunc_ownG rfl (by decide) (gf := 30) (lb := #[.pointer (some ⟨wr.heap.size + 1, 0, none⟩)]) (by rw [ha0]; exact rfl) trivial (enters_of Try.func30 (by kernel_rfl) rfl)
        (all1_seq 7 (by decide) HT5.out.x.1 hpl hcell (by omega)) (fun h k => h.trans k) (fun W l o o' _ h hc _ => keepCells_b W l o o' h hc) (Below.refl _ _) (fun _ => rfl)
        (TrI W W.heap.size g1 b1 g2 b2 w2.heap.size wr.heap.size w5.heap.size room keys1 bits1 q1 room bits1) (TrX room) (TrI.own _ _ _ _ _ _ _ _ _ _ _ _ _ _ _) (TrX.own _ _) HTI.out
        (fun x => { tmps := (((a0.tmps.setIfInBounds 85 (.int .u64 x.1)).setIfInBounds 86 (.int .i64 x.2)).setIfInBounds 12 (.int .u64 x.1)).setIfInBounds 13 (.int .i64 x.2), defers := [] }) ?assign ?body ?done ?stop
      case assign =>
        intro l x Wl K hK
        subst ha0
        dsimp only [encKV]
        gi_wp2
        exact hK
      case body =>
        rintro l pre x w6 HI hlen
        subst ha0
        have HI6 := Aside0.mk HI
        have hy6 : w6.cell? ⟨w2.heap.size, 0, none⟩ = some (.pointer (some ⟨g2, 0, none⟩)) := by
          obtain ⟨⟨q2, ht, _⟩, _⟩ := HI
          exact (blk_cell ht.ybk 0).trans rfl
        have hle : 1 ≤ 8 - 1 - 1 := by decide
        have HPN : Aside0 (pre.length < 131072) := ⟨by have := HPL.out; omega⟩
        clear hlen
        clear HI
        by_cases hx : ∃ v, (x.1, v) ∈ pre
        · have HX := Aside0.mk hx
          clear hx
          gi_wp2_with (refine ⟨trivial, ?_⟩; gi_at_call 19; refine (CallsIn.inRound l (callsIn_wide.2 (HI6.out.put_old x HX.out))).mono ?_; rintro e w7 ⟨rfl, f7, c7, z7⟩; have F7 := Aside0.mk f7; clear f7)
          exact ⟨((F7.out.mono (S' := fun i => i = g2 ∨ i = b2 ∨ i = W.heap.size) (fun i hi => .inl (hi.elim .inl (fun e => .inr (.inl e))))).setCell (p := ⟨W.heap.size, 0, none⟩) (.inl (.inr (.inr rfl))) _).keepsFrom (fun i hi => by have := HLT.out; have := HSW.out; omega), rfl, pre, x, rfl, .inl HX.out⟩
        · by_cases hm : (pre.length : Int) = room
          · have HM := Aside0.mk hm
            have HX := Aside0.mk hx
            clear hm hx
            gi_wp2_with (refine ⟨trivial, ?_⟩; gi_at_call 19; refine (CallsIn.inRound l (callsIn_wide.2 (HI6.out.put_full x HX.out HM.out))).mono ?_; rintro e w7 ⟨rfl, f7, c7, z7⟩; have F7 := Aside0.mk f7; clear f7)
            exact ⟨((F7.out.mono (S' := fun i => i = g2 ∨ i = b2 ∨ i = W.heap.size) (fun i hi => .inl (hi.elim .inl (fun e => .inr (.inl e))))).setCell (p := ⟨W.heap.size, 0, none⟩) (.inl (.inr (.inr rfl))) _).keepsFrom (fun i hi => by have := HLT.out; have := HSW.out; omega), rfl, pre, x, rfl, .inr HM.out⟩
          · have HM := Aside0.mk hm
            have HX := Aside0.mk hx
            have hpm : wrap64 ((pre.length : Int) + 1) = (pre.length : Int) + 1 := by have := HPN.out; unfold wrap64; omega
            clear hm hx
            gi_wp2_with (refine ⟨trivial, ?_⟩; gi_at_call 19; refine (CallsIn.inRound l (callsIn_wide.2 (HI6.out.put_new x HX.out HM.out))).mono ?_; rintro e w7 ⟨rfl, f7, c7, z7, ti⟩; have F7 := Aside0.mk f7; clear f7; have TI := Aside0.mk ti; clear ti)
            have FN : Aside0 (Fr (fun i => i = g2 ∨ i = b2 ∨ i = wr.heap.size) w6 (w7.setCell ⟨wr.heap.size, 0, none⟩ (.int .i64 ((pre.length : Int) + 1)))) := ⟨((F7.out.mono (S' := fun i => i = g2 ∨ i = b2 ∨ i = wr.heap.size) (fun i hi => .inl (hi.elim .inl (fun e => .inr (.inl e))))).setCell (p := ⟨wr.heap.size, 0, none⟩) (.inl (.inr (.inr rfl))) _)⟩
            exact ⟨FN.out.keepsFrom (fun i hi => by have := HLT.out; have := HSW.out; omega), FN.out.keepCells (fun i hi => by have := HLT.out; have := HSW.out; omega), TI.out⟩
      case done =>
        rintro D ys w6 hD ⟨l, hsrt, rfl⟩ HI hK
        subst ha0
        obtain ⟨N, q2, rfl, hN, ht6, hn6, hq1, hq2, hM, hus⟩ := HI.same hsrt
        clear HI hsrt
        obtain ⟨M, hMe⟩ : ∃ M, M = 2 ^ bits1 := ⟨_, rfl⟩
        rw [← hMe] at hq1 hq2 hM hus
        have hM0 : 0 < M := by rw [hMe]; exact Nat.pow_pos (by decide)
        have HT6 := Aside0.mk ht6
        have HUS := Aside0.mk hus
        have HD6 := Aside0.mk hD
        have HK6 := Aside0.mk hK
        have HN6 := Aside0.mk hn6
        have HBD : Aside0 (W.heap.size ≤ D) := ⟨by have := HSW.out; omega⟩
        have cy6 : w6.cell? ⟨w2.heap.size, 0, none⟩ = some (.pointer (some ⟨g2, 0, none⟩)) := (blk_cell ht6.ybk 0).trans rfl
        have S1 : Aside0 (Calls Try.prog 15 #[.pointer (some ⟨g1, 0, none⟩)] w6.drew fun e W' => ∃ c cap, e = .returned (.slice (some ⟨c, 0, none⟩) M cap) ∧ w6.drew.heap.size ≤ c ∧ Tab W' c q1 ∧ Below w6.drew.heap.size w6.drew W') := ⟨by
          have h := slots_tab ht6.drew.x.1 (by omega)
          rw [hq1] at h
          exact h⟩
        have S2 : Aside0 (∀ w, TrW W W.heap.size g1 b1 g2 b2 w2.heap.size room N bits1 q1 room N bits1 q2 w → Calls Try.prog 15 #[.pointer (some ⟨g2, 0, none⟩)] w fun e W' => ∃ c cap, e = .returned (.slice (some ⟨c, 0, none⟩) M cap) ∧ w.heap.size ≤ c ∧ Tab W' c q2 ∧ Below w.heap.size w W') := ⟨by
          intro w ht
          have h := slots_tab ht.y.1 (by omega)
          rw [hq2] at h
          exact h⟩
        clear hus hMe hD hK hn6 ht6
        go_wp2_with (fail)
        go_region_with (first
          | (go_at_call_of 15 (Value.pointer (some ⟨g1, 0, none⟩)); refine (S1.out).mono ?_; rintro e w7 ⟨c1, cap1, rfl, hc1, ht1, hb1⟩; have cy7 : w7.cell? ⟨w2.heap.size, 0, none⟩ = some (.pointer (some ⟨g2, 0, none⟩)) := pw_cell_below hb1 cy6; have T7 := Aside0.mk (HT6.out.drew.below hb1); have B7 := Aside0.mk hb1; have TB1 := Aside0.mk ht1; clear hb1 ht1 hc1)
          | (go_at_call_of 15 (Value.pointer (some ⟨g2, 0, none⟩)); refine (S2.out _ T7.out).mono ?_; rintro e w8 ⟨c2, cap2, rfl, hc2, ht2, hb2⟩; have T8 := Aside0.mk (T7.out.below hb2); have B8 := Aside0.mk hb2; have TB2 := Aside0.mk ht2; clear hb2 ht2 hc2))
        all_goals
          have BW : Aside0 (Below w6.heap.size w6 w8) := ⟨by
            have h1 : Below w6.heap.size w6 w7 := ⟨B7.out.os, B7.out.tape, B7.out.output, B7.out.size, B7.out.block⟩
            exact below_then h1 h1.size B8.out⟩
          have n8 : w8.cell? ⟨wr.heap.size, 0, none⟩ = some (.int .i64 (N : Int)) := (blk_cell (blk_below HN6.out BW.out) 0).trans rfl
          have cy8 : w8.cell? ⟨w2.heap.size, 0, none⟩ = some (.pointer (some ⟨g2, 0, none⟩)) := (blk_cell T8.out.ybk 0).trans rfl
          have T1 : Aside0 (Tab w8 c1 q1 ∧ Tab w8 c2 q2) := ⟨TB1.out.keep (B8.out.block c1 TB1.out.lt), TB2.out⟩
          have K8 : Aside0 (w8.heap[D]? = some (.deferred (some []))) := ⟨blk_below HK6.out BW.out⟩
          clear cy6 cy7
        all_goals go_wp2_with (fail)
        all_goals go_quiet (first | (go_at_call 14; exact Calls.quiet_of_same (len_calls (T8.out.drewN _).x.1)) | (go_at_call 14; exact Calls.quiet_of_same (len_calls (T8.out.drewN _).y.1)))
        all_goals go_wp2_with (fail)
        all_goals
          obtain ⟨w9, hw9⟩ : ∃ w9, w9 = w8.drewN nq := ⟨_, rfl⟩
          have X9 : Aside0 (TrW W W.heap.size g1 b1 g2 b2 w2.heap.size room N bits1 q1 room N bits1 q2 w9 ∧ (Tab w9 c1 q1 ∧ Tab w9 c2 q2) ∧ w9.heap[D]? = some (.deferred (some []))) := ⟨by
            rw [hw9]
            exact ⟨T8.out.drewN _, ⟨T1.out.1.keep rfl, T1.out.2.keep rfl⟩, K8.out⟩⟩
          rw [← hw9]
          clear hw9 n8 cy8
          go_loopg [16] M (fun kq v w' => ∃ j : Nat, v = .int .i64 (j : Int) ∧ j ≤ M ∧ Aside0 (kq + j = M) ∧ Aside0 (Below w9.heap.size w9 w'))
          case atStart => exact ⟨0, rfl, Nat.zero_le _, ⟨by omega⟩, ⟨Below.refl _ _⟩⟩
          case round =>
            obtain ⟨j, rfl, hj, HKj, HBj⟩ := hrel
            by_cases hjm : j < M
            · obtain ⟨k2, rfl⟩ : ∃ k2, gk = k2 + 1 := ⟨gk - 1, by have := HKj.out; omega⟩
              obtain ⟨a0, a1⟩ := (X9.out.2.1.1.keep (HBj.out.block c1 X9.out.2.1.1.lt)).at_ j (by rw [hq1]; exact hjm)
              obtain ⟨e0, e1⟩ := (X9.out.2.1.2.keep (HBj.out.block c2 X9.out.2.1.2.lt)).at_ j (by rw [hq2]; exact hjm)
              rw [HUS.out j hjm] at e0
              obtain ⟨u, hu⟩ : ∃ u, u = us q1 j := ⟨_, rfl⟩
              rw [← hu] at a0 e0
              clear hu a1 e1
              cases u
              all_goals go_wp2_with (fail)
              all_goals go_quiet (fail)
              all_goals go_wp2_with (fail)
              all_goals go_roundg k2
              all_goals first
                | exact ⟨j + 1, rfl, by omega, ⟨by have := HKj.out; omega⟩, ⟨⟨HBj.out.os, HBj.out.tape, HBj.out.output, HBj.out.size, HBj.out.block⟩⟩⟩
                | omega
            · obtain rfl : j = M := by omega
              go_wp2_with (first
                | ((with_reducible refine gate_callee (f := 17) rfl ?_); (try (refine gate_guard (by rfl) ?_; dsimp only)); refine goesL_ (some 132) rfl rfl Try.func17 (by kernel_rfl) rfl #[] rfl (by (try simp only [List.map_toArray, List.map_cons, List.map_nil]); first | done | rfl) ?_; (with_reducible refine (lives_calls _).mono ?_); rintro e w10 ⟨rfl, hbel⟩; refine ⟨_, rfl, ?_⟩; have T10 := Aside0.mk ((X9.out.1.below HBj.out).below hbel); have K10 := Aside0.mk (blk_below (blk_below X9.out.2.2 HBj.out) hbel); clear hbel; have c10 := (blk_cell T10.out.rbk 0).trans rfl; have z10 := blk_frozen T10.out.rbk 0))
              have r11 := blk_set T10.out.rbk 0 (.bool true)
              have hne : D ≠ W.heap.size := by have := HD6.out; have := HSW.out; omega
              have K11 : (w10.setCell ⟨W.heap.size, 0, none⟩ (.bool true)).heap[D]? = some (.deferred (some [])) := (Below.heap_setCell w10 ⟨W.heap.size, 0, none⟩ (.bool true) D hne).trans K10.out
              have B11 : Below W.heap.size W (w10.setCell ⟨W.heap.size, 0, none⟩ (.bool true)) := T10.out.bel.setCell (p := ⟨W.heap.size, 0, none⟩) (Nat.le_refl _) _
              refine noPanic_ret ?_
              refine ⟨by simp, .inl ⟨_, _, rfl, run_takeDeferred K11, ?_⟩⟩
              refine ⟨.bool true, results_bool rfl rfl ((blk_cell ((World.putObj_heap_other hne.symm).trans r11) 0).trans rfl), rfl, B11.grown (grownBy_putObj' _ D _) B11.size (fun k e => by cases e; exact HBD.out)⟩
      case stop =>
        rintro D c pre Wl hD hSp hX hK
        exact (hX.no HFIT.out (Int.le_refl _) hSp).elim
end Go.Proofs.Ytmcaoecmjibegaa.PIx
