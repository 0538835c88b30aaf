/- The map's Clear. -/
import Derived.Test.YtgcelkndgjjbdaaDoorBmA
namespace Go.Proofs.YtgcelkndgjjbdaaDoor.PBm
open Go.RowKit Go.Proofs.YtgcelkndgjjbdaaDoorW.PrintWords Go.Proofs.YtgcelkndgjjbdaaDoorW.PrintLast Go.Proofs.YtgcelkndgjjbdaaDoorW.PrintMore
set_option linter.unusedVariables false
set_option linter.unusedSimpArgs false

theorem set_same {A : Array Value} {i : Nat} {v : Value} (h : A[i]? = some v) : A.setIfInBounds i v = A := by
  apply Array.ext_getElem?
  intro k
  by_cases e : i = k
  · subst e
    have hi : i < A.size := by
      rcases Nat.lt_or_ge i A.size with h1 | h1
      · exact h1
      · rw [Array.getElem?_eq_none h1] at h; cases h
    rw [Array.getElem?_setIfInBounds_self_of_lt hi, h]
  · rw [Array.getElem?_setIfInBounds_ne e]

theorem andNot_pow (x : Nat) (k : Nat) (hx : x < 18446744073709551616) (hk : k < 64) : Go.bits .andNot .u64 (x : Int) (IntKind.u64.wrap (2 ^ k)) = ((x &&& (18446744073709551615 - 2 ^ k) : Nat) : Int) := by
  have hp : 2 ^ k < 18446744073709551616 := Nat.pow_lt_pow_right (by decide : 1 < 2) hk
  have e : IntKind.u64.wrap (2 ^ k) = ((2 ^ k : Nat) : Int) := by
    have : ((2 : Int) ^ k) = ((2 ^ k : Nat) : Int) := by simp
    rw [this]
    generalize 2 ^ k = p at hp
    rw [IntKind.wrap_u64]
    omega
  rw [e]
  exact u64_andNot_nat x (2 ^ k) hx hp

set_option maxHeartbeats 8000000 in
set_option maxRecDepth 100000 in
theorem clear_no (S : St) {W : World} {g : Nat} (h : Bm W g S) (t : Int) (ht : hasB S t = false) :
    Calls Tryd.prog 20 #[.pointer (some ⟨g, 0, none⟩), .int .i64 t] W fun e w' => e = .returned (.bool false) ∧ w' = W := by
  have HX : Calls Tryd.prog 13 #[.pointer (some ⟨g, 0, none⟩), .int .i64 t] W fun e w' => e = .returned (.bool false) ∧ w' = W := by
    cases h1 : tickB t with
    | false =>
      have := has_out S W (.pointer (some ⟨g, 0, none⟩)) t h1
      rwa [ht] at this
    | true =>
      have h3 : 0 ≤ t ∧ t < 262144 := of_decide_eq_true h1
      obtain ⟨n, rfl⟩ : ∃ n : Nat, t = n := ⟨t.toNat, by omega⟩
      unfold hasB at ht
      rw [h1, Bool.true_and, Int.toNat_natCast] at ht
      have := has_in h n (by omega)
      rwa [ht] at this
  have H := Aside0.mk HX
  clear HX h ht
  go_enter Tryd.func20, Tryd.ntmps20
  go_wp2_with (first | ((with_reducible refine gate_callee (f := 13) rfl ?_); refine goesL_ (some 8) rfl rfl Tryd.func13 (by kernel_rfl) rfl #[.pointer (some ⟨g, 0, none⟩), .int .i64 t] rfl (by (try simp only [List.map_toArray, List.map_cons, List.map_nil]); first | done | rfl) ?_; (with_reducible refine (H.out).mono ?_); rintro e w4 ⟨rfl, h4⟩; subst w4; refine ⟨_, rfl, ?_⟩))
  go_ret
  exact ⟨rfl, rfl⟩

set_option maxHeartbeats 8000000 in
set_option maxRecDepth 100000 in
theorem clear_yes (S : St) {W : World} {g : Nat} (h : Bm W g S) (t : Nat) (ht : t < 262144) (hs : S t = true) :
    Calls Tryd.prog 20 #[.pointer (some ⟨g, 0, none⟩), .int .i64 t] W fun e w' => e = .returned (.bool true) ∧ Bm w' g (up S t false) ∧ Fr (fun k => k = g) W w' := by
  have HX := has_in h t ht
  rw [hs] at HX
  have H := Aside0.mk HX
  have hc0 := h.low (t / 64) (by omega)
  have hf0 := h.frozen (65 + t / 64)
  have HM := Aside0.mk h
  have M1 := Aside0.mk (midW_clear' hs)
  have M2 := Aside0.mk (topW_clear' hs ht)
  have M3 := Aside0.mk (mid_ne hs)
  clear HX h hs
  by_cases z1 : lowW (up S t false) (t / 64) = 0
  · have m1 := M1.out
    rw [if_pos z1] at m1
    have z1b : (((lowW (up S t false) (t / 64) : Nat) : Int) == 0) = true := by rw [z1]; rfl
    have Z1 := Aside0.mk z1
    have N1 := Aside0.mk m1
    clear z1 m1
    by_cases z2 : midW (up S t false) (t / 64 / 64) = 0
    · have m2 := M2.out
      rw [if_pos z2] at m2
      have z2b : (((midW (up S t false) (t / 64 / 64) : Nat) : Int) == 0) = true := by rw [z2]; rfl
      have N2 := Aside0.mk m2
      clear z2 m2
      go_enter Tryd.func20, Tryd.ntmps20
      go_wp2_with (first | ((with_reducible refine gate_callee (f := 13) rfl ?_); refine goesL_ (some 8) rfl rfl Tryd.func13 (by kernel_rfl) rfl #[.pointer (some ⟨g, 0, none⟩), .int .i64 t] rfl (by (try simp only [List.map_toArray, List.map_cons, List.map_nil]); first | done | rfl) ?_; (with_reducible refine (H.out).mono ?_); rintro e w4 ⟨rfl, h4⟩; subst w4; refine ⟨_, rfl, ?_⟩))
      go_region
      rw [andNot_pow _ _ (lowW_lt S _) (Nat.mod_lt _ (by decide)), ← lowW_clear]
      obtain ⟨w1, hw1⟩ : ∃ w1, w1 = (W.setCell { block := g, off := 65 + t / 64 } (Value.int IntKind.u64 (lowW (up S t false) (t / 64) : Nat))).drew := ⟨_, rfl⟩
      have B1 : w1.heap[g]? = some (.cells ((cells S).setIfInBounds (65 + t / 64) (Value.int IntKind.u64 (lowW (up S t false) (t / 64) : Nat))) 37 (0, 0)) := by rw [hw1]; exact blk_set HM.out _ _
      have F1 : Fr (fun k => k = g) W w1 := by rw [hw1]; exact ((Fr.refl (fun k => k = g) W).setCell (p := ⟨g, 65 + t / 64, none⟩) (.inl rfl) _).drew
      have hc1 : w1.cell? ⟨g, 1 + t / 64 / 64, none⟩ = some (.int .u64 (midW S (t / 64 / 64) : Nat)) := by
        rw [blk_cell B1, Array.getElem?_setIfInBounds_ne (by omega), ← blk_cell HM.out]
        exact HM.out.mid _ (by omega)
      have hc1b : w1.cell? ⟨g, 65 + t / 64, none⟩ = some (.int .u64 (lowW (up S t false) (t / 64) : Nat)) := by
        rw [blk_cell B1, Array.getElem?_setIfInBounds_self_of_lt (by rw [cells_size]; omega)]
      have hf1 := blk_frozen B1 (1 + t / 64 / 64)
      have HB1 := Aside0.mk B1
      have HF1 := Aside0.mk F1
      rw [← hw1]
      clear B1 F1 hw1 hc0 hf0
      go_wp2
      go_region
      rw [andNot_pow _ _ (midW_lt S _) (Nat.mod_lt _ (by decide)), ← N1.out]
      obtain ⟨w2, hw2⟩ : ∃ w2, w2 = (w1.setCell { block := g, off := 1 + t / 64 / 64 } (Value.int IntKind.u64 (midW (up S t false) (t / 64 / 64) : Nat))).drew := ⟨_, rfl⟩
      have B2 : w2.heap[g]? = some (.cells (((cells S).setIfInBounds (65 + t / 64) (Value.int IntKind.u64 (lowW (up S t false) (t / 64) : Nat))).setIfInBounds (1 + t / 64 / 64) (Value.int IntKind.u64 (midW (up S t false) (t / 64 / 64) : Nat))) 37 (0, 0)) := by rw [hw2]; exact blk_set HB1.out _ _
      have F2 : Fr (fun k => k = g) W w2 := by rw [hw2]; exact (HF1.out.setCell (p := ⟨g, 1 + t / 64 / 64, none⟩) (.inl rfl) _).drew
      have hc2 : w2.cell? ⟨g, 0, none⟩ = some (.int .u64 (topW S : Nat)) := by
        rw [blk_cell B2, Array.getElem?_setIfInBounds_ne (by omega), Array.getElem?_setIfInBounds_ne (by omega), ← blk_cell HM.out]
        exact HM.out.top
      have hc2b : w2.cell? ⟨g, 1 + t / 64 / 64, none⟩ = some (.int .u64 (midW (up S t false) (t / 64 / 64) : Nat)) := by
        rw [blk_cell B2, Array.getElem?_setIfInBounds_self_of_lt (by simp [cells_size]; omega)]
      have hf2 := blk_frozen B2 0
      have HB2 := Aside0.mk B2
      have HF2 := Aside0.mk F2
      rw [← hw2]
      clear B2 F2 hw2 hc1 hf1 hc1b
      go_wp2
      go_region
      rw [andNot_pow _ _ (topW_lt S) (by omega), ← N2.out]
      go_wp2
      go_ret
      refine ⟨rfl, ?_, ?_⟩
      · have h3 := blk_set HB2.out 0 (Value.int IntKind.u64 (topW (up S t false) : Nat))
        rw [cells_up S t false ht] at h3
        exact h3
      · exact (HF2.out.setCell (p := ⟨g, 0, none⟩) (.inl rfl) _).drew
    · have m2 := M2.out
      rw [if_neg z2] at m2
      have z2b : (((midW (up S t false) (t / 64 / 64) : Nat) : Int) == 0) = false := beq_eq_false_iff_ne.mpr (by omega)
      have N2 := Aside0.mk m2
      clear z2 m2
      go_enter Tryd.func20, Tryd.ntmps20
      go_wp2_with (first | ((with_reducible refine gate_callee (f := 13) rfl ?_); refine goesL_ (some 8) rfl rfl Tryd.func13 (by kernel_rfl) rfl #[.pointer (some ⟨g, 0, none⟩), .int .i64 t] rfl (by (try simp only [List.map_toArray, List.map_cons, List.map_nil]); first | done | rfl) ?_; (with_reducible refine (H.out).mono ?_); rintro e w4 ⟨rfl, h4⟩; subst w4; refine ⟨_, rfl, ?_⟩))
      go_region
      rw [andNot_pow _ _ (lowW_lt S _) (Nat.mod_lt _ (by decide)), ← lowW_clear]
      obtain ⟨w1, hw1⟩ : ∃ w1, w1 = (W.setCell { block := g, off := 65 + t / 64 } (Value.int IntKind.u64 (lowW (up S t false) (t / 64) : Nat))).drew := ⟨_, rfl⟩
      have B1 : w1.heap[g]? = some (.cells ((cells S).setIfInBounds (65 + t / 64) (Value.int IntKind.u64 (lowW (up S t false) (t / 64) : Nat))) 37 (0, 0)) := by rw [hw1]; exact blk_set HM.out _ _
      have F1 : Fr (fun k => k = g) W w1 := by rw [hw1]; exact ((Fr.refl (fun k => k = g) W).setCell (p := ⟨g, 65 + t / 64, none⟩) (.inl rfl) _).drew
      have hc1 : w1.cell? ⟨g, 1 + t / 64 / 64, none⟩ = some (.int .u64 (midW S (t / 64 / 64) : Nat)) := by
        rw [blk_cell B1, Array.getElem?_setIfInBounds_ne (by omega), ← blk_cell HM.out]
        exact HM.out.mid _ (by omega)
      have hc1b : w1.cell? ⟨g, 65 + t / 64, none⟩ = some (.int .u64 (lowW (up S t false) (t / 64) : Nat)) := by
        rw [blk_cell B1, Array.getElem?_setIfInBounds_self_of_lt (by rw [cells_size]; omega)]
      have hf1 := blk_frozen B1 (1 + t / 64 / 64)
      have HB1 := Aside0.mk B1
      have HF1 := Aside0.mk F1
      rw [← hw1]
      clear B1 F1 hw1 hc0 hf0
      go_wp2
      go_region
      rw [andNot_pow _ _ (midW_lt S _) (Nat.mod_lt _ (by decide)), ← N1.out]
      obtain ⟨w2, hw2⟩ : ∃ w2, w2 = (w1.setCell { block := g, off := 1 + t / 64 / 64 } (Value.int IntKind.u64 (midW (up S t false) (t / 64 / 64) : Nat))).drew := ⟨_, rfl⟩
      have B2 : w2.heap[g]? = some (.cells (((cells S).setIfInBounds (65 + t / 64) (Value.int IntKind.u64 (lowW (up S t false) (t / 64) : Nat))).setIfInBounds (1 + t / 64 / 64) (Value.int IntKind.u64 (midW (up S t false) (t / 64 / 64) : Nat))) 37 (0, 0)) := by rw [hw2]; exact blk_set HB1.out _ _
      have F2 : Fr (fun k => k = g) W w2 := by rw [hw2]; exact (HF1.out.setCell (p := ⟨g, 1 + t / 64 / 64, none⟩) (.inl rfl) _).drew
      have hc2b : w2.cell? ⟨g, 1 + t / 64 / 64, none⟩ = some (.int .u64 (midW (up S t false) (t / 64 / 64) : Nat)) := by
        rw [blk_cell B2, Array.getElem?_setIfInBounds_self_of_lt (by simp [cells_size]; omega)]
      have HB2 := Aside0.mk B2
      have HF2 := Aside0.mk F2
      rw [← hw2]
      clear B2 F2 hw2 hc1 hf1 hc1b
      go_wp2
      go_ret
      refine ⟨rfl, ?_, HF2.out⟩
      have h3 := HB2.out
      have h4 := cells_up S t false ht
      rw [set_same (by
        rw [Array.getElem?_setIfInBounds_ne (by omega), Array.getElem?_setIfInBounds_ne (by omega), cells_at _ _ (by decide), N2.out]
        rfl)] at h4
      rw [h4] at h3
      exact h3
  · have m1 := M1.out
    rw [if_neg z1] at m1
    have z1b : (((lowW (up S t false) (t / 64) : Nat) : Int) == 0) = false := beq_eq_false_iff_ne.mpr (by omega)
    have N1 := Aside0.mk m1
    have m2 := M2.out
    have z2 := M3.out
    rw [m1, if_neg z2] at m2
    have z2b : (((midW S (t / 64 / 64) : Nat) : Int) == 0) = false := beq_eq_false_iff_ne.mpr (by omega)
    have N2 := Aside0.mk m2
    clear z1 m1 z2 m2
    go_enter Tryd.func20, Tryd.ntmps20
    go_wp2_with (first | ((with_reducible refine gate_callee (f := 13) rfl ?_); refine goesL_ (some 8) rfl rfl Tryd.func13 (by kernel_rfl) rfl #[.pointer (some ⟨g, 0, none⟩), .int .i64 t] rfl (by (try simp only [List.map_toArray, List.map_cons, List.map_nil]); first | done | rfl) ?_; (with_reducible refine (H.out).mono ?_); rintro e w4 ⟨rfl, h4⟩; subst w4; refine ⟨_, rfl, ?_⟩))
    go_region
    rw [andNot_pow _ _ (lowW_lt S _) (Nat.mod_lt _ (by decide)), ← lowW_clear]
    obtain ⟨w1, hw1⟩ : ∃ w1, w1 = (W.setCell { block := g, off := 65 + t / 64 } (Value.int IntKind.u64 (lowW (up S t false) (t / 64) : Nat))).drew := ⟨_, rfl⟩
    have B1 : w1.heap[g]? = some (.cells ((cells S).setIfInBounds (65 + t / 64) (Value.int IntKind.u64 (lowW (up S t false) (t / 64) : Nat))) 37 (0, 0)) := by rw [hw1]; exact blk_set HM.out _ _
    have F1 : Fr (fun k => k = g) W w1 := by rw [hw1]; exact ((Fr.refl (fun k => k = g) W).setCell (p := ⟨g, 65 + t / 64, none⟩) (.inl rfl) _).drew
    have hc1 : w1.cell? ⟨g, 1 + t / 64 / 64, none⟩ = some (.int .u64 (midW S (t / 64 / 64) : Nat)) := by
      rw [blk_cell B1, Array.getElem?_setIfInBounds_ne (by omega), ← blk_cell HM.out]
      exact HM.out.mid _ (by omega)
    have hc1b : w1.cell? ⟨g, 65 + t / 64, none⟩ = some (.int .u64 (lowW (up S t false) (t / 64) : Nat)) := by
      rw [blk_cell B1, Array.getElem?_setIfInBounds_self_of_lt (by rw [cells_size]; omega)]
    have HB1 := Aside0.mk B1
    have HF1 := Aside0.mk F1
    rw [← hw1]
    clear B1 F1 hw1 hc0 hf0
    go_wp2
    go_ret
    refine ⟨rfl, ?_, HF1.out⟩
    have h3 := HB1.out
    have h4 := cells_up S t false ht
    rw [N1.out, N2.out, set_same (i := 1 + t / 64 / 64) (by
      rw [Array.getElem?_setIfInBounds_ne (by omega), cells_at _ _ (by omega)]
      unfold cv cw
      rw [if_neg (by omega), if_pos (by omega), show 1 + t / 64 / 64 - 1 = t / 64 / 64 by omega]), set_same (i := 0) (by
      rw [Array.getElem?_setIfInBounds_ne (by omega), cells_at _ _ (by decide)]
      rfl)] at h4
    rw [h4] at h3
    exact h3
end Go.Proofs.YtgcelkndgjjbdaaDoor.PBm
