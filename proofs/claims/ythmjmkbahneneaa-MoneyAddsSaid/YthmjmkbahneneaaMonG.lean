/- MoneyAdds answers true, for any six words. -/
import Derived.Test.YthmjmkbahneneaaMonE
import Derived.Test.YthmjmkbahneneaaMonF
namespace Go.Proofs.Ythmjmkbahneneaa.PMon
open Go.RowKit Go.Proofs.YthmjmkbahneneaaW.PrintWords Go.Proofs.YthmjmkbahneneaaW.PrintLast Go.Proofs.YthmjmkbahneneaaW.PrintMore
set_option linter.unusedVariables false
set_option linter.unusedSimpArgs false

set_option maxRecDepth 100000 in
theorem adds_calls (a0 a1 b0 b1 c0 c1 : Int) (ha0 : 0 ≤ a0) (ha0' : a0 < 18446744073709551616) (ha1 : 0 ≤ a1) (ha1' : a1 < 18446744073709551616) (hb0 : 0 ≤ b0) (hb0' : b0 < 18446744073709551616) (hb1 : 0 ≤ b1) (hb1' : b1 < 18446744073709551616) (hc0 : 0 ≤ c0) (hc0' : c0 < 18446744073709551616) (hc1 : 0 ≤ c1) (hc1' : c1 < 18446744073709551616) (w : World) :
    Calls Try.prog 9 #[.agg #[.int .u64 a0, .int .u64 a1], .agg #[.int .u64 b0, .int .u64 b1], .agg #[.int .u64 c0, .int .u64 c1]] w fun e w' => e = .returned (.bool true) ∧ Below w.heap.size w w' := by
  have Fa := fun W => from_calls a0 a1 ha0 ha0' ha1 ha1' W
  have Fb := fun W => from_calls b0 b1 hb0 hb0' hb1 hb1' W
  have Fc := fun W => from_calls c0 c1 hc0 hc0' hc1 hc1' W
  have WA := wd_of a0 a1 ha0 ha0' ha1 ha1'
  have sx : Small (fwR a0 a1) := small_fwR a0 a1 ha0 ha0' ha1 ha1'
  have sy : Small (fwR b0 b1) := small_fwR b0 b1 hb0 hb0' hb1 hb1'
  have sz : Small (fwR c0 c1) := small_fwR c0 c1 hc0 hc0' hc1 hc1'
  obtain ⟨x, hx⟩ : ∃ x, x = fwR a0 a1 := ⟨_, rfl⟩
  obtain ⟨y, hy⟩ : ∃ y, y = fwR b0 b1 := ⟨_, rfl⟩
  obtain ⟨z, hz⟩ : ∃ z, z = fwR c0 c1 := ⟨_, rfl⟩
  rw [← hx] at Fa sx WA
  rw [← hy] at Fb sy
  rw [← hz] at Fc sz
  clear hx hy hz
  obtain ⟨s, hs⟩ : ∃ s, s = addR (x + y) := ⟨_, rfl⟩
  obtain ⟨p, hp⟩ : ∃ p, p = addR (s + z) := ⟨_, rfl⟩
  obtain ⟨q, hq⟩ : ∃ q, q = addR (y + z) := ⟨_, rfl⟩
  have ss : Small s := by rw [hs]; exact small_addR _
  have sp : Small p := by rw [hp]; exact small_addR _
  have sq : Small q := by rw [hq]; exact small_addR _
  have HXY : ∀ W, Calls Try.prog 34 #[M x, M y] W fun e w' => e = .returned (.tuple #[M s, .int .i64 (addE (x + y))]) ∧ Below W.heap.size W w' := fun W => by
    have := add_calls x y sx sy W; rwa [← hs] at this
  have HYX : ∀ W, Calls Try.prog 34 #[M y, M x] W fun e w' => e = .returned (.tuple #[M s, .int .i64 (addE (x + y))]) ∧ Below W.heap.size W w' := fun W => by
    have := add_calls y x sy sx W; rwa [Int.add_comm y x, ← hs] at this
  have HSB : addE (x + y) = 0 → ∀ W, Calls Try.prog 35 #[M s, M y] W fun e w' => e = .returned (.tuple #[M x, .int .i64 0]) ∧ Below W.heap.size W w' := fun h W => by
    have := sub_calls s y ss sy W
    rwa [show s - y = x by rw [hs, (addE_zero h).1]; omega, (addR_small sx).1, (addR_small sx).2] at this
  have HSZ : ∀ W, Calls Try.prog 34 #[M s, M z] W fun e w' => e = .returned (.tuple #[M p, .int .i64 (addE (s + z))]) ∧ Below W.heap.size W w' := fun W => by
    have := add_calls s z ss sz W; rwa [← hp] at this
  have HYZ : ∀ W, Calls Try.prog 34 #[M y, M z] W fun e w' => e = .returned (.tuple #[M q, .int .i64 (addE (y + z))]) ∧ Below W.heap.size W w' := fun W => by
    have := add_calls y z sy sz W; rwa [← hq] at this
  have HXQ : addE (x + y) = 0 → addE (y + z) = 0 → ∀ W, Calls Try.prog 34 #[M x, M q] W fun e w' => e = .returned (.tuple #[M p, .int .i64 (addE (s + z))]) ∧ Below W.heap.size W w' := fun h k W => by
    have := add_calls x q sx sq W
    rwa [show x + q = s + z by rw [hs, (addE_zero h).1, hq, (addE_zero k).1]; omega, ← hp] at this
  have HO : ∀ W, Calls Try.prog 34 #[M x, M (-x)] W fun e w' => e = .returned (.tuple #[M 0, .int .i64 0]) ∧ Below W.heap.size W w' := fun W => by
    have := add_calls x (-x) sx (small_neg sx) W
    rwa [show x + -x = 0 by omega] at this
  have HP : ∀ W, Calls Try.prog 24 #[.string (bs (text x))] W fun e w' => e = .returned (.tuple #[M x, .int .i64 0]) ∧ Below W.heap.size W w' := fun W => by
    have := parse_calls (text x) (text_len x sx) W
    rwa [(parseR_text x sx).1, (parseR_text x sx).2] at this
  have hsg : addE (x + y) = 0 → decide (0 < cmp s x) = decide (0 < sig y) := fun h => by
    rw [hs, (addE_zero h).1]; exact cmp_sig x y
  have hcn : IntKind.i64.wrap (-(cmp y x)) = cmp x y := cmp_neg x y
  have HCxy : ∀ W, Calls Try.prog 32 #[M x, M y] W fun e w' => e = .returned (.int .i64 (cmp x y)) ∧ Below W.heap.size W w' := fun W => comp_calls x y sx sy W
  have HCyx : ∀ W, Calls Try.prog 32 #[M y, M x] W fun e w' => e = .returned (.int .i64 (cmp y x)) ∧ Below W.heap.size W w' := fun W => comp_calls y x sy sx W
  have HCsx : ∀ W, Calls Try.prog 32 #[M s, M x] W fun e w' => e = .returned (.int .i64 (cmp s x)) ∧ Below W.heap.size W w' := fun W => comp_calls s x ss sx W
  have HSy : ∀ W, Calls Try.prog 36 #[M y] W fun e w' => e = .returned (.int .i64 (sig y)) ∧ Below W.heap.size W w' := fun W => sign_calls y sy W
  have HS0 : ∀ W, Calls Try.prog 36 #[M 0] W fun e w' => e = .returned (.int .i64 0) ∧ Below W.heap.size W w' := fun W => sign_calls 0 (by unfold Small; decide) W
  have HWA : ∀ W, (Op.equalIn 10000 38 (.agg #[.int .u64 (wd0 x), .int .u64 (wd1 x)]) (.agg #[.int .u64 a0, .int .u64 a1])).run Try.prog W = .ok (!(a0 == 9223372036854775808 && a1 == 0)) W := fun W => by
    rw [eq38, WA]
  have HZA : (a0 == 9223372036854775808 && a1 == 0) = true → ∀ W, (Op.equalIn 10000 38 (.agg #[.int .u64 a0, .int .u64 a1]) (.agg #[.int .u64 0, .int .u64 0])).run Try.prog W = .ok false W := fun h W => by
    simp only [Bool.and_eq_true, beq_iff_eq] at h
    obtain ⟨rfl, rfl⟩ := h
    rw [eq38]; rfl
  exact adds_walk a0 a1 b0 b1 c0 c1 (hiM x) (loM x) (hiM y) (loM y) (hiM z) (loM z) (hiM s) (loM s) (hiM p) (loM p) (hiM q) (loM q) (hiM (-x)) (loM (-x)) _ _ _ (addE (x + y)) (addE (s + z)) (addE (y + z)) (wd0 s) (wd1 s) (wd0 x) (wd1 x) (wd0 p) (wd1 p) (cmp x y) (cmp y x) (cmp s x) (sig y)
    (mnM x) (mnM y) (mnM z) (mnM s) (mnM p) (mnM q) (mnM (-x)) _ _ _ (bs (text x)) w
    ⟨Fa⟩ ⟨Fb⟩ ⟨Fc⟩ (fun W => eq38 W a0 a1 _ _) (fun W => eq38 W b0 b1 _ _) (fun W => eq38 W c0 c1 _ _) (k_of a0 a1) (k_of b0 b1) (k_of c0 c1)
    ⟨HXY⟩ ⟨HYX⟩ ⟨fun W => words_calls s ss W⟩ (eq_self38 _ _) ⟨HCxy⟩ ⟨HCyx⟩ hcn ⟨fun W => words_calls x sx W⟩ (eq_self38 _ _) ⟨HSB⟩ ⟨HCsx⟩ ⟨HSy⟩ ⟨hsg⟩ ⟨HSZ⟩ ⟨HYZ⟩ ⟨HXQ⟩
    ⟨fun W => words_calls p sp W⟩ (eq_self38 _ _) ⟨fun W => neg_calls x sx W⟩ ⟨HO⟩ ⟨fun W => text_calls x sx W⟩ ⟨HP⟩ ⟨HS0⟩ HWA ⟨HZA⟩
end Go.Proofs.Ythmjmkbahneneaa.PMon
