/- The lowest and the highest bit of a word: TrailingZeros64, Len64, up, down. -/
import Derived.Test.YtgcelkndgjjbdaaDoorBmE
import Derived.Shelf.Spec.TrailingZeros
import Derived.IntWalk
namespace Go.Proofs.YtgcelkndgjjbdaaDoor.PBm
open Go.RowKit Go.Proofs.YtgcelkndgjjbdaaDoorW.PrintWords Go.Proofs.YtgcelkndgjjbdaaDoorW.PrintLast Go.Proofs.YtgcelkndgjjbdaaDoorW.PrintMore
attribute [local go_sem] max_two min_two
set_option linter.unusedVariables false
set_option linter.unusedSimpArgs false

/-- The library's table lies in the first block. -/
def Tz (w : World) : Prop := ∀ j, j < 64 → w.cell? ⟨0, j, none⟩ = some (.int .u8 (Lib.deBruijn64tab.getD j 0))
theorem Tz.keep {w w' : World} (h : Tz w) (hk : w'.heap[0]? = w.heap[0]?) : Tz w' := fun j hj => (World.cell?_of_block (a := ⟨0, j, none⟩) hk).trans (h j hj)
theorem Tz.lt {w : World} (h : Tz w) : 0 < w.heap.size := block_lt_of_cell (h 0 (by decide))
theorem Tz.below {w w' : World} (h : Tz w) {B : Nat} (k : Below B w w') (hB : 0 < B) : Tz w' := h.keep (k.block 0 hB)

set_option maxHeartbeats 8000000 in
set_option maxRecDepth 100000 in
theorem tz_core (x k idx : Nat) (w : World) (hx0 : ((x : Int) == 0) = false)
    (key : IntKind.u64.wrap (Go.bits BinOp.and IntKind.u64 (x : Int) (IntKind.u64.wrap (-(x : Int))) * 285870213051353865) / 288230376151711744 = (idx : Int))
    (hi : idx < 64) (hk : k < 64) (hcell : w.cell? ⟨0, idx, none⟩ = some (.int .u8 k)) :
    Calls Tryd.prog 27 #[.int .u64 x] w fun e w' => e = .returned (.int .i64 k) ∧ w' = w := by
  go_enter Tryd.func27, Tryd.ntmps27
  go_wp2_with (simp only [key])
  go_ret
  exact ⟨rfl, rfl⟩

theorem tz_calls (x : Nat) (hx : x < 18446744073709551616) (hx0 : x ≠ 0) (w : World) (hT : Tz w) :
    Calls Tryd.prog 27 #[.int .u64 x] w fun e w' => e = .returned (.int .i64 (Lib.ctz 64 x)) ∧ w' = w := by
  obtain ⟨hlow, hk⟩ := Lib.lowest_bit 64 x hx0 hx
  obtain ⟨hi, htab⟩ := Lib.deBruijn64_at _ hk
  have hcell := hT _ hi
  rw [htab] at hcell
  exact tz_core x _ _ w (by simp; omega) (tz64_key x _ hx hx0 hlow) hi hk hcell

set_option maxHeartbeats 8000000 in
set_option maxRecDepth 100000 in
theorem tz_zero (w : World) : Calls Tryd.prog 27 #[.int .u64 0] w fun e w' => e = .returned (.int .i64 64) ∧ w' = w := by
  go_enter Tryd.func27, Tryd.ntmps27
  go_wp2
  go_ret
  exact ⟨rfl, rfl⟩

theorem odd_bit (k m : Nat) : (2 ^ k * (2 * m + 1)).testBit k = true ∧ ∀ b, b < k → (2 ^ k * (2 * m + 1)).testBit b = false := by
  constructor
  · rw [Nat.testBit_two_pow_mul]
    simp
  · intro b hb
    rw [Nat.testBit_two_pow_mul]
    have : ¬ b ≥ k := by omega
    simp [this]

theorem ctz_spec {f : Nat → Bool} (h : wd f ≠ 0) : Lib.ctz 64 (wd f) < 64 ∧ f (Lib.ctz 64 (wd f)) = true ∧ ∀ b, b < Lib.ctz 64 (wd f) → f b = false := by
  unfold Lib.ctz
  rw [if_neg h]
  obtain ⟨m, hm, hk⟩ := Lib.ctzFrom_spec 64 (wd f) (by omega) (wd_lt f)
  generalize Lib.ctzFrom 64 (wd f) = k at hm hk
  obtain ⟨h1, h2⟩ := odd_bit k m
  rw [← hm] at h1 h2
  refine ⟨hk, ?_, fun b hb => ?_⟩
  · rw [wd_bit] at h1
    simpa [hk] using h1
  · have := h2 b hb
    rw [wd_bit] at this
    have hb2 : b < 64 := by omega
    simpa [hb2] using this

theorem bitLen_spec : ∀ (n x : Nat), x < 2 ^ n → n ≤ 64 → x ≠ 0 → 0 < Lib.bitLen x ∧ 2 ^ (Lib.bitLen x - 1) ≤ x ∧ x < 2 ^ Lib.bitLen x
  | 0, x, hx, _, h0 => by simp at hx; omega
  | n + 1, x, hx, hn, h0 => by
    have h64 : x < 2 ^ 64 := Nat.lt_of_lt_of_le hx (Nat.pow_le_pow_right (by decide) hn)
    rw [Lib.bitLen_half x h0 h64]
    by_cases h1 : x / 2 = 0
    · have hx1 : x = 1 := by omega
      subst hx1
      have : Lib.bitLen (1 / 2) = 0 := by decide
      rw [this]
      decide
    · obtain ⟨i1, i2, i3⟩ := bitLen_spec n (x / 2) (by rw [Nat.pow_succ] at hx; omega) (by omega) h1
      generalize Lib.bitLen (x / 2) = L at i1 i2 i3
      obtain ⟨L', rfl⟩ : ∃ L', L = L' + 1 := ⟨L - 1, by omega⟩
      refine ⟨by omega, ?_, ?_⟩
      · rw [show 1 + (L' + 1) - 1 = L' + 1 by omega, Nat.pow_succ]
        simp only [Nat.add_sub_cancel] at i2
        omega
      · rw [show 1 + (L' + 1) = (L' + 1) + 1 by omega, Nat.pow_succ]
        omega

theorem len_spec {f : Nat → Bool} (h : wd f ≠ 0) : 0 < Lib.bitLen (wd f) ∧ Lib.bitLen (wd f) ≤ 64 ∧ f (Lib.bitLen (wd f) - 1) = true ∧ ∀ b, Lib.bitLen (wd f) ≤ b → b < 64 → f b = false := by
  obtain ⟨h1, h2, h3⟩ := bitLen_spec 64 (wd f) (wd_lt f) (by decide) h
  generalize hL : Lib.bitLen (wd f) = L at h1 h2 h3
  obtain ⟨k, rfl⟩ : ∃ k, L = k + 1 := ⟨L - 1, by omega⟩
  simp only [Nat.add_sub_cancel] at h2 ⊢
  have hk : k < 64 := by
    apply Nat.lt_of_not_le
    intro hle
    have : 2 ^ 64 ≤ 2 ^ k := Nat.pow_le_pow_right (by decide) hle
    have := wd_lt f
    omega
  have hb : (wd f).testBit k = true := by
    rw [Nat.testBit_eq_decide_div_mod_eq]
    have : wd f / 2 ^ k = 1 := by
      rw [Nat.pow_succ] at h3
      apply Nat.div_eq_of_lt_le
      · omega
      · omega
    rw [this]
    rfl
  refine ⟨by omega, by omega, ?_, fun b hb1 hb2 => ?_⟩
  · rw [wd_bit] at hb
    simpa [hk] using hb
  · have : wd f < 2 ^ b := Nat.lt_of_lt_of_le h3 (Nat.pow_le_pow_right (by decide) hb1)
    have h5 := Nat.testBit_lt_two_pow this
    rw [wd_bit] at h5
    simpa [hb2] using h5

set_option maxHeartbeats 8000000 in
set_option maxRecDepth 100000 in
theorem len64_calls (x : Nat) (hx : x < 18446744073709551616) (w : World) :
    Calls Tryd.prog 32 #[.int .u64 (x : Int)] w fun e w' => e = .returned (.int .i64 (Lib.bitLen x : Int)) ∧ w' = w := by
  obtain ⟨a0, ha⟩ : ∃ a0 : Int, a0 = (x : Int) := ⟨_, rfl⟩
  have h0 : 0 ≤ a0 := by omega
  have h1 : a0 ≤ 18446744073709551615 := by omega
  have e : Lib.bitLen x = Lib.bitLen a0.toNat := by rw [ha, Int.toNat_natCast]
  rw [e, ← ha]
  clear e ha hx
  have hsz : Lib.len8tab.size = 256 := by decide +kernel
  go_enter Tryd.func32, Tryd.ntmps32
  go_wp2
  all_goals (go_ret; refine ⟨congrArg Ending.returned (congrArg (Value.int IntKind.i64) ?_), rfl⟩)
  · exact bits_Len64.top _ _ 56 _ (by omega) (by omega) (bits_Len64.cut 56 _ _ (by omega) h1 (by omega))
  · exact bits_Len64.top _ _ 48 _ (by omega) (by omega) (bits_Len64.cut 48 _ _ (by omega) h1 (by omega))
  · exact bits_Len64.top _ _ 40 _ (by omega) (by omega) (bits_Len64.cut 40 _ _ (by omega) h1 (by omega))
  · exact bits_Len64.top _ _ 32 _ (by omega) (by omega) (bits_Len64.cut 32 _ _ (by omega) h1 (by omega))
  · exact bits_Len64.top _ _ 24 _ (by omega) (by omega) (bits_Len64.cut 24 _ _ (by omega) h1 (by omega))
  · exact bits_Len64.top _ _ 16 _ (by omega) (by omega) (bits_Len64.cut 16 _ _ (by omega) h1 (by omega))
  · exact bits_Len64.top _ _ 8 _ (by omega) (by omega) (bits_Len64.cut 8 _ _ (by omega) h1 (by omega))
  · exact bits_Len64.bot _ _ (by omega)

/-- The least bit at or above one. -/
def UpR (f : Nat → Bool) (b k : Nat) (is : Bool) : Prop :=
  (is = true ∧ k < 64 ∧ b ≤ k ∧ f k = true ∧ ∀ x, b ≤ x → x < k → f x = false) ∨ (is = false ∧ ∀ x, b ≤ x → x < 64 → f x = false)
def DnR (f : Nat → Bool) (b : Int) (k : Int) (is : Bool) : Prop :=
  (is = true ∧ 0 ≤ k ∧ k < 64 ∧ k ≤ b ∧ f k.toNat = true ∧ ∀ x : Nat, k < x → (x : Int) ≤ b → x < 64 → f x = false) ∨ (is = false ∧ ∀ x : Nat, (x : Int) ≤ b → x < 64 → f x = false)

theorem mask_lo (k : Nat) (hk : k ≤ 63) : (18446744073709551615 : Int) / 2 ^ (63 - k) = ((wd (fun b => decide (b ≤ k)) : Nat) : Int) := by
  have hp : 2 ^ (k + 1) ≤ 18446744073709551616 := Nat.pow_le_pow_right (by decide : 0 < 2) (show k + 1 ≤ 64 by omega)
  have hp0 : 0 < 2 ^ (k + 1) := Nat.pow_pos (by decide)
  have e : wd (fun b => decide (b ≤ k)) = 2 ^ (k + 1) - 1 := by
    apply Nat.eq_of_testBit_eq
    intro b
    rw [wd_bit, Nat.testBit_two_pow_sub_one]
    by_cases h : b < k + 1
    · have h2 : b < 64 := by omega
      have h3 : b ≤ k := by omega
      simp [h2, h3]
      omega
    · have h3 : ¬ b ≤ k := by omega
      simp [h3, h]
  rw [e]
  have e2 : (18446744073709551615 : Nat) / 2 ^ (63 - k) = 2 ^ (k + 1) - 1 := by
    have h64 : (2 : Nat) ^ 64 = 2 ^ (63 - k) * 2 ^ (k + 1) := by rw [← Nat.pow_add]; congr 1; omega
    have hq : 0 < 2 ^ (63 - k) := Nat.pow_pos (by decide)
    apply Nat.div_eq_of_lt_le
    · rw [Nat.mul_comm, Nat.mul_sub, Nat.mul_one, ← h64]
      omega
    · rw [Nat.sub_add_cancel hp0, Nat.mul_comm, ← h64]
      decide
  rw [← e2, Int.natCast_ediv]
  simp

set_option maxHeartbeats 8000000 in
set_option maxRecDepth 100000 in
theorem up_calls (f : Nat → Bool) (b : Nat) (hb : b ≤ 64) : ∃ (k : Nat) (is : Bool), UpR f b k is ∧
    ∀ w, Tz w → Calls Tryd.prog 28 #[.int .u64 (wd f : Nat), .int .i64 (b : Int)] w fun e w' => e = .returned (.tuple #[.int .i64 (k : Int), .bool is]) ∧ w' = w := by
  by_cases h1 : b = 64
  · refine ⟨0, false, .inr ⟨rfl, fun x h2 h3 => by omega⟩, fun w hT => ?_⟩
    have hbI : (63 : Int) < (b : Int) := by omega
    clear hb h1
    go_enter Tryd.func28, Tryd.ntmps28
    go_wp2
    go_ret2
    exact ⟨rfl, rfl⟩
  · have hb2 : b < 64 := by omega
    have hbI : ¬ (63 : Int) < (b : Int) := by omega
    have hm := mask_up b hb2
    have ha := and_wd f (fun x => decide (b ≤ x))
    obtain ⟨g, hg⟩ : ∃ g : Nat → Bool, g = fun x => f x && decide (b ≤ x) := ⟨_, rfl⟩
    rw [← hg] at ha
    by_cases h0 : wd g = 0
    · refine ⟨64, false, .inr ⟨rfl, fun x h2 h3 => ?_⟩, fun w hT => ?_⟩
      · have := wd_zero.mp h0 x h3
        rw [hg] at this
        simpa [h2] using this
      · rw [h0] at ha
        have hmx : Builtin.max2 (.int .i64 (b : Int)) (.int .i64 0) = pure (.int .i64 (b : Int)) := by rw [max2_int, if_neg (by omega)]
        have TZ := Aside0.mk (tz_zero w)
        have HT := Aside0.mk hT
        clear hg h0 hT
        go_enter Tryd.func28, Tryd.ntmps28
        go_wp2_with (first | (go_at_call 27; (with_reducible refine (TZ.out).mono ?_); rintro e w4 ⟨rfl, h4⟩; subst w4))
        go_ret2
        exact ⟨rfl, rfl⟩
    · obtain ⟨c1, c2, c3⟩ := ctz_spec h0
      refine ⟨Lib.ctz 64 (wd g), true, .inl ⟨rfl, c1, ?_, ?_, fun x h2 h3 => ?_⟩, fun w hT => ?_⟩
      · rw [hg] at c2
        simp only [Bool.and_eq_true, decide_eq_true_eq] at c2
        rw [hg]
        exact c2.2
      · rw [hg] at c2
        simp only [Bool.and_eq_true, decide_eq_true_eq] at c2
        rw [hg]
        exact c2.1
      · have := c3 x h3
        rw [hg] at this
        simpa [h2] using this
      · have hmx : Builtin.max2 (.int .i64 (b : Int)) (.int .i64 0) = pure (.int .i64 (b : Int)) := by rw [max2_int, if_neg (by omega)]
        have TZ := Aside0.mk (tz_calls (wd g) (wd_lt g) h0 w hT)
        obtain ⟨v, hv⟩ : ∃ v, v = wd g := ⟨_, rfl⟩
        rw [← hv] at TZ ha ⊢
        have z1 : ((v : Int) != 0) = true := bne_iff_ne.mpr (by omega)
        obtain ⟨k, hk⟩ : ∃ k, k = Lib.ctz 64 v := ⟨_, rfl⟩
        rw [← hk] at TZ ⊢
        clear hg h0 hT c1 c2 c3 hv hk
        go_enter Tryd.func28, Tryd.ntmps28
        go_wp2_with (first | (go_at_call 27; (with_reducible refine (TZ.out).mono ?_); rintro e w4 ⟨rfl, h4⟩; subst w4))
        go_ret2
        exact ⟨rfl, rfl⟩

set_option maxHeartbeats 8000000 in
set_option maxRecDepth 100000 in
theorem down_calls (f : Nat → Bool) (b : Int) (hb : -1 ≤ b) (hb2 : b ≤ 63) : ∃ (k : Int) (is : Bool), DnR f b k is ∧
    ∀ w, Calls Tryd.prog 30 #[.int .u64 (wd f : Nat), .int .i64 b] w fun e w' => e = .returned (.tuple #[.int .i64 k, .bool is]) ∧ w' = w := by
  by_cases h1 : b < 0
  · refine ⟨0, false, .inr ⟨rfl, fun x h2 h3 => by omega⟩, fun w => ?_⟩
    clear hb hb2
    go_enter Tryd.func30, Tryd.ntmps30
    go_wp2
    go_ret2
    exact ⟨rfl, rfl⟩
  · obtain ⟨n, rfl⟩ : ∃ n : Nat, b = n := ⟨b.toNat, by omega⟩
    have hn : n ≤ 63 := by omega
    have hm := mask_lo n hn
    have ha := and_wd f (fun x => decide (x ≤ n))
    have hmn : Builtin.min2 (.int .i64 (n : Int)) (.int .i64 63) = pure (.int .i64 (n : Int)) := by rw [min2_int, if_neg (by omega)]
    have hsub : ((63 : Int) - (n : Int)).toNat = 63 - n := by omega
    obtain ⟨g, hg⟩ : ∃ g : Nat → Bool, g = fun x => f x && decide (x ≤ n) := ⟨_, rfl⟩
    rw [← hg] at ha
    have hlen := bitLen_spec
    by_cases h0 : wd g = 0
    · refine ⟨-1, false, .inr ⟨rfl, fun x h2 h3 => ?_⟩, fun w => ?_⟩
      · have := wd_zero.mp h0 x h3
        rw [hg] at this
        have h4 : x ≤ n := by omega
        simpa [h4] using this
      · have hz0 := len64_calls 0 (by decide) w
        have e0 : Lib.bitLen 0 = 0 := by decide
        rw [e0] at hz0
        have TZ : Aside0 (Calls Tryd.prog 32 #[.int .u64 0] w fun e w' => e = .returned (.int .i64 0) ∧ w' = w) := ⟨hz0⟩
        rw [h0] at ha
        clear hz0
        clear hg h0 hlen e0
        go_enter Tryd.func30, Tryd.ntmps30
        go_wp2_with (first | (go_at_call 32; (with_reducible refine (TZ.out).mono ?_); rintro e w4 ⟨rfl, h4⟩; subst w4))
        go_ret2
        exact ⟨rfl, rfl⟩
    · obtain ⟨c1, c2, c3, c4⟩ := len_spec h0
      obtain ⟨k, hk⟩ : ∃ k, Lib.bitLen (wd g) = k + 1 := ⟨Lib.bitLen (wd g) - 1, by omega⟩
      rw [hk] at c2 c3 c4
      simp only [Nat.add_sub_cancel] at c3
      have c5 : f k = true ∧ k ≤ n := by
        rw [hg] at c3
        simpa using c3
      refine ⟨(k : Int), true, .inl ⟨rfl, by omega, by omega, by omega, by rw [Int.toNat_natCast]; exact c5.1, fun x h2 h3 h4 => ?_⟩, fun w => ?_⟩
      · have := c4 x (by omega) h4
        rw [hg] at this
        have h5 : x ≤ n := by omega
        simpa [h5] using this
      · have TZ := Aside0.mk (len64_calls (wd g) (wd_lt g) w)
        rw [hk] at TZ
        obtain ⟨v, hv⟩ : ∃ v, v = wd g := ⟨_, rfl⟩
        rw [← hv] at TZ ha h0
        have z1 : ((v : Int) != 0) = true := bne_iff_ne.mpr (by omega)
        have hk6 : k ≤ 63 := by omega
        clear hg h0 hlen hk c1 c2 c3 c4 c5 hv
        go_enter Tryd.func30, Tryd.ntmps30
        go_wp2_with (first | (go_at_call 32; (with_reducible refine (TZ.out).mono ?_); rintro e w4 ⟨rfl, h4⟩; subst w4))
        go_ret2
        exact ⟨rfl, rfl⟩
end Go.Proofs.YtgcelkndgjjbdaaDoor.PBm
