/- Words of 64 bits; sets of ticks in three levels. Plain numbers, no program. -/
import Derived.Below
namespace Go.Proofs.YtgcelkndgjjbdaaDoor.PBm
set_option linter.unusedVariables false

/-- The word of the first n bits. -/
def wdn (f : Nat → Bool) : Nat → Nat
  | 0 => 0
  | n + 1 => wdn f n + (if f n then 2 ^ n else 0)

theorem wdn_lt (f : Nat → Bool) : ∀ n, wdn f n < 2 ^ n
  | 0 => by simp [wdn]
  | n + 1 => by
    have := wdn_lt f n
    simp only [wdn]
    rw [Nat.pow_succ]
    split <;> omega

theorem wdn_bit (f : Nat → Bool) : ∀ n b, (wdn f n).testBit b = (decide (b < n) && f b)
  | 0, b => by simp [wdn]
  | n + 1, b => by
    have ih := wdn_bit f n b
    have hlt := wdn_lt f n
    have e : wdn f (n + 1) = 2 ^ n * (if f n then 1 else 0) + wdn f n := by
      simp only [wdn]
      split <;> omega
    rw [e, Nat.testBit_two_pow_mul_add _ hlt, ih]
    by_cases h1 : b < n
    · rw [if_pos h1]
      have : b < n + 1 := by omega
      simp [h1, this]
    · rw [if_neg h1]
      by_cases h2 : b = n
      · subst h2
        cases f b <;> simp
      · have h3 : ¬ b < n + 1 := by omega
        have h4 : b - n ≠ 0 := by omega
        obtain ⟨k, hk⟩ : ∃ k, b - n = k + 1 := ⟨b - n - 1, by omega⟩
        rw [hk]
        cases f n <;> simp [h3, Nat.testBit_succ]

def wd (f : Nat → Bool) : Nat := wdn f 64
theorem wd_lt (f : Nat → Bool) : wd f < 18446744073709551616 := wdn_lt f 64
theorem wd_bit (f : Nat → Bool) (b : Nat) : (wd f).testBit b = (decide (b < 64) && f b) := wdn_bit f 64 b

theorem wd_ext {f g : Nat → Bool} (h : ∀ b, b < 64 → f b = g b) : wd f = wd g := by
  apply Nat.eq_of_testBit_eq
  intro b
  rw [wd_bit, wd_bit]
  by_cases hb : b < 64
  · simp [hb, h b hb]
  · simp [hb]

theorem wd_inj {f g : Nat → Bool} (h : wd f = wd g) (b : Nat) (hb : b < 64) : f b = g b := by
  have := congrArg (fun x => Nat.testBit x b) h
  simp only [wd_bit, hb, decide_true, Bool.true_and] at this
  exact this

theorem wd_none : wd (fun _ => false) = 0 := by
  apply Nat.eq_of_testBit_eq
  intro b
  rw [wd_bit]
  simp

theorem wd_zero {f : Nat → Bool} : wd f = 0 ↔ ∀ b, b < 64 → f b = false := by
  constructor
  · intro h b hb
    rw [← wd_none] at h
    exact wd_inj h b hb
  · intro h
    rw [← wd_none]
    exact wd_ext h

theorem wd_pos {f : Nat → Bool} {b : Nat} (hb : b < 64) (h : f b = true) : wd f ≠ 0 := fun e => by
  have := wd_zero.mp e b hb
  rw [h] at this
  cases this

theorem wd_nat {x : Nat} (h : x < 18446744073709551616) : wd (fun b => x.testBit b) = x := by
  apply Nat.eq_of_testBit_eq
  intro b
  rw [wd_bit]
  by_cases hb : b < 64
  · simp [hb]
  · have : x < 2 ^ b := Nat.lt_of_lt_of_le h (show 2 ^ 64 ≤ 2 ^ b from Nat.pow_le_pow_right (by decide) (show 64 ≤ b by omega))
    simp [hb, Nat.testBit_lt_two_pow this]

theorem wd_or (f : Nat → Bool) (b : Nat) (hb : b < 64) : wd f ||| 2 ^ b = wd (fun x => f x || x == b) := by
  apply Nat.eq_of_testBit_eq
  intro x
  rw [Nat.testBit_or, wd_bit, wd_bit, Nat.testBit_two_pow]
  by_cases h1 : x = b
  · subst h1
    simp [hb]
  · have h2 : ¬ b = x := fun e => h1 e.symm
    have h5 : (x == b) = false := by simpa using h1
    by_cases h3 : x < 64 <;> simp [h2, h3, h5]

theorem allOnes_bit (x : Nat) (b : Nat) (h : x < 18446744073709551616) : (18446744073709551615 - x).testBit b = (decide (b < 64) && !x.testBit b) := by
  have := Nat.testBit_two_pow_sub_succ (x := x) (n := 64) h b
  rw [show (18446744073709551615 - x : Nat) = 2 ^ 64 - (x + 1) by omega]
  exact this

theorem wd_andNot (f : Nat → Bool) (b : Nat) (hb : b < 64) : wd f &&& (18446744073709551615 - 2 ^ b) = wd (fun x => f x && x != b) := by
  have hp : 2 ^ b < 18446744073709551616 := Nat.pow_lt_pow_right (by decide : 1 < 2) hb
  apply Nat.eq_of_testBit_eq
  intro x
  rw [Nat.testBit_and, wd_bit, wd_bit, allOnes_bit _ _ hp, Nat.testBit_two_pow]
  by_cases h1 : x = b
  · subst h1
    simp [hb]
  · have h2 : ¬ b = x := fun e => h1 e.symm
    by_cases h3 : x < 64 <;> simp [h1, h2, h3]

theorem wd_at (f : Nat → Bool) (b : Nat) (hb : b < 64) : wd f / 2 ^ b % 2 = if f b then 1 else 0 := by
  have h := wd_bit f b
  rw [Nat.testBit_eq_decide_div_mod_eq] at h
  simp only [hb, decide_true, Bool.true_and] at h
  have h2 : wd f / 2 ^ b % 2 < 2 := Nat.mod_lt _ (by decide)
  cases hf : f b
  · rw [hf] at h
    have := of_decide_eq_false h
    simp
    omega
  · rw [hf] at h
    have := of_decide_eq_true h
    simpa using this

/-! ## Three levels -/
abbrev St := Nat → Bool
def lowW (S : St) (i : Nat) : Nat := wd fun b => S (64 * i + b)
def midW (S : St) (j : Nat) : Nat := wd fun b => lowW S (64 * j + b) != 0
def topW (S : St) : Nat := wd fun j => midW S j != 0

theorem lowW_lt (S : St) (i : Nat) : lowW S i < 18446744073709551616 := wd_lt _
theorem midW_lt (S : St) (i : Nat) : midW S i < 18446744073709551616 := wd_lt _
theorem topW_lt (S : St) : topW S < 18446744073709551616 := wd_lt _

/-- A set with a tick turned. -/
def up (S : St) (t : Nat) (v : Bool) : St := fun x => if x = t then v else S x

theorem up_self (S : St) (t : Nat) (v : Bool) : up S t v t = v := by simp [up]
theorem up_ne (S : St) {t x : Nat} (v : Bool) (h : x ≠ t) : up S t v x = S x := by simp [up, h]

theorem lowW_up_ne (S : St) (t i : Nat) (v : Bool) (h : i ≠ t / 64) : lowW (up S t v) i = lowW S i := by
  apply wd_ext
  intro b hb
  rw [up_ne]
  omega

theorem lowW_set (S : St) (t : Nat) : lowW (up S t true) (t / 64) = lowW S (t / 64) ||| 2 ^ (t % 64) := by
  unfold lowW
  rw [wd_or _ _ (Nat.mod_lt _ (by decide))]
  apply wd_ext
  intro b hb
  by_cases h : b = t % 64
  · subst h
    rw [show 64 * (t / 64) + t % 64 = t by omega, up_self]
    simp
  · rw [up_ne _ _ (by omega)]
    simp [h]

theorem lowW_clear (S : St) (t : Nat) : lowW (up S t false) (t / 64) = lowW S (t / 64) &&& (18446744073709551615 - 2 ^ (t % 64)) := by
  unfold lowW
  rw [wd_andNot _ _ (Nat.mod_lt _ (by decide))]
  apply wd_ext
  intro b hb
  by_cases h : b = t % 64
  · subst h
    rw [show 64 * (t / 64) + t % 64 = t by omega, up_self]
    simp
  · rw [up_ne _ _ (by omega)]
    simp [h]

theorem midW_up_ne (S : St) (t j : Nat) (v : Bool) (h : j ≠ t / 64 / 64) : midW (up S t v) j = midW S j := by
  apply wd_ext
  intro b hb
  rw [lowW_up_ne]
  omega

theorem midW_set (S : St) (t : Nat) : midW (up S t true) (t / 64 / 64) = midW S (t / 64 / 64) ||| 2 ^ (t / 64 % 64) := by
  unfold midW
  rw [wd_or _ _ (Nat.mod_lt _ (by decide))]
  apply wd_ext
  intro b hb
  by_cases h : b = t / 64 % 64
  · subst h
    rw [show 64 * (t / 64 / 64) + t / 64 % 64 = t / 64 by omega]
    have : lowW (up S t true) (t / 64) ≠ 0 := wd_pos (Nat.mod_lt t (by decide)) (by rw [show 64 * (t / 64) + t % 64 = t by omega, up_self])
    simp [this]
  · rw [lowW_up_ne _ _ _ _ (by omega)]
    simp [h]

theorem midW_clear (S : St) (t : Nat) : midW (up S t false) (t / 64 / 64) = if lowW (up S t false) (t / 64) = 0 then midW S (t / 64 / 64) &&& (18446744073709551615 - 2 ^ (t / 64 % 64)) else midW S (t / 64 / 64) ||| 2 ^ (t / 64 % 64) := by
  split
  · rename_i h0
    unfold midW
    rw [wd_andNot _ _ (Nat.mod_lt _ (by decide))]
    apply wd_ext
    intro b hb
    by_cases h : b = t / 64 % 64
    · subst h
      rw [show 64 * (t / 64 / 64) + t / 64 % 64 = t / 64 by omega, h0]
      simp
    · rw [lowW_up_ne _ _ _ _ (by omega)]
      simp [h]
  · rename_i h0
    unfold midW
    rw [wd_or _ _ (Nat.mod_lt _ (by decide))]
    apply wd_ext
    intro b hb
    by_cases h : b = t / 64 % 64
    · subst h
      rw [show 64 * (t / 64 / 64) + t / 64 % 64 = t / 64 by omega]
      simp [h0]
    · rw [lowW_up_ne _ _ _ _ (by omega)]
      simp [h]

theorem topW_set (S : St) (t : Nat) (ht : t < 262144) : topW (up S t true) = topW S ||| 2 ^ (t / 64 / 64) := by
  unfold topW
  rw [wd_or _ _ (by omega)]
  apply wd_ext
  intro b hb
  by_cases h : b = t / 64 / 64
  · subst h
    have : midW (up S t true) (t / 64 / 64) ≠ 0 := wd_pos (Nat.mod_lt (t / 64) (by decide)) (by
      rw [show 64 * (t / 64 / 64) + t / 64 % 64 = t / 64 by omega]
      have : lowW (up S t true) (t / 64) ≠ 0 := wd_pos (Nat.mod_lt t (by decide)) (by rw [show 64 * (t / 64) + t % 64 = t by omega, up_self])
      simp [this])
    simp [this]
  · rw [midW_up_ne _ _ _ _ h]
    simp [h]

theorem topW_clear (S : St) (t : Nat) (ht : t < 262144) : topW (up S t false) = if midW (up S t false) (t / 64 / 64) = 0 then topW S &&& (18446744073709551615 - 2 ^ (t / 64 / 64)) else topW S ||| 2 ^ (t / 64 / 64) := by
  split
  · rename_i h0
    unfold topW
    rw [wd_andNot _ _ (by omega)]
    apply wd_ext
    intro b hb
    by_cases h : b = t / 64 / 64
    · subst h
      rw [h0]
      simp
    · rw [midW_up_ne _ _ _ _ h]
      simp [h]
  · rename_i h0
    unfold topW
    rw [wd_or _ _ (by omega)]
    apply wd_ext
    intro b hb
    by_cases h : b = t / 64 / 64
    · subst h
      simp [h0]
    · rw [midW_up_ne _ _ _ _ h]
      simp [h]

/-- What is there stands in the words above it. -/
theorem low_ne {S : St} {t : Nat} (h : S t = true) : lowW S (t / 64) ≠ 0 :=
  wd_pos (Nat.mod_lt t (by decide)) (by rw [show 64 * (t / 64) + t % 64 = t by omega]; exact h)
theorem mid_ne {S : St} {t : Nat} (h : S t = true) : midW S (t / 64 / 64) ≠ 0 :=
  wd_pos (Nat.mod_lt (t / 64) (by decide)) (by rw [show 64 * (t / 64 / 64) + t / 64 % 64 = t / 64 by omega]; simp [low_ne h])

theorem or_same {f : Nat → Bool} {b : Nat} (hb : b < 64) (h : f b = true) : wd f ||| 2 ^ b = wd f := by
  rw [wd_or _ _ hb]
  apply wd_ext
  intro x hx
  by_cases e : x = b
  · subst e; simp [h]
  · simp [e]

/-- Clearing what is there: the words above stay if the words below are not 0. -/
theorem midW_clear' {S : St} {t : Nat} (h : S t = true) : midW (up S t false) (t / 64 / 64) = if lowW (up S t false) (t / 64) = 0 then midW S (t / 64 / 64) &&& (18446744073709551615 - 2 ^ (t / 64 % 64)) else midW S (t / 64 / 64) := by
  rw [midW_clear]
  split
  · rfl
  · exact or_same (Nat.mod_lt _ (by decide)) (by rw [show 64 * (t / 64 / 64) + t / 64 % 64 = t / 64 by omega]; simp [low_ne h])
theorem topW_clear' {S : St} {t : Nat} (h : S t = true) (ht : t < 262144) : topW (up S t false) = if midW (up S t false) (t / 64 / 64) = 0 then topW S &&& (18446744073709551615 - 2 ^ (t / 64 / 64)) else topW S := by
  rw [topW_clear _ _ ht]
  split
  · rfl
  · exact or_same (by omega) (by simp [mid_ne h])

theorem low_at (S : St) (t : Nat) : lowW S (t / 64) / 2 ^ (t % 64) % 2 = if S t then 1 else 0 := by
  unfold lowW
  rw [wd_at _ _ (Nat.mod_lt _ (by decide)), show 64 * (t / 64) + t % 64 = t by omega]

/-- The words of two sets are the same just where the sets are. -/
theorem low_inj {S T : St} (h : ∀ i, i < 4096 → lowW S i = lowW T i) (t : Nat) (ht : t < 262144) : S t = T t := by
  have := wd_inj (h (t / 64) (by omega)) (t % 64) (Nat.mod_lt _ (by decide))
  rw [show 64 * (t / 64) + t % 64 = t by omega] at this
  exact this
theorem low_ext {S T : St} (h : ∀ t, t < 262144 → S t = T t) (i : Nat) (hi : i < 4096) : lowW S i = lowW T i :=
  wd_ext fun b hb => h _ (by omega)
theorem mid_ext {S T : St} (h : ∀ t, t < 262144 → S t = T t) (i : Nat) (hi : i < 64) : midW S i = midW T i :=
  wd_ext fun b hb => by rw [low_ext h _ (by omega)]
theorem top_ext {S T : St} (h : ∀ t, t < 262144 → S t = T t) : topW S = topW T :=
  wd_ext fun b hb => by rw [mid_ext h _ hb]
end Go.Proofs.YtgcelkndgjjbdaaDoor.PBm
