/- MonP, struck of what this claim does not name (wip/tools/pack2.py). -/
import Derived.Lib.EndianBits
import Derived.Test.YthmjmkbahneneaaZa19
section
namespace Go.Proofs.Ythmjmkbahneneaa.PMon
open Go.RowKit Go.Proofs.YthmjmkbahneneaaW.PrintWords Go.Proofs.YthmjmkbahneneaaW.PrintLast Go.Proofs.YthmjmkbahneneaaW.PrintMore
set_option linter.unusedVariables false
set_option linter.unusedSimpArgs false

def hiM (v : Int) : Int := ((v.natAbs / 18446744073709551616 : Nat) : Int)
def loM (v : Int) : Int := ((v.natAbs % 18446744073709551616 : Nat) : Int)
def mnM (v : Int) : Bool := decide (v < 0)
def Small (v : Int) : Prop := v.natAbs < 170141183460469231731687303715884105728

theorem or_zero {a b : Nat} (ha : a < 18446744073709551616) (hb : b < 18446744073709551616) : (Go.bits .or .u64 (a : Int) (b : Int) != 0) = decide (a ≠ 0 ∨ b ≠ 0) := by
  have e : Go.bits .or .u64 (a : Int) (b : Int) = ((a ||| b : Nat) : Int) := (bits_nat .u64 64 (by decide) wraps_u64 a b (by omega) (by omega)).2
  rw [e]
  by_cases h : a = 0 ∧ b = 0
  · obtain ⟨rfl, rfl⟩ := h
    rfl
  · have h1 : (a ||| b) ≠ 0 := fun h2 => h (Nat.or_eq_zero_iff.mp h2)
    rw [decide_eq_true (by omega)]
    simp only [bne_iff_ne]
    omega

theorem made_f (n : Nat) (s : Bool) (hn : n < 340282366920938463463374607431768211456) :
    num_made.f ((n / 18446744073709551616 : Nat) : Int) ((n % 18446744073709551616 : Nat) : Int) s = if n < 170141183460469231731687303715884105728 then some (((n / 18446744073709551616 : Nat) : Int), ((n % 18446744073709551616 : Nat) : Int), s && decide (n ≠ 0), 0) else some (0, 0, false, 10) := by
  unfold num_made.f
  by_cases h : n < 170141183460469231731687303715884105728
  · rw [if_neg (by omega), if_pos h]
    cases s with
    | true =>
      rw [if_pos rfl, or_zero (by omega) (by omega)]
      have e : decide (n / 18446744073709551616 ≠ 0 ∨ n % 18446744073709551616 ≠ 0) = decide (n ≠ 0) := decide_eq_decide.mpr (by omega)
      rw [e]
      rfl
    | false => rfl
  · rw [if_pos (by omega), if_neg h]

theorem add64 (a b : Nat) (c : Nat) (hc : c ≤ 1) : bits_Add64.f (a : Int) (b : Int) (c : Int) = some ((((a + b + c) % 18446744073709551616 : Nat) : Int), (((a + b + c) / 18446744073709551616 : Nat) : Int)) := by
  unfold bits_Add64.f
  rw [if_pos (by omega)]
  simp
theorem sub64 (a b : Nat) (c : Nat) (hc : c ≤ 1) : bits_Sub64.f (a : Int) (b : Int) (c : Int) = some ((((a + 18446744073709551616 - b - c) % 18446744073709551616 : Nat) : Int), ((if a < b + c then 1 else 0 : Nat) : Int)) := by
  unfold bits_Sub64.f
  rw [if_pos (by omega)]
  simp

theorem plus_f (A B : Nat) (s : Bool) (hA : A < 170141183460469231731687303715884105728) (hB : B < 170141183460469231731687303715884105728) :
    ((bits_Add64.f ((A % 18446744073709551616 : Nat) : Int) ((B % 18446744073709551616 : Nat) : Int) 0).bind fun bt142 => ((bits_Add64.f ((A / 18446744073709551616 : Nat) : Int) ((B / 18446744073709551616 : Nat) : Int) bt142.2).bind fun bt144 => ((num_made.f bt144.1 bt142.1 s).bind fun bt146 => (some (bt146.1, bt146.2.1, bt146.2.2.1, bt146.2.2.2))))) = num_made.f (((A + B) / 18446744073709551616 : Nat) : Int) (((A + B) % 18446744073709551616 : Nat) : Int) s := by
  have h0 := add64 (A % 18446744073709551616) (B % 18446744073709551616) 0 (by omega)
  rw [show ((0 : Nat) : Int) = 0 from rfl] at h0
  rw [h0, Option.bind_some]
  rw [add64 (A / 18446744073709551616) (B / 18446744073709551616) _ (by omega), Option.bind_some]
  have e1 : (A / 18446744073709551616 + B / 18446744073709551616 + (A % 18446744073709551616 + B % 18446744073709551616 + 0) / 18446744073709551616) % 18446744073709551616 = (A + B) / 18446744073709551616 := by omega
  have e2 : (A % 18446744073709551616 + B % 18446744073709551616 + 0) % 18446744073709551616 = (A + B) % 18446744073709551616 := by omega
  rw [e1, e2]
  cases num_made.f (((A + B) / 18446744073709551616 : Nat) : Int) (((A + B) % 18446744073709551616 : Nat) : Int) s <;> rfl
theorem less_f (A B : Nat) (s : Bool) (hA : A < 170141183460469231731687303715884105728) (hB : B ≤ A) :
    ((bits_Sub64.f ((A % 18446744073709551616 : Nat) : Int) ((B % 18446744073709551616 : Nat) : Int) 0).bind fun bt142 => ((bits_Sub64.f ((A / 18446744073709551616 : Nat) : Int) ((B / 18446744073709551616 : Nat) : Int) bt142.2).bind fun bt144 => ((num_made.f bt144.1 bt142.1 s).bind fun bt146 => (some (bt146.1, bt146.2.1, bt146.2.2.1, bt146.2.2.2))))) = num_made.f (((A - B) / 18446744073709551616 : Nat) : Int) (((A - B) % 18446744073709551616 : Nat) : Int) s := by
  have h0 := sub64 (A % 18446744073709551616) (B % 18446744073709551616) 0 (by omega)
  rw [show ((0 : Nat) : Int) = 0 from rfl] at h0
  rw [h0, Option.bind_some]
  by_cases c : A % 18446744073709551616 < B % 18446744073709551616 + 0
  · rw [if_pos c, sub64 (A / 18446744073709551616) (B / 18446744073709551616) 1 (by omega), Option.bind_some]
    have e1 : (A / 18446744073709551616 + 18446744073709551616 - B / 18446744073709551616 - 1) % 18446744073709551616 = (A - B) / 18446744073709551616 := by omega
    have e2 : (A % 18446744073709551616 + 18446744073709551616 - B % 18446744073709551616 - 0) % 18446744073709551616 = (A - B) % 18446744073709551616 := by omega
    rw [e1, e2]
    cases num_made.f (((A - B) / 18446744073709551616 : Nat) : Int) (((A - B) % 18446744073709551616 : Nat) : Int) s <;> rfl
  · rw [if_neg c, sub64 (A / 18446744073709551616) (B / 18446744073709551616) 0 (by omega), Option.bind_some]
    have e1 : (A / 18446744073709551616 + 18446744073709551616 - B / 18446744073709551616 - 0) % 18446744073709551616 = (A - B) / 18446744073709551616 := by omega
    have e2 : (A % 18446744073709551616 + 18446744073709551616 - B % 18446744073709551616 - 0) % 18446744073709551616 = (A - B) % 18446744073709551616 := by omega
    rw [e1, e2]
    cases num_made.f (((A - B) / 18446744073709551616 : Nat) : Int) (((A - B) % 18446744073709551616 : Nat) : Int) s <;> rfl
theorem lessThan (A B : Nat) (s t : Bool) : num_Money_less.f ((A / 18446744073709551616 : Nat) : Int) ((A % 18446744073709551616 : Nat) : Int) s ((B / 18446744073709551616 : Nat) : Int) ((B % 18446744073709551616 : Nat) : Int) t = some (decide (A < B)) := by
  unfold num_Money_less.f
  by_cases h1 : ((A / 18446744073709551616 : Nat) : Int) < ((B / 18446744073709551616 : Nat) : Int)
  · rw [if_pos h1, decide_eq_true (by omega)]
  · rw [if_neg h1]
    by_cases h2 : ((A / 18446744073709551616 : Nat) : Int) = ((B / 18446744073709551616 : Nat) : Int)
    · rw [if_pos h2]
      congr 1
      exact decide_eq_decide.mpr (by omega)
    · rw [if_neg h2, decide_eq_false (by omega)]

theorem add_f (a b : Int) (ha : Small a) (hb : Small b) : num_Money_Add.f (hiM a) (loM a) (mnM a) (hiM b) (loM b) (mnM b) = if (a + b).natAbs < 170141183460469231731687303715884105728 then some (hiM (a + b), loM (a + b), mnM (a + b), 0) else some (0, 0, false, 10) := by
  unfold Small at ha hb
  unfold num_Money_Add.f hiM loM mnM
  by_cases hs : (decide (a < 0) == decide (b < 0)) = true
  · rw [if_pos hs, plus_f _ _ _ ha hb, made_f _ _ (by omega)]
    have hs' : (a < 0) ↔ (b < 0) := by simpa using hs
    have e : a.natAbs + b.natAbs = (a + b).natAbs := by omega
    rw [e]
    by_cases h : (a + b).natAbs < 170141183460469231731687303715884105728
    · rw [if_pos h, if_pos h]
      have e2 : (decide (a < 0) && decide ((a + b).natAbs ≠ 0)) = decide (a + b < 0) := by
        rw [← Bool.decide_and]
        exact decide_eq_decide.mpr (by omega)
      rw [e2]
    · rw [if_neg h, if_neg h]
  · rw [if_neg hs, lessThan, Option.bind_some]
    have hs' : ¬ ((a < 0) ↔ (b < 0)) := by simpa using hs
    by_cases hl : a.natAbs < b.natAbs
    · rw [if_pos (decide_eq_true hl), less_f _ _ _ hb (by omega), made_f _ _ (by omega)]
      have e : b.natAbs - a.natAbs = (a + b).natAbs := by omega
      rw [e, if_pos (by omega), if_pos (by omega)]
      have e2 : (decide (b < 0) && decide ((a + b).natAbs ≠ 0)) = decide (a + b < 0) := by
        rw [← Bool.decide_and]
        exact decide_eq_decide.mpr (by omega)
      rw [e2]
    · rw [if_neg (by simpa using hl), less_f _ _ _ ha (by omega), made_f _ _ (by omega)]
      have e : a.natAbs - b.natAbs = (a + b).natAbs := by omega
      rw [e, if_pos (by omega), if_pos (by omega)]
      have e2 : (decide (a < 0) && decide ((a + b).natAbs ≠ 0)) = decide (a + b < 0) := by
        rw [← Bool.decide_and]
        exact decide_eq_decide.mpr (by omega)
      rw [e2]

theorem neg_f (a : Int) (ha : Small a) : num_Money_Neg.f (hiM a) (loM a) (mnM a) = some (hiM (-a), loM (-a), mnM (-a)) := by
  unfold Small at ha
  unfold num_Money_Neg.f hiM loM mnM
  rw [Int.natAbs_neg]
  by_cases h : a < 0
  · rw [if_pos (decide_eq_true h), decide_eq_false (by omega)]
  · rw [if_neg (by simpa using h), or_zero (by omega) (by omega)]
    have e : decide (a.natAbs / 18446744073709551616 ≠ 0 ∨ a.natAbs % 18446744073709551616 ≠ 0) = decide (-a < 0) := decide_eq_decide.mpr (by omega)
    rw [e]
theorem small_neg {a : Int} (h : Small a) : Small (-a) := by unfold Small at h ⊢; rwa [Int.natAbs_neg]
theorem sign_f (a : Int) (ha : Small a) : num_Money_Sign.f (hiM a) (loM a) (mnM a) = some (if a < 0 then -1 else if a = 0 then 0 else 1) := by
  unfold Small at ha
  unfold num_Money_Sign.f hiM loM mnM
  by_cases h : a < 0
  · rw [if_pos (decide_eq_true h), if_pos h]
  · rw [if_neg (by simpa using h), if_neg h]
    by_cases h0 : a = 0
    · subst h0; rfl
    · rw [if_neg h0, if_neg]
      intro h1
      simp only [Bool.and_eq_true, beq_iff_eq] at h1
      omega
def wd0 (v : Int) : Int := (v % 340282366920938463463374607431768211456) / 18446744073709551616
def wd1 (v : Int) : Int := (v % 340282366920938463463374607431768211456) % 18446744073709551616
def sgn (x0 x1 : Int) : Int := if x0 < 9223372036854775808 then x0 * 18446744073709551616 + x1 else x0 * 18446744073709551616 + x1 - 340282366920938463463374607431768211456
theorem neg_words (A : Nat) (hA : 0 < A) (hA2 : A < 340282366920938463463374607431768211456) :
    ((bits_Sub64.f 0 ((A % 18446744073709551616 : Nat) : Int) 0).bind fun bt127 => ((bits_Sub64.f 0 ((A / 18446744073709551616 : Nat) : Int) bt127.2).bind fun bt129 => (some (bt129.1, bt127.1)))) = some ((((340282366920938463463374607431768211456 - A) / 18446744073709551616 : Nat) : Int), (((340282366920938463463374607431768211456 - A) % 18446744073709551616 : Nat) : Int)) := by
  have h0 := sub64 0 (A % 18446744073709551616) 0 (by omega)
  rw [show ((0 : Nat) : Int) = 0 from rfl] at h0
  rw [h0, Option.bind_some]
  by_cases c : 0 < A % 18446744073709551616 + 0
  · have h1 := sub64 0 (A / 18446744073709551616) 1 (by omega)
    rw [show ((0 : Nat) : Int) = 0 from rfl] at h1
    rw [if_pos c, h1, Option.bind_some]
    have e1 : (0 + 18446744073709551616 - A / 18446744073709551616 - 1) % 18446744073709551616 = (340282366920938463463374607431768211456 - A) / 18446744073709551616 := by omega
    have e2 : (0 + 18446744073709551616 - A % 18446744073709551616 - 0) % 18446744073709551616 = (340282366920938463463374607431768211456 - A) % 18446744073709551616 := by omega
    rw [e1, e2]
  · have h1 := sub64 0 (A / 18446744073709551616) 0 (by omega)
    rw [show ((0 : Nat) : Int) = 0 from rfl] at h1
    rw [if_neg c, show ((0 : Nat) : Int) = 0 from rfl, h1, Option.bind_some]
    have e1 : (0 + 18446744073709551616 - A / 18446744073709551616 - 0) % 18446744073709551616 = (340282366920938463463374607431768211456 - A) / 18446744073709551616 := by omega
    have e2 : (0 + 18446744073709551616 - A % 18446744073709551616 - 0) % 18446744073709551616 = (340282366920938463463374607431768211456 - A) % 18446744073709551616 := by omega
    rw [e1, e2]
theorem words_f (a : Int) (ha : Small a) : num_Money_Words.f (hiM a) (loM a) (mnM a) = some (wd0 a, wd1 a) := by
  unfold Small at ha
  unfold num_Money_Words.f hiM loM mnM wd0 wd1
  by_cases h : a < 0
  · rw [if_pos (decide_eq_true h), neg_words _ (by omega) (by omega)]
    have e : a % 340282366920938463463374607431768211456 = ((340282366920938463463374607431768211456 - a.natAbs : Nat) : Int) := by omega
    rw [e]
    rfl
  · rw [if_neg (by simpa using h)]
    have e : a % 340282366920938463463374607431768211456 = ((a.natAbs : Nat) : Int) := by omega
    rw [e]
    rfl
end Go.Proofs.Ythmjmkbahneneaa.PMon
end
