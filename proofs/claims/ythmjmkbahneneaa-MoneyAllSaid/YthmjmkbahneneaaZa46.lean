/- MonW, struck of what this claim does not name (wip/tools/pack2.py). -/
import Derived.Test.YthmjmkbahneneaaZa45
section
namespace Go.Proofs.Ythmjmkbahneneaa.PMon
open Go.RowKit
set_option linter.unusedVariables false

def dig : List UInt8 → Nat → Nat
  | [], a => a
  | c :: t, a => if 48 ≤ c.toNat ∧ c.toNat ≤ 57 then dig t (a * 10 + (c.toNat - 48)) else dig t a
theorem dig_cons (c : UInt8) (t : List UInt8) (a : Nat) : dig (c :: t) a = if 48 ≤ c.toNat ∧ c.toNat ≤ 57 then dig t (a * 10 + (c.toNat - 48)) else dig t a := rfl
theorem dig_eat : ∀ (l : List UInt8) (a m : Nat), eat l a = some m → dig l a = m
  | [], a, m, h => by unfold eat at h; unfold dig; exact Option.some.inj h
  | c :: t, a, m, h => by
    rw [eat_cons] at h
    rw [dig_cons]
    by_cases c1 : c = 46
    · subst c1
      rw [if_pos rfl] at h
      rw [if_neg (by decide)]
      exact dig_eat t a m h
    · rw [if_neg c1] at h
      by_cases c2 : c.toNat < 48 ∨ 57 < c.toNat
      · rw [if_pos c2] at h; exact absurd h (by simp)
      · rw [if_neg c2] at h
        rw [if_pos (by omega)]
        by_cases c3 : a * 10 + (c.toNat - 48) < 170141183460469231731687303715884105728
        · rw [if_pos c3] at h; exact dig_eat t _ m h
        · rw [if_neg c3] at h; exact absurd h (by simp)
theorem dig_cut (l : List UInt8) (a : Nat) : dig l a = dig (cut l).1 a ∧ (cut l).2 = (l.head? == some 45) := by
  match l with
  | [] => exact ⟨rfl, rfl⟩
  | c :: t =>
    rw [cut_cons]
    by_cases h : c = 45
    · subst h
      rw [if_pos rfl, dig_cons, if_neg (by decide)]
      exact ⟨rfl, rfl⟩
    · rw [if_neg h]
      refine ⟨rfl, ?_⟩
      show false = (some c == some 45)
      exact (beq_eq_false_iff_ne.mpr (fun k => h (Option.some.inj k))).symm
theorem dig_text (v : Int) (h : Small v) : dig (text v) 0 = v.natAbs ∧ ((text v).head? == some 45) = decide (v < 0) := by
  have := dig_cut (text v) 0
  rw [cut_text] at this
  exact ⟨this.1.trans (dig_eat _ _ _ (eat_rem _ h)), this.2.symm⟩
def dv (l : List UInt8) : Int := if l.head? == some 45 then -(dig l 0 : Int) else (dig l 0 : Int)
theorem dv_text (v : Int) (h : Small v) : dv (text v) = v := by
  unfold dv
  rw [(dig_text v h).1, (dig_text v h).2]
  by_cases c : v < 0
  · rw [if_pos (decide_eq_true c)]; omega
  · rw [if_neg (by simpa using c)]; omega
theorem parse_dv (l : List UInt8) : parse l = if dig l 0 < 170141183460469231731687303715884105728 ∧ text (dv l) = l then some (dv l) else none := by
  by_cases c : dig l 0 < 170141183460469231731687303715884105728 ∧ text (dv l) = l
  · rw [if_pos c]
    have : Small (dv l) := by
      unfold Small dv
      by_cases k : (l.head? == some 45) = true
      · rw [if_pos k]; omega
      · rw [if_neg k]; omega
    have h := parse_text _ this
    rwa [c.2] at h
  · rw [if_neg c]
    unfold parse
    cases hs : says l with
    | none => rfl
    | some u =>
      rw [Option.bind_some]
      by_cases k : text u = l
      · exfalso
        have hu := says_small l u hs
        apply c
        rw [← k, dv_text u hu, (dig_text u hu).1]
        exact ⟨hu, rfl⟩
      · rw [if_neg k]
theorem text_short (v : Int) (h : Small v) : (text v).length ≤ 60 := by
  unfold Small at h
  unfold text back rem
  have := tl_len 39 (v.natAbs / 10 / 10) (by omega) (by omega)
  rw [List.length_reverse, List.length_append]
  simp only [List.length_cons]
  by_cases c : v < 0
  · rw [if_pos c]; simp only [List.length_cons, List.length_nil]; omega
  · rw [if_neg c]; simp only [List.length_nil]; omega
theorem parse_long (l : List UInt8) (h : 60 < l.length) : parse l = none := by
  rw [parse_dv]
  refine if_neg fun ⟨a, b⟩ => ?_
  have : Small (dv l) := by
    unfold Small dv
    by_cases k : (l.head? == some 45) = true
    · rw [if_pos k]; omega
    · rw [if_neg k]; omega
  have := text_short _ this
  rw [b] at this
  omega
end Go.Proofs.Ythmjmkbahneneaa.PMon
end
