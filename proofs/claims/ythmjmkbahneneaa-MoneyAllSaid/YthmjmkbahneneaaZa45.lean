/- MonF, struck of what this claim does not name (wip/tools/pack2.py). -/
import Derived.Test.YthmjmkbahneneaaZa44
section
namespace Go.Proofs.Ythmjmkbahneneaa.PMon
open Go.RowKit Go.Proofs.YthmjmkbahneneaaW.PrintWords Go.Proofs.YthmjmkbahneneaaW.PrintLast Go.Proofs.YthmjmkbahneneaaW.PrintMore
set_option linter.unusedVariables false
set_option linter.unusedSimpArgs false

theorem lds_len (k : Nat) : ∀ n, n < 10 ^ k → (lds n).length ≤ k := by
  induction k with
  | zero => intro n h; rw [show n = 0 by omega, lds_zero]; exact Nat.le_refl _
  | succ k ih =>
    intro n h
    by_cases c : n = 0
    · rw [c, lds_zero]; exact Nat.zero_le _
    · rw [lds_pos n c, List.length_cons]
      have := ih (n / 10) (by rw [Nat.pow_succ] at h; omega)
      omega
theorem tl_len (k n : Nat) (hk : 0 < k) (h : n < 10 ^ k) : (tl n).length ≤ k := by
  unfold tl
  by_cases c : n = 0
  · rw [if_pos c]; exact hk
  · rw [if_neg c]; exact lds_len k n h
theorem text_len (v : Int) (h : Small v) : (text v).length ≤ 9223372036854775807 := by
  unfold Small at h
  unfold text back rem
  have := tl_len 39 (v.natAbs / 10 / 10) (by omega) (by omega)
  rw [List.length_reverse, List.length_append]
  simp only [List.length_cons]
  by_cases c : v < 0
  · rw [if_pos c]; simp only [List.length_cons, List.length_nil]; omega
  · rw [if_neg c]; simp only [List.length_nil]; omega
theorem eq_self38 (a b : Int) (W : World) : (Op.equalIn 10000 38 (.agg #[.int .u64 a, .int .u64 b]) (.agg #[.int .u64 a, .int .u64 b])).run Try.prog W = .ok true W := by
  rw [eq38, beq_self_eq_true, beq_self_eq_true]; rfl
def cmp (a b : Int) : Int := if a = b then 0 else if a < b then -1 else 1
def sig (a : Int) : Int := if a < 0 then -1 else if a = 0 then 0 else 1
end Go.Proofs.Ythmjmkbahneneaa.PMon
end
