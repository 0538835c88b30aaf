/- MoneyAdds: the walk with what the functions say put in. -/
import Derived.Test.YthmjmkbahneneaaMonQ
namespace Go.Proofs.Ythmjmkbahneneaa.PMon
open Go.RowKit Go.Proofs.YthmjmkbahneneaaW.PrintWords Go.Proofs.YthmjmkbahneneaaW.PrintLast Go.Proofs.YthmjmkbahneneaaW.PrintMore
set_option linter.unusedVariables false
set_option linter.unusedSimpArgs false

theorem lds_len (k : Nat) : ∀ n, n < 10 ^ k → (lds n).length ≤ k := by
  induction k with
  | zero => intro n h; rw [show n = 0 by omega, lds_zero]; exact Nat.le_refl _
  | succ k ih =>
    intro n h
    by_cases c : n = 0
    · rw [c, lds_zero]; exact Nat.zero_le _
    · rw [lds_pos n c, List.length_cons]
      have := ih (n / 10) (by rw [Nat.pow_succ] at h; omega)
      omega
theorem tl_len (k n : Nat) (hk : 0 < k) (h : n < 10 ^ k) : (tl n).length ≤ k := by
  unfold tl
  by_cases c : n = 0
  · rw [if_pos c]; exact hk
  · rw [if_neg c]; exact lds_len k n h
theorem cmp_neg (x y : Int) : IntKind.i64.wrap (-(if y = x then 0 else if y < x then -1 else 1 : Int)) = (if x = y then 0 else if x < y then -1 else 1) := by
  by_cases h : y = x
  · subst h; rw [if_pos rfl]; rfl
  · rw [if_neg h, if_neg (show ¬ x = y from fun k => h (Eq.symm k))]
    by_cases c : y < x
    · rw [if_pos c, if_neg (show ¬ x < y by omega)]; rfl
    · rw [if_neg c, if_pos (show x < y by omega)]; rfl
theorem text_len (v : Int) (h : Small v) : (text v).length ≤ 9223372036854775807 := by
  unfold Small at h
  unfold text back rem
  have := tl_len 39 (v.natAbs / 10 / 10) (by omega) (by omega)
  rw [List.length_reverse, List.length_append]
  simp only [List.length_cons]
  by_cases c : v < 0
  · rw [if_pos c]; simp only [List.length_cons, List.length_nil]; omega
  · rw [if_neg c]; simp only [List.length_nil]; omega
theorem parseR_text (v : Int) (h : Small v) : parseR (text v) = v ∧ parseE (text v) = 0 := by
  unfold parseR parseE
  rw [parse_text v h]
  exact ⟨rfl, rfl⟩
theorem addE_zero {v : Int} (h : addE v = 0) : addR v = v ∧ Small v := by
  unfold addE at h
  unfold addR Small
  by_cases c : v.natAbs < 170141183460469231731687303715884105728
  · exact ⟨if_pos c, c⟩
  · rw [if_neg c] at h; omega
theorem addR_small {v : Int} (h : Small v) : addR v = v ∧ addE v = 0 := by
  unfold Small at h
  unfold addR addE
  exact ⟨if_pos h, if_pos h⟩
theorem eq_self38 (a b : Int) (W : World) : (Op.equalIn 10000 38 (.agg #[.int .u64 a, .int .u64 b]) (.agg #[.int .u64 a, .int .u64 b])).run Try.prog W = .ok true W := by
  rw [eq38, beq_self_eq_true, beq_self_eq_true]; rfl
theorem k_of (h l : Int) : ((if fwB h l then (3 : Int) else 0) == 0) = !(h == 9223372036854775808 && l == 0) := by
  unfold fwB
  by_cases c : h = 9223372036854775808 ∧ l = 0
  · obtain ⟨rfl, rfl⟩ := c; rfl
  · rw [decide_eq_false c, if_neg (by decide)]
    have : (h == 9223372036854775808 && l == 0) = false := by
      rw [Bool.eq_false_iff]; intro k; simp only [Bool.and_eq_true, beq_iff_eq] at k; exact c k
    rw [this]; rfl
theorem wd_of (h l : Int) (h0 : 0 ≤ h) (h1 : h < 18446744073709551616) (l0 : 0 ≤ l) (l1 : l < 18446744073709551616) :
    (wd0 (fwR h l) == h && wd1 (fwR h l) == l) = !(h == 9223372036854775808 && l == 0) := by
  by_cases c : h = 9223372036854775808 ∧ l = 0
  · obtain ⟨rfl, rfl⟩ := c; rfl
  · have e : fwR h l = sgn h l := by unfold fwR fwB; rw [if_neg (by rw [decide_eq_false c]; decide)]
    have e2 : (h == 9223372036854775808 && l == 0) = false := by
      rw [Bool.eq_false_iff]; intro k; simp only [Bool.and_eq_true, beq_iff_eq] at k; exact c k
    rw [e, e2]
    have a : wd0 (sgn h l) = h ∧ wd1 (sgn h l) = l := by
      unfold wd0 wd1 sgn
      by_cases d : h < 9223372036854775808
      · rw [if_pos d]; omega
      · rw [if_neg d]; omega
    rw [a.1, a.2, beq_self_eq_true, beq_self_eq_true]; rfl

def cmp (a b : Int) : Int := if a = b then 0 else if a < b then -1 else 1
def sig (a : Int) : Int := if a < 0 then -1 else if a = 0 then 0 else 1
theorem cmp_sig (x y : Int) : decide (0 < cmp (x + y) x) = decide (0 < sig y) := by
  unfold cmp sig
  by_cases h : y < 0
  · rw [if_neg (by omega), if_pos (by omega), if_pos h]
  · rw [if_neg h]
    by_cases c : y = 0
    · rw [if_pos (by omega), if_pos c]
    · rw [if_neg (by omega), if_neg (by omega), if_neg c]
end Go.Proofs.Ythmjmkbahneneaa.PMon
