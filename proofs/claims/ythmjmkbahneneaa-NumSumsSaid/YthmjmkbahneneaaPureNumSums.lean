/- NumSums: of any three numbers of 64 bits the four rules hold together. No condition. -/
import Derived.Test.YthmjmkbahneneaaNumA
namespace Go.Proofs.Ythmjmkbahneneaa.Pure
open Go.RowKit Go.Proofs.Ythmjmkbahneneaa.PNum Go.Proofs.Ythmjmkbahneneaa.NumA Go.Proofs.YthmjmkbahneneaaW.PrintWords Go.Proofs.YthmjmkbahneneaaW.PrintLast

/-- The sum of three, from any accumulated sum that fits. -/
theorem sum3 (k : Nat) (a b c : Int) (ha : 0 ≤ a) (ha' : a < 18446744073709551616) (hb : 0 ≤ b) (hb' : b < 18446744073709551616) (hc : 0 ≤ c) (hc' : c < 18446744073709551616) :
    num_Sum.f (k + 4) [a, b, c] = some (if a + b + c < 18446744073709551616 then (a + b + c, 0) else (0, 10)) := by
  have w0 : wrap64 (0 + 1) = 1 := by unfold wrap64; omega
  have w1 : wrap64 (1 + 1) = 2 := by unfold wrap64; omega
  have w2 : wrap64 (2 + 1) = 3 := by unfold wrap64; omega
  have r0 : rd [a, b, c] 0 = a := rfl
  have r1 : rd [a, b, c] 1 = b := rfl
  have r2 : rd [a, b, c] 2 = c := rfl
  unfold num_Sum.f
  show num_Sum.l0 (k + 4) 0 [a, b, c] 3 0 = _
  simp only [num_Sum.l0]
  rw [if_pos (by decide), if_pos (by decide), if_pos (by simp), r0, add_val 0 a (by decide) (by decide) ha ha', if_pos (by omega)]
  simp only [Option.bind_some, if_true]
  rw [w0, if_pos (by decide), if_pos (by decide), if_pos (by simp), r1, add_val (0 + a) b (by omega) (by omega) hb hb']
  by_cases h1 : 0 + a + b < 18446744073709551616
  · rw [if_pos h1]
    simp only [Option.bind_some, if_true]
    rw [w1, if_pos (by decide), if_pos (by decide), if_pos (by simp), r2, add_val (0 + a + b) c (by omega) (by omega) hc hc']
    by_cases h2 : 0 + a + b + c < 18446744073709551616
    · rw [if_pos h2, if_pos (by omega)]
      simp only [Option.bind_some, if_true]
      rw [w2, if_neg (by decide)]
      congr 2
      omega
    · rw [if_neg h2, if_neg (by omega)]
      rfl
  · rw [if_neg h1, if_neg (by omega)]
    rfl

theorem mul_fits (a b : Int) (ha : 0 < a) : a * b < 18446744073709551616 ↔ b ≤ 18446744073709551615 / a := by
  rw [Int.le_ediv_iff_mul_le ha, Int.mul_comm b a]
  omega

theorem NumSums : bourselaw01_NumSums.Pure := by
  intro a b c wa wb wc
  obtain ⟨ha, ha'⟩ := of_wf wa
  obtain ⟨hb, hb'⟩ := of_wf wb
  obtain ⟨hc, hc'⟩ := of_wf wc
  have hba : num_Add.f b a = some (if a + b < 18446744073709551616 then (a + b, 0) else (0, 10)) := by rw [add_val b a hb hb' ha ha', Int.add_comm b a]
  have hmb : num_Mul.f b a = some (if a * b < 18446744073709551616 then (a * b, 0) else (0, 10)) := by rw [mul_val b a hb hb' ha ha', Int.mul_comm b a]
  have hs : ∀ k, num_Sum.f (k + 4) [c, a, b] = some (if a + b + c < 18446744073709551616 then (a + b + c, 0) else (0, 10)) := by
    intro k
    rw [sum3 k c a b hc hc' ha ha' hb hb', show c + a + b = a + b + c by omega]
  -- the tail, behind the sums of three
  have t3 : ∀ k x e, num_Add.f a b = some (x, e) → bourselaw01_NumSums.j3 (k + 1) c x e (if a + b + c < 18446744073709551616 then (a + b + c, (0 : Int)) else (0, 10)).1 (if a + b + c < 18446744073709551616 then (a + b + c, (0 : Int)) else (0, 10)).2 false = some true := by
    intro k x e h
    rw [add_val a b ha ha' hb hb'] at h
    injection h with h
    simp only [bourselaw01_NumSums.j3]
    rw [if_neg (by decide)]
    by_cases h1 : a + b < 18446744073709551616
    · rw [if_pos h1] at h
      obtain ⟨rfl, rfl⟩ := Prod.mk.inj h
      rw [if_pos rfl, add_val (a + b) c (by omega) h1 hc hc']
      simp
    · rw [if_neg h1] at h
      obtain ⟨rfl, rfl⟩ := Prod.mk.inj h
      rw [if_neg (by decide), if_neg (by omega)]
      rfl
  have t2 : ∀ k x e, num_Add.f a b = some (x, e) → bourselaw01_NumSums.j2 (k + 5) a b c x e false = some true := by
    intro k x e h
    have := t3 (k + 3) x e h
    simp only [bourselaw01_NumSums.j2]
    rw [if_neg (by decide), sum3 k a b c ha ha' hb hb' hc hc', hs k]
    simp only [Option.bind_some, if_true]
    simpa using this
  have t1 : ∀ k x e, num_Add.f a b = some (x, e) → bourselaw01_NumSums.j1 (k + 6) a b c x e = some true := by
    intro k x e h
    have := t2 k x e h
    simp only [bourselaw01_NumSums.j1]
    rw [mul_val a b ha ha' hb hb', hmb]
    simp only [Option.bind_some, if_true]
    by_cases a0 : a = 0
    · rw [if_pos a0, if_pos (by rw [a0]; omega)]
      exact this
    · have := mul_fits a b (by omega)
      have q : IntKind.u64.wrap (Int.tdiv (18446744073709551615 : Int) a) = 18446744073709551615 / a := by
        rw [Int.tdiv_eq_ediv_of_nonneg (by decide), wu, Int.emod_eq_of_lt (Int.ediv_nonneg (by decide) ha)]
        exact Int.lt_of_le_of_lt (Int.ediv_le_self _ (by decide)) (by decide)
      rw [if_neg a0, q]
      by_cases h2 : a * b < 18446744073709551616
      · rw [if_pos h2, decide_eq_true (this.1 h2)]
        exact t2 k x e h
      · rw [if_neg h2, decide_eq_false (fun hh => h2 (this.2 hh))]
        exact t2 k x e h
  refine ⟨7, ?_⟩
  have hx := add_val a b ha ha' hb hb'
  have q : IntKind.u64.wrap (18446744073709551615 - b) = 18446744073709551615 - b := by rw [wu]; omega
  unfold bourselaw01_NumSums.f
  rw [hba, hx]
  simp only [Option.bind_some, if_true]
  rw [q]
  simp only [bourselaw01_NumSums.j0]
  by_cases h1 : a + b < 18446744073709551616
  · rw [if_pos h1] at hx ⊢
    rw [decide_eq_true (show a ≤ 18446744073709551615 - b by omega), if_neg (by simp), if_pos rfl, sub_val (a + b) b (by omega) h1 hb hb', if_pos (by omega)]
    simp only [Option.bind_some]
    rw [if_pos (by omega), if_pos trivial]
    exact t1 0 _ _ hx
  · rw [if_neg h1] at hx ⊢
    rw [decide_eq_false (show ¬ a ≤ 18446744073709551615 - b by omega), if_neg (by decide), if_neg (by decide)]
    exact t1 0 _ _ hx
end Go.Proofs.Ythmjmkbahneneaa.Pure
