/- NumPart: of any three numbers of 64 bits: the part down, up, nearest. No condition. -/
import Derived.Test.YthmjmkbahneneaaPNumx3
import Derived.Test.YthmjmkbahneneaaNumPt
namespace Go.Proofs.Ythmjmkbahneneaa.Pure
open Go.RowKit Go.Proofs.Ythmjmkbahneneaa.PNum Go.Proofs.Ythmjmkbahneneaa.NumA Go.Proofs.Ythmjmkbahneneaa.NumDiv Go.Proofs.Ythmjmkbahneneaa.NumPt Go.Proofs.YthmjmkbahneneaaW.PrintWords Go.Proofs.YthmjmkbahneneaaW.PrintLast

theorem upB_two (q r c : Int) : upB q r c 2 = (decide (r > c - r) || (r == c - r && q % 2 == 1)) := rfl

/-- The tests behind a product that fits. -/
theorem tests (k : Nat) (c p q r : Int) (hc : 0 < c) (hc' : c < 18446744073709551616) (hp : 0 ≤ p) (hq : q = p / c) (hr : r = p % c) (hp' : p < 18446744073709551616) :
    bourselaw01_NumPart.j0 (k + 3) c q (if r > 0 then q + 1 else q) (if upB q r c 2 = true then q + 1 else q) p (q != IntKind.u64.wrap (Int.tdiv p c)) = some true := by
  have q0 : 0 ≤ q := by rw [hq]; exact Int.ediv_nonneg hp (by omega)
  have r0 : 0 ≤ r := by rw [hr]; exact Int.emod_nonneg _ (by omega)
  have r1 : r < c := by rw [hr]; exact Int.emod_lt_of_pos _ hc
  have hm := Int.emod_add_mul_ediv p c
  rw [← hq, ← hr] at hm
  have q1 : q ≤ p := by rw [hq]; exact Int.ediv_le_self _ hp
  have w1 : IntKind.u64.wrap (Int.tdiv p c) = q := by rw [Int.tdiv_eq_ediv_of_nonneg hp, ← hq]; exact wr _ q0 (by omega)
  have w2 : Int.tmod p c = r := by rw [Int.tmod_eq_emod_of_nonneg hp, hr]
  have w3 : IntKind.u64.wrap (c - r) = c - r := wr _ (by omega) (by omega)
  have w4 : r > 0 → IntKind.u64.wrap (q + 1) = q + 1 := by
    intro h
    refine wr _ (by omega) ?_
    have : 2 * q ≤ c * q := Int.mul_le_mul_of_nonneg_right (by omega) q0
    omega
  simp only [bourselaw01_NumPart.j0]
  rw [w1, if_neg (by simp), if_neg (by omega), w2]
  -- the last tests
  have t2 : ∀ up near : Int, up = (if r > 0 then q + 1 else q) → near = (if upB q r c 2 = true then q + 1 else q) → bourselaw01_NumPart.j2 (k + 1) c up near r false = some true := by
    intro up near hup hnear
    simp only [bourselaw01_NumPart.j2]
    rw [if_neg (by decide), w3]
    by_cases h0 : r = 0
    · rw [if_pos h0]
    rw [if_neg h0]
    rw [if_pos (by omega)] at hup
    rw [upB_two] at hnear
    by_cases h1 : r = c - r
    · rw [if_pos h1]
      rw [decide_eq_false (by omega), beq_iff_eq.2 h1] at hnear
      by_cases h2 : q % 2 = 1
      · rw [beq_iff_eq.2 h2] at hnear
        simp only [Bool.and_self, Bool.or_true, if_true] at hnear
        rw [hnear, Int.tmod_eq_emod_of_nonneg (by omega), beq_iff_eq.2 (by omega)]
      · rw [beq_eq_false_iff_ne.2 h2] at hnear
        simp only [Bool.and_false, Bool.or_false, Bool.false_eq_true, if_false] at hnear
        rw [hnear, Int.tmod_eq_emod_of_nonneg (by omega), beq_iff_eq.2 (by omega)]
    · rw [if_neg h1]
      rw [beq_eq_false_iff_ne.2 h1, Bool.false_and, Bool.or_false] at hnear
      by_cases h2 : r > c - r
      · rw [decide_eq_true h2] at hnear ⊢
        rw [if_pos rfl] at hnear
        rw [hup, hnear]
        simp
      · rw [decide_eq_false h2] at hnear ⊢
        rw [if_neg (by decide)] at hnear
        rw [hup, hnear, show (q == q + 1) = false from beq_eq_false_iff_ne.2 (by omega)]
        rfl
  have t1 : ∀ up : Int, up = (if r > 0 then q + 1 else q) → bourselaw01_NumPart.j1 (k + 2) c q (if r > 0 then q + 1 else q) (if upB q r c 2 = true then q + 1 else q) r up = some true := by
    intro up hup
    simp only [bourselaw01_NumPart.j1]
    rw [if_pos hup.symm]
    by_cases h0 : (if upB q r c 2 = true then q + 1 else q) = q
    · rw [if_pos h0]
      exact t2 _ _ rfl rfl
    · rw [if_neg h0]
      have e : (if upB q r c 2 = true then q + 1 else q) = (if r > 0 then q + 1 else q) := by
        by_cases h1 : upB q r c 2 = true
        · rw [if_pos h1]
          have : r > 0 := by
            rw [upB_two] at h1
            simp at h1
            omega
          rw [if_pos this]
        · rw [if_neg h1] at h0
          exact absurd rfl h0
      have := t2 _ _ rfl rfl
      rw [bne_eq_false_iff_eq.2 e]
      exact this
  by_cases h0 : r > 0
  · rw [if_pos h0, w4 h0]
    exact t1 (q + 1) (by rw [if_pos h0])
  · rw [if_neg h0]
    exact t1 q (by rw [if_neg h0])

theorem done_fits (q r c round : Int) (h : q + 1 < 18446744073709551616) : done q r c round = (if upB q r c round = true then q + 1 else q, 0) := by
  unfold done
  by_cases hu : upB q r c round = true
  · rw [if_pos hu, if_pos h, if_pos hu]
  · rw [if_neg hu, if_neg hu]

theorem NumPart : bourselaw01_NumPart.Pure := by
  intro a b c wa wb wc
  obtain ⟨ha, ha'⟩ := of_wf wa
  obtain ⟨hb, hb'⟩ := of_wf wb
  obtain ⟨hc, hc'⟩ := of_wf wc
  obtain ⟨K0, h0⟩ := part_ev a b c 0 ha ha' hb hb' hc hc'
  have h0 : ∀ k, K0 ≤ k → num_Part.f k a b c 0 = some (partV a b c 0) := h0
  obtain ⟨K1, h1⟩ := part_ev a b c 1 ha ha' hb hb' hc hc'
  have h1 : ∀ k, K1 ≤ k → num_Part.f k a b c 1 = some (partV a b c 1) := h1
  obtain ⟨K2, h2⟩ := part_ev a b c 2 ha ha' hb hb' hc hc'
  have h2 : ∀ k, K2 ≤ k → num_Part.f k a b c 2 = some (partV a b c 2) := h2
  obtain ⟨K3, h3⟩ := part_ev a b c 3 ha ha' hb hb' hc hc'
  have h3 : ∀ k, K3 ≤ k → num_Part.f k a b c 3 = some (partV a b c 3) := h3
  obtain ⟨K4, h4⟩ := part_ev a b b 0 ha ha' hb hb' hb hb'
  have h4 : ∀ k, K4 ≤ k → num_Part.f k a b b 0 = some (partV a b b 0) := h4
  refine ⟨K0 + K1 + K2 + K3 + K4 + 3, ?_⟩
  have hp : 0 ≤ a * b := Int.mul_nonneg ha hb
  have e3 : partV a b c 3 = (0, 1) := by unfold partV; rw [if_pos (by decide)]
  unfold bourselaw01_NumPart.f
  rw [h0 _ (by omega), h1 _ (by omega), h2 _ (by omega), h3 _ (by omega), e3]
  simp only [Option.bind_some, if_true]
  by_cases c0 : c = 0
  · have e : ∀ round, 0 ≤ round → round ≤ 2 → partV a b c round = (0, 11) := by
      intro round g1 g2
      unfold partV
      rw [if_neg (by omega), if_pos c0]
    rw [e 0 (by decide) (by decide), e 1 (by decide) (by decide), e 2 (by decide) (by decide), if_pos c0]
    rfl
  rw [if_neg c0, mul_val a b ha ha' hb hb']
  by_cases fits : a * b < 18446744073709551616
  · rw [if_pos fits]
    simp only [Option.bind_some, if_true]
    have hi : a * b / 18446744073709551616 = 0 := by omega
    have q0 : 0 ≤ a * b / c := Int.ediv_nonneg hp hc
    have r0 : 0 ≤ a * b % c := Int.emod_nonneg _ c0
    have r1 : a * b % c < c := Int.emod_lt_of_pos _ (by omega)
    have hm := Int.emod_add_mul_ediv (a * b) c
    have q1 : a * b / c ≤ a * b := Int.ediv_le_self _ hp
    have e : ∀ round, 0 ≤ round → round ≤ 2 → partV a b c round = (if upB (a * b / c) (a * b % c) c round = true then a * b / c + 1 else a * b / c, 0) := by
      intro round g1 g2
      unfold partV
      rw [if_neg (by omega), if_neg c0, if_neg (by omega)]
      by_cases hu : upB (a * b / c) (a * b % c) c round = true
      · refine done_fits _ _ _ _ ?_
        have hr : a * b % c > 0 := by
          unfold upB at hu
          by_cases g : round = 1
          · rw [if_pos g] at hu
            exact of_decide_eq_true hu
          · rw [if_neg g] at hu
            by_cases g : round = 2
            · rw [if_pos g] at hu
              simp at hu
              omega
            · rw [if_neg g] at hu
              cases hu
        have : 2 * (a * b / c) ≤ c * (a * b / c) := Int.mul_le_mul_of_nonneg_right (by omega) q0
        omega
      · unfold done
        rw [if_neg hu, if_neg hu]
    have u0 : upB (a * b / c) (a * b % c) c 0 = false := rfl
    have u1 : upB (a * b / c) (a * b % c) c 1 = decide (a * b % c > 0) := rfl
    have T := tests (K0 + K1 + K2 + K3 + K4) c (a * b) (a * b / c) (a * b % c) (by omega) hc' hp rfl rfl fits
    rw [e 0 (by decide) (by decide), e 1 (by decide) (by decide), e 2 (by decide) (by decide), u0, u1]
    simp only [if_true, Bool.false_eq_true, if_false, decide_eq_true_eq]
    exact T
  · rw [if_neg fits]
    simp only [Option.bind_some]
    rw [if_neg (by decide), h4 _ (by omega)]
    simp only [Option.bind_some]
    -- the part that is no less than 1
    have big : (partV a b c 0).2 = 0 → (partV a b c 0).1 > 0 := by
      unfold partV
      rw [if_neg (by decide), if_neg c0]
      by_cases g : a * b / 18446744073709551616 ≥ c
      · rw [if_pos g]
        intro h
        exact absurd h (by decide)
      · rw [if_neg g]
        intro _
        unfold done
        rw [if_neg (by simp [upB])]
        have : 1 ≤ a * b / c := by
          rw [Int.le_ediv_iff_mul_le (by omega)]
          omega
        exact this
    have fin : (if (partV a b c 0).2 = 0 then some (decide ((partV a b c 0).1 > 0)) else some true) = some true := by
      by_cases g : (partV a b c 0).2 = 0
      · rw [if_pos g, decide_eq_true (big g)]
      · rw [if_neg g]
    by_cases b0 : b = 0
    · rw [if_pos b0]
      exact fin
    rw [if_neg b0]
    have e : partV a b b 0 = (a, 0) := by
      have g : a * b / 18446744073709551616 < b := by
        refine Int.ediv_lt_of_lt_mul (by decide) ?_
        rw [Int.mul_comm b]
        exact Int.mul_lt_mul_of_pos_right ha' (by omega)
      unfold partV
      rw [if_neg (by decide), if_neg b0, if_neg (by omega)]
      unfold done
      rw [if_neg (by simp [upB]), Int.mul_ediv_cancel _ b0]
    rw [e, if_pos rfl, if_pos rfl]
    exact fin
end Go.Proofs.Ythmjmkbahneneaa.Pure
