/- MonBigC, struck of what this claim does not name (wip/tools/pack2.py). -/
import Derived.Test.YthmjmkbahneneaaZa24
import Derived.Test.YthmjmkbahneneaaZa33
import Derived.Test.YthmjmkbahneneaaZa35
section
namespace Go.Proofs.Ythmjmkbahneneaa.PBig
open Go.RowKit Go.Proofs.Ythmjmkbahneneaa.PMon Go.Proofs.Ythmjmkbahneneaa.MonA Go.Proofs.Ythmjmkbahneneaa.MonDiv Go.Proofs.YthmjmkbahneneaaW.PrintWords Go.Proofs.YthmjmkbahneneaaW.PrintLast Go.Proofs.YthmjmkbahneneaaW.PrintMore

def upB (q r c round : Int) : Bool := if round = 1 then decide (r > 0) else if round = 2 then (decide (r > c - r) || (r == c - r && q % 2 == 1)) else false

theorem up_val (q r c round : Int) (hq : 0 ≤ q) (hr : 0 ≤ r) (hc : r < c) (hc' : c < 18446744073709551616) : num_up.f q r c round = some (upB q r c round) := by
  unfold num_up.f upB
  rw [wr (c - r) (by omega) (by omega), Int.tmod_eq_emod_of_nonneg hq]
  by_cases h1 : round = 1
  · rw [if_pos h1, if_pos h1]
  · rw [if_neg h1, if_neg h1]
    by_cases h2 : round = 2
    · rw [if_pos h2, if_pos h2]
      by_cases h3 : r > c - r
      · rw [if_pos h3, decide_eq_true h3]
        rfl
      · rw [if_neg h3, decide_eq_false h3]
        by_cases h4 : r = c - r
        · rw [if_pos h4, beq_iff_eq.2 h4]
          rfl
        · rw [if_neg h4, beq_eq_false_iff_ne.2 h4]
          rfl
    · rw [if_neg h2, if_neg h2]

theorem D_length_pos (n : Nat) : ((D n).length : Int) > 0 ↔ 0 < n := by
  by_cases h : n = 0
  · subst h
    rw [D_zero]
    simp
  · rw [D_pos n h, List.length_cons]
    omega
theorem D_odd (n : Nat) (h : 0 < n) : Int.tmod (rd (D n) 0) 2 = ((n % 2 : Nat) : Int) := by
  rw [D_pos n (by omega)]
  show Int.tmod ((n % 4294967296 : Nat) : Int) 2 = _
  rw [Int.tmod_eq_emod_of_nonneg (by omega)]
  omega

theorem rounded_ev (a b : Nat) (hb : 0 < b) (la : (D a).length ≤ 80000) (lb : (D b).length ≤ 80000) (round : Int) :
    Ev (fun k => bourseref01_rounded.f k (D a) (D b) round) (D (a / b + (upB (a / b : Nat) (a % b : Nat) (b : Nat) round).toNat)) := by
  have h1 := divided_ev a b hb la lb
  have hr : a % b < b := Nat.mod_lt _ hb
  have lr := len_le (a % b) b (by omega)
  have lq := len_le (a / b) a (Nat.div_le_self _ _)
  have h2 := doubled_ev (a % b) false (by omega)
  have l2 : (D (2 * (a % b) + false.toNat)).length ≤ (D b).length + 1 := by
    have := len_add b b (D b).length (Nat.le_refl _) (Nat.le_refl _)
    have := len_le (2 * (a % b) + false.toNat) (b + b) (by simp; omega)
    omega
  have h3 := compare_ev (2 * (a % b) + false.toNat) b (by omega)
  have h4 := plus_ev (a / b) 1 (by omega) (by rw [← one_D]; simp)
  rw [← one_D] at h4
  rw [show 2 * (a % b) + false.toNat = 2 * (a % b) by simp] at h2 h3
  obtain ⟨K1, k1⟩ := h1
  obtain ⟨K2, k2⟩ := h2
  obtain ⟨K3, k3⟩ := h3
  obtain ⟨K4, k4⟩ := h4
  refine ⟨K1 + K2 + K3 + K4, fun k hk => ?_⟩
  have k1 : bourseref01_divided.f k (D a) (D b) = some (D (a / b), D (a % b)) := k1 k (by omega)
  have k2 : bourseref01_doubled.f k (D (a % b)) false = some (D (2 * (a % b))) := k2 k (by omega)
  have k3 : bourseref01_compare.f k (D (2 * (a % b))) (D b) = some (cmp ((2 * (a % b) : Nat) : Int) (b : Int)) := k3 k (by omega)
  have k4 : bourseref01_plus.f k (D (a / b)) [1] = some (D (a / b + 1)) := k4 k (by omega)
  have dq := D_length_pos (a / b)
  have dr := D_length_pos (a % b)
  have dd := D_odd (a / b)
  have hc1 : cmp ((2 * (a % b) : Nat) : Int) (b : Int) > 0 ↔ b < 2 * (a % b) := by
    unfold cmp
    split
    · constructor
      · intro h; exact absurd h (by decide)
      · intro h; omega
    · split
      · constructor
        · intro h; exact absurd h (by decide)
        · intro h; omega
      · constructor
        · intro _; omega
        · intro _; decide
  have hc0 : cmp ((2 * (a % b) : Nat) : Int) (b : Int) = 0 ↔ 2 * (a % b) = b := by
    unfold cmp
    split
    · constructor
      · intro h; exact absurd h (by decide)
      · intro h; omega
    · split
      · constructor
        · intro _; omega
        · intro _; rfl
      · constructor
        · intro h; exact absurd h (by decide)
        · intro h; omega
  show bourseref01_rounded.f k (D a) (D b) round = _
  unfold bourseref01_rounded.f
  rw [k1]
  simp only [Option.bind_some]
  rw [k2]
  simp only [Option.bind_some]
  rw [k3]
  simp only [Option.bind_some]
  rw [k4]
  simp only [Option.bind_some]
  generalize a / b = q at *
  generalize a % b = r at *
  generalize cmp ((2 * r : Nat) : Int) (b : Int) = c at *
  have hup : ∀ z : Option (List Int), ((upB (q : Int) (r : Int) (b : Int) round = true → z = some (D (q + 1))) ∧ (upB (q : Int) (r : Int) (b : Int) round = false → z = some (D q))) → z = some (D (q + (upB (q : Int) (r : Int) (b : Int) round).toNat)) := by
    intro z hz
    cases hu : upB (q : Int) (r : Int) (b : Int) round
    · exact hz.2 hu
    · exact hz.1 hu
  refine hup _ ?_
  unfold upB
  by_cases r1 : round = 1
  · rw [if_pos r1]
    by_cases r0 : 0 < r
    · rw [decide_eq_true (by omega)]
      refine ⟨fun _ => ?_, fun h => by cases h⟩
      by_cases q0 : 0 < q
      · rw [if_pos (dq.2 q0), if_pos (dq.2 q0), if_pos r1, if_pos (dr.2 r0)]
      · rw [if_neg (fun h => q0 (dq.1 h)), if_pos r1, if_pos (dr.2 r0)]
    · rw [decide_eq_false (by omega)]
      refine ⟨fun h => (by cases h), fun _ => ?_⟩
      by_cases q0 : 0 < q
      · rw [if_pos (dq.2 q0), if_pos (dq.2 q0), if_pos r1, if_neg (fun h => r0 (dr.1 h)), if_neg (by omega)]
      · rw [if_neg (fun h => q0 (dq.1 h)), if_pos r1, if_neg (fun h => r0 (dr.1 h)), if_neg (by omega)]
  · rw [if_neg r1]
    by_cases r2 : round = 2
    · rw [if_pos r2]
      by_cases c1 : c > 0
      · have hb2 := hc1.1 c1
        rw [decide_eq_true (by omega), Bool.true_or]
        refine ⟨fun _ => ?_, fun h => by cases h⟩
        by_cases q0 : 0 < q
        · rw [if_pos (dq.2 q0), if_pos (dq.2 q0), if_neg r1, if_pos r2, if_pos c1]
        · rw [if_neg (fun h => q0 (dq.1 h)), if_neg r1, if_pos r2, if_pos c1]
      · have hb2 : ¬ b < 2 * r := fun h => c1 (hc1.2 h)
        rw [decide_eq_false (by omega), Bool.false_or]
        by_cases c0 : c = 0
        · have hb3 := hc0.1 c0
          rw [show ((r : Int) == (b : Int) - (r : Int)) = true from beq_iff_eq.2 (by omega), Bool.true_and]
          by_cases q0 : 0 < q
          · have dd := dd q0
            rw [if_pos (dq.2 q0), if_pos (dq.2 q0), if_neg r1, if_pos r2, if_neg c1, if_pos c0]
            by_cases od : Int.tmod (rd (D q) 0) 2 = 1
            · rw [if_pos od, show ((q : Int) % 2 == 1) = true from beq_iff_eq.2 (by omega)]
              exact ⟨fun _ => rfl, fun h => by cases h⟩
            · rw [if_neg od, show ((q : Int) % 2 == 1) = false from beq_eq_false_iff_ne.2 (by omega)]
              exact ⟨fun h => (by cases h), fun _ => rfl⟩
          · rw [if_neg (fun h => q0 (dq.1 h)), if_neg r1, if_pos r2, if_neg c1, if_pos c0, show ((q : Int) % 2 == 1) = false from beq_eq_false_iff_ne.2 (by omega)]
            exact ⟨fun h => (by cases h), fun _ => rfl⟩
        · have hb3 : ¬ 2 * r = b := fun h => c0 (hc0.2 h)
          rw [show ((r : Int) == (b : Int) - (r : Int)) = false from beq_eq_false_iff_ne.2 (by omega), Bool.false_and]
          refine ⟨fun h => (by cases h), fun _ => ?_⟩
          by_cases q0 : 0 < q
          · rw [if_pos (dq.2 q0), if_pos (dq.2 q0), if_neg r1, if_pos r2, if_neg c1, if_neg c0]
          · rw [if_neg (fun h => q0 (dq.1 h)), if_neg r1, if_pos r2, if_neg c1, if_neg c0]
    · rw [if_neg r2]
      refine ⟨fun h => (by cases h), fun _ => ?_⟩
      by_cases q0 : 0 < q
      · rw [if_pos (dq.2 q0), if_pos (dq.2 q0), if_neg r1, if_neg r2]
      · rw [if_neg (fun h => q0 (dq.1 h)), if_neg r1, if_neg r2]

end Go.Proofs.Ythmjmkbahneneaa.PBig
end
