/- NumParts: Add, Sub, Mul and Part of any numbers are the document's. No condition. -/
import Derived.Test.YthmjmkbahneneaaBigC
namespace Go.Proofs.Ythmjmkbahneneaa.Pure
open Go.RowKit Go.Proofs.Ythmjmkbahneneaa.PNum Go.Proofs.Ythmjmkbahneneaa.NumA Go.Proofs.Ythmjmkbahneneaa.NumDiv Go.Proofs.Ythmjmkbahneneaa.NumPt Go.Proofs.Ythmjmkbahneneaa.Big Go.Proofs.YthmjmkbahneneaaW.PrintWords Go.Proofs.YthmjmkbahneneaaW.PrintLast

theorem NumParts (a b c round : Int) (ha : 0 ≤ a) (ha' : a < 18446744073709551616) (hb : 0 ≤ b) (hb' : b < 18446744073709551616) (hc : 0 ≤ c) (hc' : c < 18446744073709551616) :
    ∃ k, bourselaw01_NumParts.f k a b c round = some true := by
  obtain ⟨K1, k1⟩ := radd_ev a b ha ha' hb hb'
  obtain ⟨K2, k2⟩ := rmul_ev a b ha ha' hb hb'
  obtain ⟨K3, k3⟩ := rpart_ev a b c round ha ha' hb hb' hc hc'
  obtain ⟨K4, k4⟩ := part_ev a b c round ha ha' hb hb' hc hc'
  have k1 : ∀ k, K1 ≤ k → bourseref01_Add.f k a b = some (if a + b < 18446744073709551616 then (a + b, 0) else (0, 10)) := k1
  have k2 : ∀ k, K2 ≤ k → bourseref01_Mul.f k a b = some (if a * b < 18446744073709551616 then (a * b, 0) else (0, 10)) := k2
  have k3 : ∀ k, K3 ≤ k → bourseref01_Part.f k a b c round = some (partV a b c round) := k3
  have k4 : ∀ k, K4 ≤ k → num_Part.f k a b c round = some (partV a b c round) := k4
  have rs : bourseref01_Sub.f a b = num_Sub.f a b := by
    rw [sub_val a b ha ha' hb hb']
    unfold bourseref01_Sub.f
    by_cases h : a < b
    · rw [if_pos h, if_neg (by omega)]
    · rw [if_neg h, if_pos (by omega), wr _ (by omega) (by omega)]
  have s3 : num_Add.f 1 2 = some (3, 0) := by rw [add_val 1 2 (by decide) (by decide) (by decide) (by decide)]; rfl
  refine ⟨K1 + K2 + K3 + K4 + 3, ?_⟩
  unfold bourselaw01_NumParts.f
  rw [add_val a b ha ha' hb hb', k1 _ (by omega)]
  simp only [Option.bind_some, if_true, bne_self_eq_false]
  simp only [bourselaw01_NumParts.j0]
  rw [if_neg (by decide), rs, sub_val a b ha ha' hb hb']
  simp only [Option.bind_some, if_true, bne_self_eq_false]
  simp only [bourselaw01_NumParts.j1]
  rw [if_neg (by decide), mul_val a b ha ha' hb hb', k2 _ (by omega)]
  simp only [Option.bind_some, if_true, bne_self_eq_false]
  simp only [bourselaw01_NumParts.j2]
  rw [if_neg (by decide), k3 _ (by omega), k4 _ (by omega), s3]
  simp
end Go.Proofs.Ythmjmkbahneneaa.Pure
