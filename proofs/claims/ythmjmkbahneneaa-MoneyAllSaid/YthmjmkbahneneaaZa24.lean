/- MonBigD, struck of what this claim does not name (wip/tools/pack2.py). -/
import Derived.Test.YthmjmkbahneneaaZa23
section
namespace Go.Proofs.Ythmjmkbahneneaa.PBig
open Go.RowKit Go.Proofs.Ythmjmkbahneneaa.PMon Go.Proofs.Ythmjmkbahneneaa.MonA Go.Proofs.Ythmjmkbahneneaa.MonDiv Go.Proofs.YthmjmkbahneneaaW.PrintWords Go.Proofs.YthmjmkbahneneaaW.PrintLast Go.Proofs.YthmjmkbahneneaaW.PrintMore

theorem bit_go (a b : Nat) (hb : 0 < b) (la : (D a).length ≤ 80000) (lb : (D b).length ≤ 80000) (i : Nat) (W : Nat) (hW : W ≤ a) (res : List Int × List Int)
    (H : ∀ Q R : Nat, R < b → Q * b + R = W → Ev (fun k => bourseref01_divided.l0 k (D a) (D b) (D Q) (D R) (wrap64 ((i : Int) - 1))) res) :
    ∀ (d j Q R y : Nat), j + d = 32 → R < b → y < 2 ^ d → (Q * b + R) * 2 ^ d + y = W →
      Ev (fun k => bourseref01_divided.l1 k (D a) (D b) (D Q) (D R) (i : Int) ((y * 2 ^ j : Nat) : Int) (j : Int)) res := by
  intro d
  induction d with
  | zero =>
    intro j Q R y hj hR hy he
    refine Ev.step (f := fun k => bourseref01_divided.l0 k (D a) (D b) (D Q) (D R) (wrap64 ((i : Int) - 1))) (fun k => ?_) (H Q R hR (by rw [Nat.pow_zero, Nat.mul_one] at he; omega))
    simp only [bourseref01_divided.l1]
    rw [if_neg (by omega)]
  | succ d ih =>
    intro j Q R y hj hR hy he
    have hU : 2 ^ d * 2 ^ j = 2147483648 := by
      rw [← Nat.pow_add, show d + j = 31 by omega]
    have pd : 0 < 2 ^ d := Nat.two_pow_pos d
    have pj : 0 < 2 ^ j := Nat.two_pow_pos j
    have hQ : Q ≤ a := by
      have h1 : Q * 1 ≤ Q * b := Nat.mul_le_mul_left Q hb
      have h2 : (Q * b + R) * 1 ≤ (Q * b + R) * 2 ^ (d + 1) := Nat.mul_le_mul_left _ (Nat.two_pow_pos _)
      omega
    have lQ := len_le Q a hQ
    have lR := len_le R b (by omega)
    obtain ⟨bit, z, hyz, hz⟩ : ∃ (bit : Bool) (z : Nat), y = bit.toNat * 2 ^ d + z ∧ z < 2 ^ d := by
      by_cases h : 2 ^ d ≤ y
      · refine ⟨true, y - 2 ^ d, by simp; omega, ?_⟩
        rw [Nat.pow_succ] at hy
        omega
      · exact ⟨false, y, by simp, by omega⟩
    have hx : y * 2 ^ j = bit.toNat * 2147483648 + z * 2 ^ j := by rw [hyz, Nat.add_mul, Nat.mul_assoc, hU]
    have hzj : z * 2 ^ j < 2147483648 := by rw [← hU]; exact Nat.mul_lt_mul_of_pos_right hz pj
    have hz2 : z * 2 ^ (j + 1) = z * 2 ^ j * 2 := by rw [Nat.pow_succ, Nat.mul_assoc]
    have hbit : decide (((y * 2 ^ j : Nat) : Int) ≥ 2147483648) = bit := by
      rw [hx]
      generalize z * 2 ^ j = P at *
      cases bit
      · exact decide_eq_false (by simp only [Bool.toNat_false]; omega)
      · exact decide_eq_true (by simp only [Bool.toNat_true]; omega)
    have hnx : Int.tmod ((y * 2 ^ j : Nat) : Int) 2147483648 * 2 % 4294967296 = ((z * 2 ^ (j + 1) : Nat) : Int) := by
      rw [Int.tmod_eq_emod_of_nonneg (by omega), hx, hz2]
      generalize z * 2 ^ j = P at *
      cases bit
      · simp only [Bool.toNat_false]
        omega
      · simp only [Bool.toNat_true]
        omega
    have hbt : bit.toNat ≤ 1 := by cases bit <;> decide
    have h1 := doubled_ev R bit (by omega)
    have l1 : (D (2 * R + bit.toNat)).length ≤ (D b).length + 1 := by
      have := len_add b b (D b).length (Nat.le_refl _) (Nat.le_refl _)
      have := len_le (2 * R + bit.toNat) (b + b) (by omega)
      omega
    have h2 := compare_ev (2 * R + bit.toNat) b (by omega)
    have he2 : (2 * Q * b + (2 * R + bit.toNat)) * 2 ^ d + z = W := by
      rw [← he, hyz, Nat.pow_succ, Nat.add_mul, Nat.add_mul, Nat.add_mul, Nat.mul_assoc 2 Q b, Nat.mul_assoc 2 (Q * b), Nat.mul_assoc 2 R, ← Nat.mul_assoc (Q * b), ← Nat.mul_assoc R]
      omega
    refine Ev.step (f := fun k => (bourseref01_doubled.f k (D R) bit).bind fun t261 => ((bourseref01_compare.f k t261 (D b)).bind fun t264 => (if t264 ≥ 0 then ((bourseref01_minus.f k t261 (D b)).bind fun t265 => ((bourseref01_doubled.f k (D Q) true).bind fun t268 => (bourseref01_divided.l1 k (D a) (D b) t268 t265 (i : Int) ((z * 2 ^ (j + 1) : Nat) : Int) ((j + 1 : Nat) : Int)))) else ((bourseref01_doubled.f k (D Q) false).bind fun t271 => (bourseref01_divided.l1 k (D a) (D b) t271 t261 (i : Int) ((z * 2 ^ (j + 1) : Nat) : Int) ((j + 1 : Nat) : Int)))))) (fun k => ?_) ?_
    · simp only [bourseref01_divided.l1]
      rw [if_pos (by omega), hbit, hnx, wstep j (by omega)]
    refine Ev.bind (f := fun (k : Nat) (t261 : List Int) => ((bourseref01_compare.f k t261 (D b)).bind fun t264 => (if t264 ≥ 0 then ((bourseref01_minus.f k t261 (D b)).bind fun t265 => ((bourseref01_doubled.f k (D Q) true).bind fun t268 => (bourseref01_divided.l1 k (D a) (D b) t268 t265 (i : Int) ((z * 2 ^ (j + 1) : Nat) : Int) ((j + 1 : Nat) : Int)))) else ((bourseref01_doubled.f k (D Q) false).bind fun t271 => (bourseref01_divided.l1 k (D a) (D b) t271 t261 (i : Int) ((z * 2 ^ (j + 1) : Nat) : Int) ((j + 1 : Nat) : Int)))))) h1 ?_
    refine Ev.bind (f := fun (k : Nat) (t264 : Int) => (if t264 ≥ 0 then ((bourseref01_minus.f k (D (2 * R + bit.toNat)) (D b)).bind fun t265 => ((bourseref01_doubled.f k (D Q) true).bind fun t268 => (bourseref01_divided.l1 k (D a) (D b) t268 t265 (i : Int) ((z * 2 ^ (j + 1) : Nat) : Int) ((j + 1 : Nat) : Int)))) else ((bourseref01_doubled.f k (D Q) false).bind fun t271 => (bourseref01_divided.l1 k (D a) (D b) t271 (D (2 * R + bit.toNat)) (i : Int) ((z * 2 ^ (j + 1) : Nat) : Int) ((j + 1 : Nat) : Int))))) h2 ?_
    by_cases hc : b ≤ 2 * R + bit.toNat
    · have hcm : cmp ((2 * R + bit.toNat : Nat) : Int) (b : Int) ≥ 0 := by
        unfold cmp
        rw [if_neg (by omega)]
        split <;> decide
      refine Ev.congr (fun k => if_pos hcm) ?_
      have h3 := minus_ev (2 * R + bit.toNat) b (by omega) hc
      have h4 := doubled_ev Q true (by omega)
      refine Ev.bind (f := fun (k : Nat) (t265 : List Int) => ((bourseref01_doubled.f k (D Q) true).bind fun t268 => (bourseref01_divided.l1 k (D a) (D b) t268 t265 (i : Int) ((z * 2 ^ (j + 1) : Nat) : Int) ((j + 1 : Nat) : Int)))) h3 ?_
      refine Ev.bind (f := fun (k : Nat) (t268 : List Int) => (bourseref01_divided.l1 k (D a) (D b) t268 (D (2 * R + bit.toNat - b)) (i : Int) ((z * 2 ^ (j + 1) : Nat) : Int) ((j + 1 : Nat) : Int))) h4 ?_
      refine ih (j + 1) _ _ z (by omega) (by omega) hz ?_
      rw [← he2]
      congr 2
      simp only [Bool.toNat_true]
      rw [Nat.add_mul, Nat.one_mul]
      omega
    · have hcm : ¬ cmp ((2 * R + bit.toNat : Nat) : Int) (b : Int) ≥ 0 := by
        unfold cmp
        rw [if_pos (by omega)]
        decide
      refine Ev.congr (fun k => if_neg hcm) ?_
      have h4 := doubled_ev Q false (by omega)
      refine Ev.bind (f := fun (k : Nat) (t271 : List Int) => (bourseref01_divided.l1 k (D a) (D b) t271 (D (2 * R + bit.toNat)) (i : Int) ((z * 2 ^ (j + 1) : Nat) : Int) ((j + 1 : Nat) : Int))) h4 ?_
      refine ih (j + 1) _ _ z (by omega) (by omega) hz ?_
      rw [← he2]
      simp

theorem vl_drop_le (l : List Int) (h : Dg l) (i : Nat) : vl (l.drop i) ≤ vl l := by
  have h1 : vl (l.take i ++ l.drop i) = vl l := by rw [List.take_append_drop]
  rw [vl_append] at h1
  have h2 := vl_nonneg _ (h.take i)
  have h3 := vl_nonneg _ (h.drop i)
  have h4 : 1 * vl (l.drop i) ≤ 4294967296 ^ (l.take i).length * vl (l.drop i) := Int.mul_le_mul_of_nonneg_right (pw_pos _) h3
  omega

theorem div_go (a b : Nat) (hb : 0 < b) (la : (D a).length ≤ 80000) (lb : (D b).length ≤ 80000) :
    ∀ (i Q R : Nat), i ≤ (D a).length → R < b → ((Q * b + R : Nat) : Int) = vl ((D a).drop i) → Ev (fun k => bourseref01_divided.l0 k (D a) (D b) (D Q) (D R) ((i : Int) - 1)) (D (a / b), D (a % b)) := by
  intro i
  induction i with
  | zero =>
    intro Q R hi hR he
    rw [List.drop_zero, vl_D] at he
    have he : Q * b + R = a := by omega
    have e := (Nat.div_mod_unique (a := a) (b := b) (c := R) (d := Q) hb).2 ⟨by rw [Nat.mul_comm]; omega, hR⟩
    rw [e.1, e.2]
    refine Ev.step (f := fun _ => some (D Q, D R)) (fun k => ?_) (Ev.now _)
    simp only [bourseref01_divided.l0]
    rw [if_neg (by omega)]
  | succ i ih =>
    intro Q R hi hR he
    have hil : i < (D a).length := by omega
    have e1 := vl_drop (D a) i hil
    have gl := (D_dg a).getD i
    have dle := vl_drop_le (D a) (D_dg a) i
    rw [vl_D] at dle
    have hn := vl_nonneg _ ((D_dg a).drop i)
    have wi : wrap64 ((i : Int) - 1) = (i : Int) - 1 := w64 _ (by omega) (by omega)
    have hb := bit_go a b hb la lb i (vl ((D a).drop i)).toNat (by omega) (D (a / b), D (a % b)) (fun Q R hR he => by rw [wi]; exact ih Q R (by omega) hR (by omega)) 32 0 Q R ((D a).getD i 0).toNat (by omega) hR (by omega) (by
      rw [e1, ← he]
      omega)
    rw [Nat.pow_zero, Nat.mul_one, show ((((D a).getD i 0).toNat : Nat) : Int) = (D a).getD i 0 by omega] at hb
    refine Ev.step (f := fun k => bourseref01_divided.l1 k (D a) (D b) (D Q) (D R) (i : Int) ((D a).getD i 0) 0) (fun k => ?_) hb
    rw [show ((i + 1 : Nat) : Int) - 1 = (i : Int) by omega]
    simp only [bourseref01_divided.l0]
    rw [if_pos (by omega), if_pos (by omega), if_pos (by omega), rdn]

theorem divided_ev (a b : Nat) (hb : 0 < b) (la : (D a).length ≤ 80000) (lb : (D b).length ≤ 80000) : Ev (fun k => bourseref01_divided.f k (D a) (D b)) (D (a / b), D (a % b)) := by
  have := div_go a b hb la lb (D a).length 0 0 (Nat.le_refl _) hb (by rw [vl_drop_end _ _ (Nat.le_refl _)]; simp)
  rw [D_zero] at this
  unfold bourseref01_divided.f
  rw [w64 _ (by omega) (by omega)]
  exact this

end Go.Proofs.Ythmjmkbahneneaa.PBig
end
