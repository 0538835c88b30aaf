/- The reference's numbers as printed: quotients, rounding; Add, Sub, Mul, Part, Sum. -/
import Derived.Test.YthmjmkbahneneaaBigB
import Derived.Test.YthmjmkbahneneaaNumSh
import Derived.Test.YthmjmkbahneneaaPNumx6
import Derived.Test.YthmjmkbahneneaaPNumx7
namespace Go.Proofs.Ythmjmkbahneneaa.Big
open Go.RowKit Go.Proofs.Ythmjmkbahneneaa.PNum Go.Proofs.Ythmjmkbahneneaa.NumA Go.Proofs.Ythmjmkbahneneaa.NumDiv Go.Proofs.Ythmjmkbahneneaa.NumPt Go.Proofs.Ythmjmkbahneneaa.NumSh Go.Proofs.YthmjmkbahneneaaW.PrintWords Go.Proofs.YthmjmkbahneneaaW.PrintLast Go.Proofs.YthmjmkbahneneaaW.PrintMore

theorem bit_go (a b : Nat) (hb : 0 < b) (la : (D a).length ≤ 80000) (lb : (D b).length ≤ 80000) (i : Nat) (W : Nat) (hW : W ≤ a) (res : List Int × List Int)
    (H : ∀ Q R : Nat, R < b → Q * b + R = W → Ev (fun k => bourseref01_divided.l0 k (D a) (D b) (D Q) (D R) (wrap64 ((i : Int) - 1))) res) :
    ∀ (d j Q R y : Nat), j + d = 32 → R < b → y < 2 ^ d → (Q * b + R) * 2 ^ d + y = W →
      Ev (fun k => bourseref01_divided.l1 k (D a) (D b) (D Q) (D R) (i : Int) ((y * 2 ^ j : Nat) : Int) (j : Int)) res := by
  intro d
  induction d with
  | zero =>
    intro j Q R y hj hR hy he
    refine Ev.step (f := fun k => bourseref01_divided.l0 k (D a) (D b) (D Q) (D R) (wrap64 ((i : Int) - 1))) (fun k => ?_) (H Q R hR (by rw [Nat.pow_zero, Nat.mul_one] at he; omega))
    simp only [bourseref01_divided.l1]
    rw [if_neg (by omega)]
  | succ d ih =>
    intro j Q R y hj hR hy he
    have hU : 2 ^ d * 2 ^ j = 2147483648 := by
      rw [← Nat.pow_add, show d + j = 31 by omega]
    have pd : 0 < 2 ^ d := Nat.two_pow_pos d
    have pj : 0 < 2 ^ j := Nat.two_pow_pos j
    have hQ : Q ≤ a := by
      have h1 : Q * 1 ≤ Q * b := Nat.mul_le_mul_left Q hb
      have h2 : (Q * b + R) * 1 ≤ (Q * b + R) * 2 ^ (d + 1) := Nat.mul_le_mul_left _ (Nat.two_pow_pos _)
      omega
    have lQ := len_le Q a hQ
    have lR := len_le R b (by omega)
    obtain ⟨bit, z, hyz, hz⟩ : ∃ (bit : Bool) (z : Nat), y = bit.toNat * 2 ^ d + z ∧ z < 2 ^ d := by
      by_cases h : 2 ^ d ≤ y
      · refine ⟨true, y - 2 ^ d, by simp; omega, ?_⟩
        rw [Nat.pow_succ] at hy
        omega
      · exact ⟨false, y, by simp, by omega⟩
    have hx : y * 2 ^ j = bit.toNat * 2147483648 + z * 2 ^ j := by rw [hyz, Nat.add_mul, Nat.mul_assoc, hU]
    have hzj : z * 2 ^ j < 2147483648 := by rw [← hU]; exact Nat.mul_lt_mul_of_pos_right hz pj
    have hz2 : z * 2 ^ (j + 1) = z * 2 ^ j * 2 := by rw [Nat.pow_succ, Nat.mul_assoc]
    have hbit : decide (((y * 2 ^ j : Nat) : Int) ≥ 2147483648) = bit := by
      rw [hx]
      generalize z * 2 ^ j = P at *
      cases bit
      · exact decide_eq_false (by simp only [Bool.toNat_false]; omega)
      · exact decide_eq_true (by simp only [Bool.toNat_true]; omega)
    have hnx : Int.tmod ((y * 2 ^ j : Nat) : Int) 2147483648 * 2 % 4294967296 = ((z * 2 ^ (j + 1) : Nat) : Int) := by
      rw [Int.tmod_eq_emod_of_nonneg (by omega), hx, hz2]
      generalize z * 2 ^ j = P at *
      cases bit
      · simp only [Bool.toNat_false]
        omega
      · simp only [Bool.toNat_true]
        omega
    have hbt : bit.toNat ≤ 1 := by cases bit <;> decide
    have h1 := doubled_ev R bit (by omega)
    have l1 : (D (2 * R + bit.toNat)).length ≤ (D b).length + 1 := by
      have := len_add b b (D b).length (Nat.le_refl _) (Nat.le_refl _)
      have := len_le (2 * R + bit.toNat) (b + b) (by omega)
      omega
    have h2 := compare_ev (2 * R + bit.toNat) b (by omega)
    have he2 : (2 * Q * b + (2 * R + bit.toNat)) * 2 ^ d + z = W := by
      rw [← he, hyz, Nat.pow_succ, Nat.add_mul, Nat.add_mul, Nat.add_mul, Nat.mul_assoc 2 Q b, Nat.mul_assoc 2 (Q * b), Nat.mul_assoc 2 R, ← Nat.mul_assoc (Q * b), ← Nat.mul_assoc R]
      omega
    refine Ev.step (f := fun k => (bourseref01_doubled.f k (D R) bit).bind fun t261 => ((bourseref01_compare.f k t261 (D b)).bind fun t264 => (if t264 ≥ 0 then ((bourseref01_minus.f k t261 (D b)).bind fun t265 => ((bourseref01_doubled.f k (D Q) true).bind fun t268 => (bourseref01_divided.l1 k (D a) (D b) t268 t265 (i : Int) ((z * 2 ^ (j + 1) : Nat) : Int) ((j + 1 : Nat) : Int)))) else ((bourseref01_doubled.f k (D Q) false).bind fun t271 => (bourseref01_divided.l1 k (D a) (D b) t271 t261 (i : Int) ((z * 2 ^ (j + 1) : Nat) : Int) ((j + 1 : Nat) : Int)))))) (fun k => ?_) ?_
    · simp only [bourseref01_divided.l1]
      rw [if_pos (by omega), hbit, hnx, wstep j (by omega)]
    refine Ev.bind (f := fun (k : Nat) (t261 : List Int) => ((bourseref01_compare.f k t261 (D b)).bind fun t264 => (if t264 ≥ 0 then ((bourseref01_minus.f k t261 (D b)).bind fun t265 => ((bourseref01_doubled.f k (D Q) true).bind fun t268 => (bourseref01_divided.l1 k (D a) (D b) t268 t265 (i : Int) ((z * 2 ^ (j + 1) : Nat) : Int) ((j + 1 : Nat) : Int)))) else ((bourseref01_doubled.f k (D Q) false).bind fun t271 => (bourseref01_divided.l1 k (D a) (D b) t271 t261 (i : Int) ((z * 2 ^ (j + 1) : Nat) : Int) ((j + 1 : Nat) : Int)))))) h1 ?_
    refine Ev.bind (f := fun (k : Nat) (t264 : Int) => (if t264 ≥ 0 then ((bourseref01_minus.f k (D (2 * R + bit.toNat)) (D b)).bind fun t265 => ((bourseref01_doubled.f k (D Q) true).bind fun t268 => (bourseref01_divided.l1 k (D a) (D b) t268 t265 (i : Int) ((z * 2 ^ (j + 1) : Nat) : Int) ((j + 1 : Nat) : Int)))) else ((bourseref01_doubled.f k (D Q) false).bind fun t271 => (bourseref01_divided.l1 k (D a) (D b) t271 (D (2 * R + bit.toNat)) (i : Int) ((z * 2 ^ (j + 1) : Nat) : Int) ((j + 1 : Nat) : Int))))) h2 ?_
    by_cases hc : b ≤ 2 * R + bit.toNat
    · have hcm : cmp ((2 * R + bit.toNat : Nat) : Int) (b : Int) ≥ 0 := by
        unfold cmp
        rw [if_neg (by omega)]
        split <;> decide
      refine Ev.congr (fun k => if_pos hcm) ?_
      have h3 := minus_ev (2 * R + bit.toNat) b (by omega) hc
      have h4 := doubled_ev Q true (by omega)
      refine Ev.bind (f := fun (k : Nat) (t265 : List Int) => ((bourseref01_doubled.f k (D Q) true).bind fun t268 => (bourseref01_divided.l1 k (D a) (D b) t268 t265 (i : Int) ((z * 2 ^ (j + 1) : Nat) : Int) ((j + 1 : Nat) : Int)))) h3 ?_
      refine Ev.bind (f := fun (k : Nat) (t268 : List Int) => (bourseref01_divided.l1 k (D a) (D b) t268 (D (2 * R + bit.toNat - b)) (i : Int) ((z * 2 ^ (j + 1) : Nat) : Int) ((j + 1 : Nat) : Int))) h4 ?_
      refine ih (j + 1) _ _ z (by omega) (by omega) hz ?_
      rw [← he2]
      congr 2
      simp only [Bool.toNat_true]
      rw [Nat.add_mul, Nat.one_mul]
      omega
    · have hcm : ¬ cmp ((2 * R + bit.toNat : Nat) : Int) (b : Int) ≥ 0 := by
        unfold cmp
        rw [if_pos (by omega)]
        decide
      refine Ev.congr (fun k => if_neg hcm) ?_
      have h4 := doubled_ev Q false (by omega)
      refine Ev.bind (f := fun (k : Nat) (t271 : List Int) => (bourseref01_divided.l1 k (D a) (D b) t271 (D (2 * R + bit.toNat)) (i : Int) ((z * 2 ^ (j + 1) : Nat) : Int) ((j + 1 : Nat) : Int))) h4 ?_
      refine ih (j + 1) _ _ z (by omega) (by omega) hz ?_
      rw [← he2]
      simp

theorem vl_drop_le (l : List Int) (h : Dg l) (i : Nat) : vl (l.drop i) ≤ vl l := by
  have h1 : vl (l.take i ++ l.drop i) = vl l := by rw [List.take_append_drop]
  rw [vl_append] at h1
  have h2 := vl_nonneg _ (h.take i)
  have h3 := vl_nonneg _ (h.drop i)
  have h4 : 1 * vl (l.drop i) ≤ 4294967296 ^ (l.take i).length * vl (l.drop i) := Int.mul_le_mul_of_nonneg_right (pw_pos _) h3
  omega

theorem div_go (a b : Nat) (hb : 0 < b) (la : (D a).length ≤ 80000) (lb : (D b).length ≤ 80000) :
    ∀ (i Q R : Nat), i ≤ (D a).length → R < b → ((Q * b + R : Nat) : Int) = vl ((D a).drop i) → Ev (fun k => bourseref01_divided.l0 k (D a) (D b) (D Q) (D R) ((i : Int) - 1)) (D (a / b), D (a % b)) := by
  intro i
  induction i with
  | zero =>
    intro Q R hi hR he
    rw [List.drop_zero, vl_D] at he
    have he : Q * b + R = a := by omega
    have e := (Nat.div_mod_unique (a := a) (b := b) (c := R) (d := Q) hb).2 ⟨by rw [Nat.mul_comm]; omega, hR⟩
    rw [e.1, e.2]
    refine Ev.step (f := fun _ => some (D Q, D R)) (fun k => ?_) (Ev.now _)
    simp only [bourseref01_divided.l0]
    rw [if_neg (by omega)]
  | succ i ih =>
    intro Q R hi hR he
    have hil : i < (D a).length := by omega
    have e1 := vl_drop (D a) i hil
    have gl := (D_dg a).getD i
    have dle := vl_drop_le (D a) (D_dg a) i
    rw [vl_D] at dle
    have hn := vl_nonneg _ ((D_dg a).drop i)
    have wi : wrap64 ((i : Int) - 1) = (i : Int) - 1 := w64 _ (by omega) (by omega)
    have hb := bit_go a b hb la lb i (vl ((D a).drop i)).toNat (by omega) (D (a / b), D (a % b)) (fun Q R hR he => by rw [wi]; exact ih Q R (by omega) hR (by omega)) 32 0 Q R ((D a).getD i 0).toNat (by omega) hR (by omega) (by
      rw [e1, ← he]
      omega)
    rw [Nat.pow_zero, Nat.mul_one, show ((((D a).getD i 0).toNat : Nat) : Int) = (D a).getD i 0 by omega] at hb
    refine Ev.step (f := fun k => bourseref01_divided.l1 k (D a) (D b) (D Q) (D R) (i : Int) ((D a).getD i 0) 0) (fun k => ?_) hb
    rw [show ((i + 1 : Nat) : Int) - 1 = (i : Int) by omega]
    simp only [bourseref01_divided.l0]
    rw [if_pos (by omega), if_pos (by omega), if_pos (by omega), rdn]

theorem divided_ev (a b : Nat) (hb : 0 < b) (la : (D a).length ≤ 80000) (lb : (D b).length ≤ 80000) : Ev (fun k => bourseref01_divided.f k (D a) (D b)) (D (a / b), D (a % b)) := by
  have := div_go a b hb la lb (D a).length 0 0 (Nat.le_refl _) hb (by rw [vl_drop_end _ _ (Nat.le_refl _)]; simp)
  rw [D_zero] at this
  unfold bourseref01_divided.f
  rw [w64 _ (by omega) (by omega)]
  exact this

theorem D_length_pos (n : Nat) : ((D n).length : Int) > 0 ↔ 0 < n := by
  by_cases h : n = 0
  · subst h
    rw [D_zero]
    simp
  · rw [D_pos n h, List.length_cons]
    omega
theorem D_odd (n : Nat) (h : 0 < n) : Int.tmod (rd (D n) 0) 2 = ((n % 2 : Nat) : Int) := by
  rw [D_pos n (by omega)]
  show Int.tmod ((n % 4294967296 : Nat) : Int) 2 = _
  rw [Int.tmod_eq_emod_of_nonneg (by omega)]
  omega

theorem rounded_ev (a b : Nat) (hb : 0 < b) (la : (D a).length ≤ 80000) (lb : (D b).length ≤ 80000) (round : Int) :
    Ev (fun k => bourseref01_rounded.f k (D a) (D b) round) (D (a / b + (upB (a / b : Nat) (a % b : Nat) (b : Nat) round).toNat)) := by
  have h1 := divided_ev a b hb la lb
  have hr : a % b < b := Nat.mod_lt _ hb
  have lr := len_le (a % b) b (by omega)
  have lq := len_le (a / b) a (Nat.div_le_self _ _)
  have h2 := doubled_ev (a % b) false (by omega)
  have l2 : (D (2 * (a % b) + false.toNat)).length ≤ (D b).length + 1 := by
    have := len_add b b (D b).length (Nat.le_refl _) (Nat.le_refl _)
    have := len_le (2 * (a % b) + false.toNat) (b + b) (by simp; omega)
    omega
  have h3 := compare_ev (2 * (a % b) + false.toNat) b (by omega)
  have h4 := plus_ev (a / b) 1 (by omega) (by rw [← one_D]; simp)
  rw [← one_D] at h4
  rw [show 2 * (a % b) + false.toNat = 2 * (a % b) by simp] at h2 h3
  obtain ⟨K1, k1⟩ := h1
  obtain ⟨K2, k2⟩ := h2
  obtain ⟨K3, k3⟩ := h3
  obtain ⟨K4, k4⟩ := h4
  refine ⟨K1 + K2 + K3 + K4, fun k hk => ?_⟩
  have k1 : bourseref01_divided.f k (D a) (D b) = some (D (a / b), D (a % b)) := k1 k (by omega)
  have k2 : bourseref01_doubled.f k (D (a % b)) false = some (D (2 * (a % b))) := k2 k (by omega)
  have k3 : bourseref01_compare.f k (D (2 * (a % b))) (D b) = some (cmp ((2 * (a % b) : Nat) : Int) (b : Int)) := k3 k (by omega)
  have k4 : bourseref01_plus.f k (D (a / b)) [1] = some (D (a / b + 1)) := k4 k (by omega)
  have dq := D_length_pos (a / b)
  have dr := D_length_pos (a % b)
  have dd := D_odd (a / b)
  have hc1 : cmp ((2 * (a % b) : Nat) : Int) (b : Int) > 0 ↔ b < 2 * (a % b) := by
    unfold cmp
    split
    · constructor
      · intro h; exact absurd h (by decide)
      · intro h; omega
    · split
      · constructor
        · intro h; exact absurd h (by decide)
        · intro h; omega
      · constructor
        · intro _; omega
        · intro _; decide
  have hc0 : cmp ((2 * (a % b) : Nat) : Int) (b : Int) = 0 ↔ 2 * (a % b) = b := by
    unfold cmp
    split
    · constructor
      · intro h; exact absurd h (by decide)
      · intro h; omega
    · split
      · constructor
        · intro _; omega
        · intro _; rfl
      · constructor
        · intro h; exact absurd h (by decide)
        · intro h; omega
  show bourseref01_rounded.f k (D a) (D b) round = _
  unfold bourseref01_rounded.f
  rw [k1]
  simp only [Option.bind_some]
  rw [k2]
  simp only [Option.bind_some]
  rw [k3]
  simp only [Option.bind_some]
  rw [k4]
  simp only [Option.bind_some]
  generalize a / b = q at *
  generalize a % b = r at *
  generalize cmp ((2 * r : Nat) : Int) (b : Int) = c at *
  have hup : ∀ z : Option (List Int), ((upB (q : Int) (r : Int) (b : Int) round = true → z = some (D (q + 1))) ∧ (upB (q : Int) (r : Int) (b : Int) round = false → z = some (D q))) → z = some (D (q + (upB (q : Int) (r : Int) (b : Int) round).toNat)) := by
    intro z hz
    cases hu : upB (q : Int) (r : Int) (b : Int) round
    · exact hz.2 hu
    · exact hz.1 hu
  refine hup _ ?_
  unfold upB
  by_cases r1 : round = 1
  · rw [if_pos r1]
    by_cases r0 : 0 < r
    · rw [decide_eq_true (by omega)]
      refine ⟨fun _ => ?_, fun h => by cases h⟩
      by_cases q0 : 0 < q
      · rw [if_pos (dq.2 q0), if_pos (dq.2 q0), if_pos r1, if_pos (dr.2 r0)]
      · rw [if_neg (fun h => q0 (dq.1 h)), if_pos r1, if_pos (dr.2 r0)]
    · rw [decide_eq_false (by omega)]
      refine ⟨fun h => (by cases h), fun _ => ?_⟩
      by_cases q0 : 0 < q
      · rw [if_pos (dq.2 q0), if_pos (dq.2 q0), if_pos r1, if_neg (fun h => r0 (dr.1 h)), if_neg (by omega)]
      · rw [if_neg (fun h => q0 (dq.1 h)), if_pos r1, if_neg (fun h => r0 (dr.1 h)), if_neg (by omega)]
  · rw [if_neg r1]
    by_cases r2 : round = 2
    · rw [if_pos r2]
      by_cases c1 : c > 0
      · have hb2 := hc1.1 c1
        rw [decide_eq_true (by omega), Bool.true_or]
        refine ⟨fun _ => ?_, fun h => by cases h⟩
        by_cases q0 : 0 < q
        · rw [if_pos (dq.2 q0), if_pos (dq.2 q0), if_neg r1, if_pos r2, if_pos c1]
        · rw [if_neg (fun h => q0 (dq.1 h)), if_neg r1, if_pos r2, if_pos c1]
      · have hb2 : ¬ b < 2 * r := fun h => c1 (hc1.2 h)
        rw [decide_eq_false (by omega), Bool.false_or]
        by_cases c0 : c = 0
        · have hb3 := hc0.1 c0
          rw [show ((r : Int) == (b : Int) - (r : Int)) = true from beq_iff_eq.2 (by omega), Bool.true_and]
          by_cases q0 : 0 < q
          · have dd := dd q0
            rw [if_pos (dq.2 q0), if_pos (dq.2 q0), if_neg r1, if_pos r2, if_neg c1, if_pos c0]
            by_cases od : Int.tmod (rd (D q) 0) 2 = 1
            · rw [if_pos od, show ((q : Int) % 2 == 1) = true from beq_iff_eq.2 (by omega)]
              exact ⟨fun _ => rfl, fun h => by cases h⟩
            · rw [if_neg od, show ((q : Int) % 2 == 1) = false from beq_eq_false_iff_ne.2 (by omega)]
              exact ⟨fun h => (by cases h), fun _ => rfl⟩
          · rw [if_neg (fun h => q0 (dq.1 h)), if_neg r1, if_pos r2, if_neg c1, if_pos c0, show ((q : Int) % 2 == 1) = false from beq_eq_false_iff_ne.2 (by omega)]
            exact ⟨fun h => (by cases h), fun _ => rfl⟩
        · have hb3 : ¬ 2 * r = b := fun h => c0 (hc0.2 h)
          rw [show ((r : Int) == (b : Int) - (r : Int)) = false from beq_eq_false_iff_ne.2 (by omega), Bool.false_and]
          refine ⟨fun h => (by cases h), fun _ => ?_⟩
          by_cases q0 : 0 < q
          · rw [if_pos (dq.2 q0), if_pos (dq.2 q0), if_neg r1, if_pos r2, if_neg c1, if_neg c0]
          · rw [if_neg (fun h => q0 (dq.1 h)), if_neg r1, if_pos r2, if_neg c1, if_neg c0]
    · rw [if_neg r2]
      refine ⟨fun h => (by cases h), fun _ => ?_⟩
      by_cases q0 : 0 < q
      · rw [if_pos (dq.2 q0), if_pos (dq.2 q0), if_neg r1, if_neg r2]
      · rw [if_neg (fun h => q0 (dq.1 h)), if_neg r1, if_neg r2]

theorem len2 (x : Int) (h0 : 0 ≤ x) (h1 : x < 18446744073709551616) : (D x.toNat).length ≤ 2 := by
  rw [D_len]
  have : (4294967296 : Nat) ^ 2 = 18446744073709551616 := rfl
  omega

theorem radd_ev (a b : Int) (ha : 0 ≤ a) (ha' : a < 18446744073709551616) (hb : 0 ≤ b) (hb' : b < 18446744073709551616) :
    Ev (fun k => bourseref01_Add.f k a b) (if a + b < 18446744073709551616 then (a + b, 0) else (0, 10)) := by
  have h1 := of_ev a ha ha'
  have h2 := of_ev b hb hb'
  have l1 := len2 a ha ha'
  have l2 := len2 b hb hb'
  have h3 := plus_ev a.toNat b.toNat (by omega) (by omega)
  have h4 := word_ev (a.toNat + b.toNat)
  unfold bourseref01_Add.f
  refine Ev.bind (f := fun (k : Nat) (t194 : List Int) => ((bourseref01_of.f k b).bind fun t197 => ((bourseref01_plus.f k t194 t197).bind fun t200 => ((bourseref01_word.f k t200).bind fun bt203 => (some (bt203.1, bt203.2)))))) h1 ?_
  refine Ev.bind (f := fun (k : Nat) (t197 : List Int) => ((bourseref01_plus.f k (D a.toNat) t197).bind fun t200 => ((bourseref01_word.f k t200).bind fun bt203 => (some (bt203.1, bt203.2))))) h2 ?_
  refine Ev.bind (f := fun (k : Nat) (t200 : List Int) => ((bourseref01_word.f k t200).bind fun bt203 => (some (bt203.1, bt203.2)))) h3 ?_
  refine Ev.bind (f := fun (_ : Nat) (bt203 : Int × Int) => (some (bt203.1, bt203.2))) h4 ?_
  by_cases h : a + b < 18446744073709551616
  · rw [if_pos h, if_pos (by omega), show ((a.toNat + b.toNat : Nat) : Int) = a + b by omega]
    exact Ev.now _
  · rw [if_neg h, if_neg (by omega)]
    exact Ev.now _

theorem rmul_ev (a b : Int) (ha : 0 ≤ a) (ha' : a < 18446744073709551616) (hb : 0 ≤ b) (hb' : b < 18446744073709551616) :
    Ev (fun k => bourseref01_Mul.f k a b) (if a * b < 18446744073709551616 then (a * b, 0) else (0, 10)) := by
  have h1 := of_ev a ha ha'
  have h2 := of_ev b hb hb'
  have l1 := len2 a ha ha'
  have l2 := len2 b hb hb'
  have h3 := times_ev a.toNat b.toNat (by omega) (by omega)
  have h4 := word_ev (a.toNat * b.toNat)
  have e : ((a.toNat * b.toNat : Nat) : Int) = a * b := by rw [Int.natCast_mul, Int.toNat_of_nonneg ha, Int.toNat_of_nonneg hb]
  have hlt : (a.toNat * b.toNat < 18446744073709551616) ↔ a * b < 18446744073709551616 := by omega
  unfold bourseref01_Mul.f
  refine Ev.bind (f := fun (k : Nat) (t194 : List Int) => ((bourseref01_of.f k b).bind fun t197 => ((bourseref01_times.f k t194 t197).bind fun t200 => ((bourseref01_word.f k t200).bind fun bt203 => (some (bt203.1, bt203.2)))))) h1 ?_
  refine Ev.bind (f := fun (k : Nat) (t197 : List Int) => ((bourseref01_times.f k (D a.toNat) t197).bind fun t200 => ((bourseref01_word.f k t200).bind fun bt203 => (some (bt203.1, bt203.2))))) h2 ?_
  refine Ev.bind (f := fun (k : Nat) (t200 : List Int) => ((bourseref01_word.f k t200).bind fun bt203 => (some (bt203.1, bt203.2)))) h3 ?_
  refine Ev.bind (f := fun (_ : Nat) (bt203 : Int × Int) => (some (bt203.1, bt203.2))) h4 ?_
  by_cases h : a * b < 18446744073709551616
  · rw [if_pos h, if_pos (hlt.2 h), e]
    exact Ev.now _
  · rw [if_neg h, if_neg (fun hh => h (hlt.1 hh))]
    exact Ev.now _

theorem rpart_ev (a b c round : Int) (ha : 0 ≤ a) (ha' : a < 18446744073709551616) (hb : 0 ≤ b) (hb' : b < 18446744073709551616) (hc : 0 ≤ c) (hc' : c < 18446744073709551616) :
    Ev (fun k => bourseref01_Part.f k a b c round) (partV a b c round) := by
  unfold bourseref01_Part.f partV
  by_cases h1 : round < 0
  · rw [if_pos (Or.inl h1)]
    exact Ev.congr (fun k => if_pos h1) (Ev.step (f := fun _ => some (0, 1)) (fun k => by simp only [bourseref01_Part.j0, if_true]) (Ev.now _))
  refine Ev.congr (fun k => if_neg h1) ?_
  by_cases h2 : round > 2
  · rw [if_pos (Or.inr h2), decide_eq_true h2]
    exact Ev.step (f := fun _ => some (0, 1)) (fun k => by simp only [bourseref01_Part.j0, if_true]) (Ev.now _)
  rw [if_neg (by omega), decide_eq_false h2]
  by_cases h3 : c = 0
  · rw [if_pos h3]
    exact Ev.step (f := fun _ => some (0, 11)) (fun k => by simp only [bourseref01_Part.j0]; rw [if_neg (by decide), if_pos h3]) (Ev.now _)
  rw [if_neg h3]
  have g1 := of_ev a ha ha'
  have g2 := of_ev b hb hb'
  have g3 := of_ev c hc hc'
  have l1 := len2 a ha ha'
  have l2 := len2 b hb hb'
  have l3 := len2 c hc hc'
  have g4 := times_ev a.toNat b.toNat (by omega) (by omega)
  have l4 : (D (a.toNat * b.toNat)).length ≤ 4 := by
    rw [D_len] at l1 l2 ⊢
    have := Nat.mul_lt_mul'' l1 l2
    rwa [← Nat.pow_add] at this
  have g5 := rounded_ev (a.toNat * b.toNat) c.toNat (by omega) (by omega) (by omega) round
  have e : ((a.toNat * b.toNat : Nat) : Int) = a * b := by rw [Int.natCast_mul, Int.toNat_of_nonneg ha, Int.toNat_of_nonneg hb]
  have ec : ((c.toNat : Nat) : Int) = c := Int.toNat_of_nonneg hc
  have eq : ((a.toNat * b.toNat / c.toNat : Nat) : Int) = a * b / c := by rw [Int.natCast_ediv, e, ec]
  have er : ((a.toNat * b.toNat % c.toNat : Nat) : Int) = a * b % c := by rw [Int.natCast_emod, e, ec]
  rw [eq, er, ec] at g5
  have g6 := word_ev (a.toNat * b.toNat / c.toNat + (upB (a * b / c) (a * b % c) c round).toNat)
  refine Ev.step (f := fun k => ((bourseref01_of.f k a).bind fun t333 => ((bourseref01_of.f k b).bind fun t336 => ((bourseref01_times.f k t333 t336).bind fun t339 => ((bourseref01_of.f k c).bind fun t342 => ((bourseref01_rounded.f k t339 t342 round).bind fun t345 => ((bourseref01_word.f k t345).bind fun bt348 => (some (bt348.1, bt348.2))))))))) (fun k => by simp only [bourseref01_Part.j0]; rw [if_neg (by decide), if_neg h3]) ?_
  refine Ev.bind (f := fun (k : Nat) (t333 : List Int) => ((bourseref01_of.f k b).bind fun t336 => ((bourseref01_times.f k t333 t336).bind fun t339 => ((bourseref01_of.f k c).bind fun t342 => ((bourseref01_rounded.f k t339 t342 round).bind fun t345 => ((bourseref01_word.f k t345).bind fun bt348 => (some (bt348.1, bt348.2)))))))) g1 ?_
  refine Ev.bind (f := fun (k : Nat) (t336 : List Int) => ((bourseref01_times.f k (D a.toNat) t336).bind fun t339 => ((bourseref01_of.f k c).bind fun t342 => ((bourseref01_rounded.f k t339 t342 round).bind fun t345 => ((bourseref01_word.f k t345).bind fun bt348 => (some (bt348.1, bt348.2))))))) g2 ?_
  refine Ev.bind (f := fun (k : Nat) (t339 : List Int) => ((bourseref01_of.f k c).bind fun t342 => ((bourseref01_rounded.f k t339 t342 round).bind fun t345 => ((bourseref01_word.f k t345).bind fun bt348 => (some (bt348.1, bt348.2)))))) g4 ?_
  refine Ev.bind (f := fun (k : Nat) (t342 : List Int) => ((bourseref01_rounded.f k (D (a.toNat * b.toNat)) t342 round).bind fun t345 => ((bourseref01_word.f k t345).bind fun bt348 => (some (bt348.1, bt348.2))))) g3 ?_
  refine Ev.bind (f := fun (k : Nat) (t345 : List Int) => ((bourseref01_word.f k t345).bind fun bt348 => (some (bt348.1, bt348.2)))) g5 ?_
  refine Ev.bind (f := fun (_ : Nat) (bt348 : Int × Int) => (some (bt348.1, bt348.2))) g6 ?_
  have q0 : 0 ≤ a * b / c := Int.ediv_nonneg (Int.mul_nonneg ha hb) hc
  have hbound : a * b / 18446744073709551616 ≥ c ↔ 18446744073709551616 ≤ a * b / c := by
    rw [Int.le_ediv_iff_mul_le (by omega), ge_iff_le, Int.le_ediv_iff_mul_le (by decide), Int.mul_comm]
  by_cases h4 : a * b / 18446744073709551616 ≥ c
  · have := hbound.1 h4
    rw [if_pos h4, if_neg (by omega)]
    exact Ev.now _
  · have h5 : ¬ 18446744073709551616 ≤ a * b / c := fun h => h4 (hbound.2 h)
    rw [if_neg h4]
    unfold done
    generalize a * b / c = q at *
    generalize a * b % c = r at *
    cases hu : upB q r c round
    · simp only [Bool.toNat_false, Nat.add_zero, eq, Bool.false_eq_true, if_false]
      rw [if_pos (show a.toNat * b.toNat / c.toNat < 18446744073709551616 by omega)]
      exact Ev.now _
    · simp only [Bool.toNat_true, if_true]
      by_cases h6 : q + 1 < 18446744073709551616
      · rw [if_pos h6, if_pos (show a.toNat * b.toNat / c.toNat + 1 < 18446744073709551616 by omega), show ((a.toNat * b.toNat / c.toNat + 1 : Nat) : Int) = q + 1 by omega]
        exact Ev.now _
      · rw [if_neg h6, if_neg (show ¬ a.toNat * b.toNat / c.toNat + 1 < 18446744073709551616 by omega)]
        exact Ev.now _
end Go.Proofs.Ythmjmkbahneneaa.Big
