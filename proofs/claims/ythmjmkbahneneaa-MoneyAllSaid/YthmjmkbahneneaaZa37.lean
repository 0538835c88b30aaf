/- MonPc, struck of what this claim does not name (wip/tools/pack2.py). -/
import Derived.Test.YthmjmkbahneneaaZa34
import Derived.Test.YthmjmkbahneneaaZa36
section
namespace Go.Proofs.Ythmjmkbahneneaa.PMon
open Go.RowKit Go.Proofs.Ythmjmkbahneneaa.PBig Go.Proofs.YthmjmkbahneneaaW.PrintWords Go.Proofs.YthmjmkbahneneaaW.PrintLast Go.Proofs.YthmjmkbahneneaaW.PrintMore
set_option linter.unusedVariables false

def porQ (A x y : Nat) (r : Int) : Nat := A * x / y + (upB ((A * x / y : Nat) : Int) ((A * x % y : Nat) : Int) (y : Int) r).toNat
def porE (v x y r : Int) : Int := if r < 0 ∨ 2 < r then 1 else if y = 0 then 11 else if porQ v.natAbs x.toNat y.toNat r < 170141183460469231731687303715884105728 then 0 else 10
def porR (v x y r : Int) : Int := if porE v x y r = 0 then (if v < 0 then -(porQ v.natAbs x.toNat y.toNat r : Int) else (porQ v.natAbs x.toNat y.toNat r : Int)) else 0
theorem small_porR (v x y r : Int) : Small (porR v x y r) := by
  unfold porR
  by_cases c : porE v x y r = 0
  · rw [if_pos c]
    unfold porE at c
    unfold Small
    by_cases h1 : r < 0 ∨ 2 < r
    · rw [if_pos h1] at c; exact absurd c (by decide)
    · rw [if_neg h1] at c
      by_cases h2 : y = 0
      · rw [if_pos h2] at c; exact absurd c (by decide)
      · rw [if_neg h2] at c
        by_cases h3 : porQ v.natAbs x.toNat y.toNat r < 170141183460469231731687303715884105728
        · split <;> omega
        · rw [if_neg h3] at c; exact absurd c (by decide)
  · rw [if_neg c]; unfold Small; decide
theorem upB_par (q p : Nat) (r c round : Int) (h : q % 2 = p % 2) : upB (q : Int) r c round = upB (p : Int) r c round := by
  unfold upB
  have : (q : Int) % 2 = (p : Int) % 2 := by omega
  rw [this]

theorem por_digits (H L x y : Nat) (hH : H < 9223372036854775808) (hL : L < 18446744073709551616) (hx : x < 4294967296) (hy0 : 0 < y) (hy : y < 4294967296) :
    ∃ ca w0 w2 w1 w1b c q2 r2 q1 r1 q0 r0 : Nat, L * x = ca * 18446744073709551616 + w0 ∧ w0 < 18446744073709551616 ∧ ca < 4294967296 ∧ H * x = w2 * 18446744073709551616 + w1 ∧ w1 < 18446744073709551616 ∧ w2 < 4294967296 ∧ w1 + ca = c * 18446744073709551616 + w1b ∧ w1b < 18446744073709551616 ∧ c ≤ 1 ∧
      q2 = (w2 + c) / y ∧ r2 = (w2 + c) % y ∧ r2 < y ∧ q1 = (r2 * 18446744073709551616 + w1b) / y ∧ r1 = (r2 * 18446744073709551616 + w1b) % y ∧ r1 < y ∧ q0 = (r1 * 18446744073709551616 + w0) / y ∧ r0 = (r1 * 18446744073709551616 + w0) % y ∧ r0 < y ∧ q1 < 18446744073709551616 ∧ q0 < 18446744073709551616 ∧ q2 < 8589934592 ∧
      (H * 18446744073709551616 + L) * x / y = q2 * 340282366920938463463374607431768211456 + q1 * 18446744073709551616 + q0 ∧ (H * 18446744073709551616 + L) * x % y = r0 := by
  have bL : L * x ≤ 18446744073709551615 * 4294967295 := Nat.mul_le_mul (by omega) (by omega)
  have bH : H * x ≤ 9223372036854775807 * 4294967295 := Nat.mul_le_mul (by omega) (by omega)
  have eA : (H * 18446744073709551616 + L) * x = (H * x) * 18446744073709551616 + L * x := by rw [Nat.add_mul, Nat.mul_right_comm]
  rw [eA]
  obtain ⟨P, hP⟩ : ∃ P, P = L * x := ⟨_, rfl⟩
  obtain ⟨R, hR⟩ : ∃ R, R = H * x := ⟨_, rfl⟩
  rw [← hP, ← hR]
  rw [← hP] at bL
  rw [← hR] at bH
  clear eA hP hR
  obtain ⟨ca, hca⟩ : ∃ ca, ca = P / 18446744073709551616 := ⟨_, rfl⟩
  obtain ⟨w0, hw0⟩ : ∃ w0, w0 = P % 18446744073709551616 := ⟨_, rfl⟩
  obtain ⟨w2, hw2⟩ : ∃ w2, w2 = R / 18446744073709551616 := ⟨_, rfl⟩
  obtain ⟨w1, hw1⟩ : ∃ w1, w1 = R % 18446744073709551616 := ⟨_, rfl⟩
  obtain ⟨c, hc⟩ : ∃ c, c = (w1 + ca) / 18446744073709551616 := ⟨_, rfl⟩
  obtain ⟨w1b, hw1b⟩ : ∃ w1b, w1b = (w1 + ca) % 18446744073709551616 := ⟨_, rfl⟩
  have e1 : P = ca * 18446744073709551616 + w0 := by omega
  have e2 : R = w2 * 18446744073709551616 + w1 := by omega
  have e3 : w1 + ca = c * 18446744073709551616 + w1b := by omega
  have b0 : w0 < 18446744073709551616 := by omega
  have b1 : w1 < 18446744073709551616 := by omega
  have b1b : w1b < 18446744073709551616 := by omega
  have bca : ca < 4294967296 := by omega
  have bw2 : w2 < 4294967296 := by omega
  have bc : c ≤ 1 := by omega
  clear hca hw0 hw2 hw1 hc hw1b bL bH
  obtain ⟨q2, hq2⟩ : ∃ q, q = (w2 + c) / y := ⟨_, rfl⟩
  obtain ⟨r2, hr2⟩ : ∃ q, q = (w2 + c) % y := ⟨_, rfl⟩
  have d2 := Nat.div_add_mod (w2 + c) y
  have m2 : r2 < y := by rw [hr2]; exact Nat.mod_lt _ hy0
  rw [← hq2, ← hr2] at d2
  obtain ⟨q1, hq1⟩ : ∃ q, q = (r2 * 18446744073709551616 + w1b) / y := ⟨_, rfl⟩
  obtain ⟨r1, hr1⟩ : ∃ q, q = (r2 * 18446744073709551616 + w1b) % y := ⟨_, rfl⟩
  have d1 := Nat.div_add_mod (r2 * 18446744073709551616 + w1b) y
  have m1 : r1 < y := by rw [hr1]; exact Nat.mod_lt _ hy0
  rw [← hq1, ← hr1] at d1
  obtain ⟨q0, hq0⟩ : ∃ q, q = (r1 * 18446744073709551616 + w0) / y := ⟨_, rfl⟩
  obtain ⟨r0, hr0⟩ : ∃ q, q = (r1 * 18446744073709551616 + w0) % y := ⟨_, rfl⟩
  have d0 := Nat.div_add_mod (r1 * 18446744073709551616 + w0) y
  have m0 : r0 < y := by rw [hr0]; exact Nat.mod_lt _ hy0
  rw [← hq0, ← hr0] at d0
  have bq1 : q1 < 18446744073709551616 := by rw [hq1]; exact Nat.div_lt_of_lt_mul (by have := Nat.mul_le_mul_right 18446744073709551616 (Nat.succ_le_of_lt m2); rw [Nat.succ_mul] at this; omega)
  have bq0 : q0 < 18446744073709551616 := by rw [hq0]; exact Nat.div_lt_of_lt_mul (by have := Nat.mul_le_mul_right 18446744073709551616 (Nat.succ_le_of_lt m1); rw [Nat.succ_mul] at this; omega)
  have bq2 : q2 < 8589934592 := by rw [hq2]; exact Nat.lt_of_le_of_lt (Nat.div_le_self _ _) (by omega)
  have tot : R * 18446744073709551616 + P = y * (q2 * 340282366920938463463374607431768211456 + q1 * 18446744073709551616 + q0) + r0 := by
    have f : y * (q2 * 340282366920938463463374607431768211456 + q1 * 18446744073709551616 + q0) = (y * q2) * 340282366920938463463374607431768211456 + (y * q1) * 18446744073709551616 + y * q0 := by
      rw [Nat.mul_add, Nat.mul_add, Nat.mul_assoc, Nat.mul_assoc]
    rw [f]
    omega
  obtain ⟨Qv, hQv⟩ : ∃ Qv, Qv = q2 * 340282366920938463463374607431768211456 + q1 * 18446744073709551616 + q0 := ⟨_, rfl⟩
  rw [← hQv] at tot
  have uq := (Nat.div_mod_unique (a := R * 18446744073709551616 + P) (d := Qv) (c := r0) hy0).2 ⟨by rw [tot, Nat.add_comm], m0⟩
  exact ⟨ca, w0, w2, w1, w1b, c, q2, r2, q1, r1, q0, r0, e1, b0, bca, e2, b1, bw2, e3, b1b, bc, hq2, hr2, m2, hq1, hr1, m1, hq0, hr0, m0, bq1, bq0, bq2, uq.1.trans hQv, uq.2⟩

theorem por_calls (v : Int) (hs : Small v) (x y r : Int) (hx0 : 0 ≤ x) (hx : x < 4294967296) (hy0 : 0 ≤ y) (hy : y < 4294967296) (w : World) :
    Calls Try.prog 69 #[M v, .int .u32 x, .int .u32 y, .int .i64 r] w fun e w' => e = .returned (.tuple #[M (porR v x y r), .int .i64 (porE v x y r)]) ∧ Below w.heap.size w w' := by
  have hM0 : M 0 = .agg #[.int .u64 0, .int .u64 0, .bool false] := rfl
  by_cases c1 : r < 0 ∨ 2 < r
  · have e1 : porE v x y r = 1 := by unfold porE; rw [if_pos c1]
    have e2 : porR v x y r = 0 := by unfold porR; rw [e1]; rfl
    rw [e1, e2, hM0]
    rcases c1 with c | c
    · exact por_lo _ _ x y r _ c w
    · exact por_hi _ _ x y r _ c w
  by_cases c2 : y = 0
  · have e1 : porE v x y r = 11 := by unfold porE; rw [if_neg c1, if_pos c2]
    have e2 : porR v x y r = 0 := by unfold porR; rw [e1]; rfl
    rw [e1, e2, hM0]
    exact por_zero _ _ x y r _ (by omega) (by omega) c2 w
  obtain ⟨X, rfl⟩ : ∃ X : Nat, x = (X : Int) := ⟨x.toNat, by omega⟩
  obtain ⟨Y, rfl⟩ : ∃ Y : Nat, y = (Y : Int) := ⟨y.toNat, by omega⟩
  have hA : v.natAbs < 170141183460469231731687303715884105728 := hs
  obtain ⟨A, hAd⟩ : ∃ A, A = v.natAbs := ⟨_, rfl⟩
  have E : porE v X Y r = if porQ A X Y r < 170141183460469231731687303715884105728 then 0 else 10 := by unfold porE; rw [if_neg c1, if_neg c2, Int.toNat_natCast, Int.toNat_natCast, ← hAd]
  obtain ⟨H, hH⟩ : ∃ H, H = A / 18446744073709551616 := ⟨_, rfl⟩
  obtain ⟨L, hL⟩ : ∃ L, L = A % 18446744073709551616 := ⟨_, rfl⟩
  have eh : hiM v = (H : Int) := by unfold hiM; rw [← hAd, ← hH]
  have el : loM v = (L : Int) := by unfold loM; rw [← hAd, ← hL]
  have eA : A = H * 18446744073709551616 + L := by omega
  obtain ⟨ca, w0, w2, w1, w1b, c, q2, r2, q1, r1, q0, r0, f1, b0, bca, f2, b1, bw2, f3, b1b, bc, hq2, hr2, m2, hq1, hr1, m1, hq0, hr0, m0, bq1, bq0, bq2, tq, tr⟩ := por_digits H L X Y (by omega) (by omega) (by omega) (by omega) (by omega)
  rw [← eA] at tq tr
  obtain ⟨u, hu⟩ : ∃ u, u = upB (q0 : Int) (r0 : Int) (Y : Int) r := ⟨_, rfl⟩
  have hQ : porQ A X Y r = q2 * 340282366920938463463374607431768211456 + q1 * 18446744073709551616 + q0 + u.toNat := by
    unfold porQ
    rw [tr, upB_par (A * X / Y) q0 _ _ _ (by rw [tq]; omega), ← hu, tq]
  -- the walk's facts
  have hM1 : bits_Mul64.f (L : Int) (X : Int) = some ((ca : Int), (w0 : Int)) := by
    rw [MonA.mul64_val _ _ (by omega) (by omega) (by omega) (by omega)]
    rw [show (L : Int) * (X : Int) = ((L * X : Nat) : Int) by push_cast; rfl, f1]
    congr 2 <;> omega
  have hM2 : bits_Mul64.f (H : Int) (X : Int) = some ((w2 : Int), (w1 : Int)) := by
    rw [MonA.mul64_val _ _ (by omega) (by omega) (by omega) (by omega)]
    rw [show (H : Int) * (X : Int) = ((H * X : Nat) : Int) by push_cast; rfl, f2]
    congr 2 <;> omega
  have hA64 : bits_Add64.f (w1 : Int) (ca : Int) 0 = some ((w1b : Int), (c : Int)) := by
    have := add64 w1 ca 0 (by decide)
    rw [Nat.add_zero, f3, show (c * 18446744073709551616 + w1b) % 18446744073709551616 = w1b by omega, show (c * 18446744073709551616 + w1b) / 18446744073709551616 = c by omega] at this
    exact this
  have hW : IntKind.u64.wrap ((w2 : Int) + (c : Int)) = ((w2 + c : Nat) : Int) := by rw [IntKind.wrap_u64]; omega
  have hq : IntKind.u64.wrap (((w2 + c : Nat) : Int).tdiv (Y : Int)) = (q2 : Int) := by
    rw [Int.tdiv_eq_ediv_of_nonneg (by omega), ← Int.natCast_ediv, ← hq2, IntKind.wrap_u64]; omega
  have hr' : ((w2 + c : Nat) : Int) % (Y : Int) = (r2 : Int) := by rw [← Int.natCast_emod, ← hr2]
  have dv1 := MonDiv.div64_val (r2 : Int) (w1b : Int) (Y : Int) (by omega) (by omega) (by omega) (by omega) (by omega)
  have dv0 := MonDiv.div64_val (r1 : Int) (w0 : Int) (Y : Int) (by omega) (by omega) (by omega) (by omega) (by omega)
  have g1 : ((r2 : Int) * 18446744073709551616 + (w1b : Int)) = ((r2 * 18446744073709551616 + w1b : Nat) : Int) := by omega
  have g0 : ((r1 : Int) * 18446744073709551616 + (w0 : Int)) = ((r1 * 18446744073709551616 + w0 : Nat) : Int) := by omega
  rw [g1, ← Int.natCast_ediv, ← Int.natCast_emod, ← hq1, ← hr1] at dv1
  rw [g0, ← Int.natCast_ediv, ← Int.natCast_emod, ← hq0, ← hr0] at dv0
  obtain ⟨K1, dv1⟩ := dv1
  obtain ⟨K0, dv0⟩ := dv0
  have dv1 := dv1 (max K1 K0) (Nat.le_max_left _ _)
  have dv0 := dv0 (max K1 K0) (Nat.le_max_right _ _)
  have hU := up_val (q0 : Int) (r0 : Int) (Y : Int) r (by omega) (by omega) (by omega) (by omega)
  rw [← hu] at hU
  obtain ⟨Q, hQd⟩ : ∃ Q, Q = porQ A X Y r := ⟨_, rfl⟩
  rw [← hQd] at E hQ
  have R0 : porR v X Y r = if Q < 170141183460469231731687303715884105728 then (if v < 0 then -(Q : Int) else (Q : Int)) else 0 := by
    unfold porR
    rw [E, Int.toNat_natCast, Int.toNat_natCast, ← hAd, ← hQd]
    by_cases d : Q < 170141183460469231731687303715884105728
    · rw [if_pos d, if_pos rfl, if_pos d]
    · rw [if_neg d, if_neg (by decide), if_neg d]
  have fin : ∀ n : Nat, n = Q → n < 340282366920938463463374607431768211456 → ∃ x' y' z', num_made.f ((n / 18446744073709551616 : Nat) : Int) ((n % 18446744073709551616 : Nat) : Int) (mnM v) = some (x', y', z', porE v X Y r) ∧ M (porR v X Y r) = .agg #[.int .u64 x', .int .u64 y', .bool z'] := by
    intro n hn hb
    have := made_f n (mnM v) hb
    by_cases d : Q < 170141183460469231731687303715884105728
    · rw [if_pos (by omega)] at this
      rw [E, if_pos d, R0, if_pos d]
      refine ⟨_, _, _, this, ?_⟩
      unfold M hiM loM mnM
      by_cases e : v < 0
      · have ez : decide (-(Q : Int) < 0) = decide (n ≠ 0) := decide_eq_decide.mpr (by omega)
        rw [if_pos e, decide_eq_true e, Bool.true_and, Int.natAbs_neg, Int.natAbs_natCast, ez, hn]
      · have ez : decide ((Q : Int) < 0) = false := decide_eq_false (by omega)
        rw [if_neg e, decide_eq_false e, Bool.false_and, Int.natAbs_natCast, ez, hn]
    · rw [if_neg (by omega)] at this
      rw [E, if_neg d, R0, if_neg d]
      exact ⟨_, _, _, this, rfl⟩
  have big : 340282366920938463463374607431768211456 ≤ Q → porE v X Y r = 10 ∧ M (porR v X Y r) = .agg #[.int .u64 0, .int .u64 0, .bool false] := by
    intro h
    rw [E, if_neg (by omega), R0, if_neg (by omega)]
    exact ⟨rfl, rfl⟩
  unfold M at *
  rw [eh, el]
  clear E R0 f1 f2 f3 hq1 hr1 hq0 hr0 g1 g0 tq tr hq2 hr2 hu hM0
  cases hub : u with
  | true =>
    rw [hub] at hU hQ
    obtain ⟨c1', hc1⟩ : ∃ k, k = (q0 + 1) / 18446744073709551616 := ⟨_, rfl⟩
    obtain ⟨q0b, hq0b⟩ : ∃ k, k = (q0 + 1) % 18446744073709551616 := ⟨_, rfl⟩
    obtain ⟨c2', hc2⟩ : ∃ k, k = (q1 + c1') / 18446744073709551616 := ⟨_, rfl⟩
    obtain ⟨q1b, hq1b⟩ : ∃ k, k = (q1 + c1') % 18446744073709551616 := ⟨_, rfl⟩
    have a1 : bits_Add64.f (q0 : Int) 1 0 = some ((q0b : Int), (c1' : Int)) := by
      have := add64 q0 1 0 (by decide)
      rw [Nat.add_zero, ← hc1, ← hq0b] at this
      exact this
    have a2 : bits_Add64.f (q1 : Int) 0 (c1' : Int) = some ((q1b : Int), (c2' : Int)) := by
      have := add64 q1 0 c1' (by omega)
      rw [Nat.add_zero, ← hc2, ← hq1b] at this
      exact this
    have a3 : IntKind.u64.wrap ((q2 : Int) + (c2' : Int)) = ((q2 + c2' : Nat) : Int) := by rw [IntKind.wrap_u64]; omega
    have hQ2 : Q = (q2 + c2') * 340282366920938463463374607431768211456 + q1b * 18446744073709551616 + q0b := by
      rw [hQ, show (true).toNat = 1 from rfl]; omega
    by_cases z : q2 + c2' = 0
    · obtain ⟨x', y', z', hm, hM⟩ := fin (q1b * 18446744073709551616 + q0b) (by rw [hQ2, z]; omega) (by omega)
      rw [show (q1b * 18446744073709551616 + q0b) / 18446744073709551616 = q1b by omega, show (q1b * 18446744073709551616 + q0b) % 18446744073709551616 = q0b by omega] at hm
      rw [hM]
      exact por_uz H L X Y r ca w0 w2 w1 w1b c _ q2 r2 q1 r1 q0 r0 q0b c1' q1b c2' _ x' y' _ (mnM v) z' _ hM1 hM2 hA64 hW (by omega) hq hr' dv1 dv0 hU a1 a2 a3 (by omega) hm (by omega) (by omega) (by omega) (by omega) (by omega) (by omega) w
    · obtain ⟨e1, e2⟩ := big (by omega)
      rw [e1, e2]
      exact por_un H L X Y r ca w0 w2 w1 w1b c _ q2 r2 q1 r1 q0 r0 q0b c1' q1b c2' _ 0 0 0 (mnM v) false _ hM1 hM2 hA64 hW (by omega) hq hr' dv1 dv0 hU a1 a2 a3 (by omega) (by omega) (by omega) (by omega) (by omega) (by omega) (by omega) w
  | false =>
    rw [hub] at hU hQ
    have hQ2 : Q = q2 * 340282366920938463463374607431768211456 + q1 * 18446744073709551616 + q0 := by
      rw [hQ, show (false).toNat = 0 from rfl, Nat.add_zero]
    by_cases z : q2 = 0
    · obtain ⟨x', y', z', hm, hM⟩ := fin (q1 * 18446744073709551616 + q0) (by rw [hQ2, z]; omega) (by omega)
      rw [show (q1 * 18446744073709551616 + q0) / 18446744073709551616 = q1 by omega, show (q1 * 18446744073709551616 + q0) % 18446744073709551616 = q0 by omega] at hm
      rw [hM]
      exact por_dz H L X Y r ca w0 w2 w1 w1b c _ q2 r2 q1 r1 q0 r0 q0 0 q1 0 q2 x' y' _ (mnM v) z' _ hM1 hM2 hA64 hW (by omega) hq hr' dv1 dv0 hU rfl rfl rfl (by omega) hm (by omega) (by omega) (by omega) (by omega) (by omega) (by omega) w
    · obtain ⟨e1, e2⟩ := big (by omega)
      rw [e1, e2]
      exact por_dn H L X Y r ca w0 w2 w1 w1b c _ q2 r2 q1 r1 q0 r0 q0 0 q1 0 q2 0 0 0 (mnM v) false _ hM1 hM2 hA64 hW (by omega) hq hr' dv1 dv0 hU rfl rfl rfl (by omega) (by omega) (by omega) (by omega) (by omega) (by omega) (by omega) w
end Go.Proofs.Ythmjmkbahneneaa.PMon
end
