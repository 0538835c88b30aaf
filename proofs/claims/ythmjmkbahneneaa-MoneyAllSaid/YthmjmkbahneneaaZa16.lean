/- MonDiv, struck of what this claim does not name (wip/tools/pack2.py). -/
import Derived.Test.YthmjmkbahneneaaZa15
import Derived.Test.YthmjmkbahneneaaZa14
import Derived.Laws.BitsLemmas
section
namespace Go.Proofs.Ythmjmkbahneneaa.MonDiv
open Go.RowKit Go.Proofs.Ythmjmkbahneneaa.PMon Go.Proofs.Ythmjmkbahneneaa.MonA Go.Proofs.YthmjmkbahneneaaW.PrintWords Go.Proofs.YthmjmkbahneneaaW.PrintLast Go.Proofs.YthmjmkbahneneaaW.PrintMore

theorem wr (n : Int) (h : 0 ≤ n) (h' : n < 18446744073709551616) : IntKind.u64.wrap n = n := by rw [wu]; exact Int.emod_eq_of_lt h h'

theorem bl_spec : ∀ n : Nat, ∀ x, x ≤ n → x < 18446744073709551616 → x < 2 ^ Lib.bitLen x ∧ (x ≠ 0 → 2 ^ Lib.bitLen x ≤ 2 * x) := by
  intro n
  induction n with
  | zero =>
    intro x hx _
    obtain rfl : x = 0 := by omega
    exact ⟨by decide, fun h => absurd rfl h⟩
  | succ n ih =>
    intro x hx hb
    by_cases h0 : x = 0
    · subst h0
      exact ⟨by decide, fun h => absurd rfl h⟩
    · obtain ⟨h1, h2⟩ := ih (x / 2) (by omega) (by omega)
      rw [Lib.bitLen_half x h0 (by omega), Nat.pow_add]
      refine ⟨by omega, fun _ => ?_⟩
      by_cases h3 : x / 2 = 0
      · rw [h3]
        have : Lib.bitLen 0 = 0 := by decide
        rw [this]
        omega
      · have := h2 h3
        omega

structure Dig (v1 v0 u un1 q : Int) : Prop where
  v1lo : 2147483648 ≤ v1
  v1hi : v1 < 4294967296
  v0lo : 0 ≤ v0
  v0hi : v0 < 4294967296
  u0 : 0 ≤ u
  uv : u < v1 * 4294967296 + v0
  n0 : 0 ≤ un1
  n1 : un1 < 4294967296
  q0 : 0 ≤ q
  lo : q * (v1 * 4294967296 + v0) ≤ u * 4294967296 + un1
  hi : u * 4294967296 + un1 < (q + 1) * (v1 * 4294967296 + v0)

theorem Dig.qB {v1 v0 u un1 q : Int} (D : Dig v1 v0 u un1 q) : q < 4294967296 := by
  have h1 : q * (v1 * 4294967296 + v0) < 4294967296 * (v1 * 4294967296 + v0) := by
    have := D.lo
    have := D.uv
    have := D.n1
    omega
  exact Int.lt_of_mul_lt_mul_right h1 (by have := D.v1lo; have := D.v0lo; omega)

theorem Dig.qh {v1 v0 u un1 q qh rh : Int} (D : Dig v1 v0 u un1 q) (hi : qh * v1 + rh = u) (hr : 0 ≤ rh) : qh ≤ 4294967297 := by
  have h1 : qh * v1 < 4294967298 * v1 := by
    have := D.uv
    have := D.v0hi
    have := D.v1lo
    omega
  have := Int.lt_of_mul_lt_mul_right h1 (by have := D.v1lo; omega)
  omega

theorem Dig.yes {v1 v0 u un1 q qh rh : Int} (D : Dig v1 v0 u un1 q) (hi : qh * v1 + rh = u) (h : qh * v0 > 4294967296 * rh + un1) : q ≤ qh - 1 := by
  have e : qh * (v1 * 4294967296 + v0) = (u - rh) * 4294967296 + qh * v0 := by
    have : u - rh = qh * v1 := by omega
    rw [this, Int.mul_add, ← Int.mul_assoc]
  have h1 : q * (v1 * 4294967296 + v0) < qh * (v1 * 4294967296 + v0) := by
    rw [e]
    have := D.lo
    omega
  have := Int.lt_of_mul_lt_mul_right h1 (by have := D.v1lo; have := D.v0lo; omega)
  omega

theorem Dig.no {v1 v0 u un1 q qh rh : Int} (D : Dig v1 v0 u un1 q) (hi : qh * v1 + rh = u) (h : qh * v0 ≤ 4294967296 * rh + un1) : qh ≤ q := by
  have e : qh * (v1 * 4294967296 + v0) = (u - rh) * 4294967296 + qh * v0 := by
    have : u - rh = qh * v1 := by omega
    rw [this, Int.mul_add, ← Int.mul_assoc]
  have h1 : qh * (v1 * 4294967296 + v0) < (q + 1) * (v1 * 4294967296 + v0) := by
    rw [e]
    have := D.hi
    omega
  have := Int.lt_of_mul_lt_mul_right h1 (by have := D.v1lo; have := D.v0lo; omega)
  omega

theorem Dig.stop {v1 v0 u un1 q qh rh : Int} (D : Dig v1 v0 u un1 q) (hi : qh * v1 + rh = u) (h0 : 0 ≤ qh) (h : 4294967296 ≤ rh) : qh ≤ q := by
  have hq : qh ≤ 4294967295 := by
    have h1 : qh * v1 < 4294967296 * v1 := by
      have := D.uv
      have := D.v0hi
      omega
    have := Int.lt_of_mul_lt_mul_right h1 (by have := D.v1lo; omega)
    omega
  refine D.no hi ?_
  have := prod_bound qh v0 h0 hq D.v0lo (by have := D.v0hi; omega)
  have := D.n0
  omega

theorem small (qh v0 : Int) (h0 : 0 ≤ qh) (hq : qh ≤ 4294967297) (h1 : 0 ≤ v0) (h2 : v0 < 4294967296) : 0 ≤ qh * v0 ∧ qh * v0 < 18446744073709551616 := by
  refine ⟨Int.mul_nonneg h0 h1, ?_⟩
  have := Int.mul_le_mul hq (show v0 ≤ 4294967295 by omega) h1 (by decide)
  omega

theorem first (x2 x8 v1 v0 u un1 un0 q : Int) (r : Int × Int) (D : Dig v1 v0 u un1 q) (H : Ev (fun k => bits_Div64.j2 k x2 x8 v1 v0 u un1 un0 q) r) :
    ∀ (d : Nat) (qh rh : Int), qh * v1 + rh = u → 0 ≤ rh → rh < 4294967296 → q ≤ qh → 4294967296 ≤ rh + d * v1 →
      Ev (fun k => bits_Div64.l0 k x2 x8 v1 v0 u un1 un0 qh rh) r := by
  intro d
  induction d with
  | zero => intro qh rh _ _ h _ h'; omega
  | succ d ih =>
    intro qh rh hi h0 h1 hq hd
    have hqh := D.qh hi h0
    have q0 := D.q0
    have sm := small qh v0 (by omega) hqh D.v0lo D.v0hi
    have n0 := D.n0
    have n1 := D.n1
    have v1l := D.v1lo
    have v1h := D.v1hi
    have w1 : IntKind.u64.wrap (qh * v0) = qh * v0 := wr _ sm.1 sm.2
    have w2 : IntKind.u64.wrap (4294967296 * rh) = 4294967296 * rh := wr _ (by omega) (by omega)
    have w3 : IntKind.u64.wrap (4294967296 * rh + un1) = 4294967296 * rh + un1 := wr _ (by omega) (by omega)
    have w4 : IntKind.u64.wrap (rh + v1) = rh + v1 := wr _ (by omega) (by omega)
    have yes : q ≤ qh - 1 → Ev (fun k => bits_Div64.j1 k x2 x8 v1 v0 u un1 un0 qh rh true) r := by
      intro hy
      have w5 : IntKind.u64.wrap (qh - 1) = qh - 1 := wr _ (by omega) (by omega)
      have hi' : (qh - 1) * v1 + (rh + v1) = u := by rw [Int.sub_mul]; omega
      refine Ev.step (f := fun k => if IntKind.u64.wrap (rh + v1) ≥ 4294967296 then bits_Div64.j2 k x2 x8 v1 v0 u un1 un0 (IntKind.u64.wrap (qh - 1)) else bits_Div64.l0 k x2 x8 v1 v0 u un1 un0 (IntKind.u64.wrap (qh - 1)) (IntKind.u64.wrap (rh + v1))) (fun k => by simp only [bits_Div64.j1, if_true]) ?_
      rw [w4, w5]
      by_cases hs : rh + v1 ≥ 4294967296
      · have := D.stop hi' (by omega) hs
        obtain rfl : q = qh - 1 := by omega
        exact Ev.congr (fun k => if_pos hs) H
      · refine Ev.congr (fun k => if_neg hs) (ih (qh - 1) (rh + v1) hi' (by omega) (by omega) hy ?_)
        have : ((d + 1 : Nat) : Int) * v1 = d * v1 + v1 := by rw [Int.natCast_add, Int.add_mul]; omega
        omega
    refine Ev.step (f := fun k => if qh ≥ 4294967296 then bits_Div64.j1 k x2 x8 v1 v0 u un1 un0 qh rh true else bits_Div64.j1 k x2 x8 v1 v0 u un1 un0 qh rh (decide (IntKind.u64.wrap (qh * v0) > IntKind.u64.wrap (IntKind.u64.wrap (4294967296 * rh) + un1)))) (fun k => by simp only [bits_Div64.l0]) ?_
    rw [w1, w2, w3]
    by_cases hb : qh ≥ 4294967296
    · refine Ev.congr (fun k => if_pos hb) (yes ?_)
      have := D.qB
      omega
    · by_cases ht : qh * v0 > 4294967296 * rh + un1
      · rw [decide_eq_true ht]
        exact Ev.congr (fun k => if_neg hb) (yes (D.yes hi ht))
      · rw [decide_eq_false ht]
        have := D.no hi (by omega)
        obtain rfl : q = qh := by omega
        refine Ev.congr (fun k => if_neg hb) (Ev.step (f := fun k => bits_Div64.j2 k x2 x8 v1 v0 u un1 un0 q) (fun k => by simp only [bits_Div64.j1]; rw [if_neg (by decide)]) H)

theorem second (x2 x8 v1 v0 u un0 q1 q : Int) (h8 : 0 ≤ x8) (D : Dig v1 v0 u un0 q) :
    ∀ (d : Nat) (qh rh : Int), qh * v1 + rh = u → 0 ≤ rh → rh < 4294967296 → q ≤ qh → 4294967296 ≤ rh + d * v1 →
      Ev (fun k => bits_Div64.l1 k x2 x8 v1 v0 un0 q1 rh u qh) (IntKind.u64.wrap (IntKind.u64.wrap (q1 * 4294967296) + q), shr .u64 (IntKind.u64.wrap (IntKind.u64.wrap (IntKind.u64.wrap (u * 4294967296) + un0) - IntKind.u64.wrap (q * x2))) x8) := by
  intro d
  induction d with
  | zero => intro qh rh _ _ h _ h'; omega
  | succ d ih =>
    intro qh rh hi h0 h1 hq hd
    have hqh := D.qh hi h0
    have q0 := D.q0
    have sm := small qh v0 (by omega) hqh D.v0lo D.v0hi
    have n0 := D.n0
    have n1 := D.n1
    have v1l := D.v1lo
    have v1h := D.v1hi
    have w1 : IntKind.u64.wrap (qh * v0) = qh * v0 := wr _ sm.1 sm.2
    have w2 : IntKind.u64.wrap (4294967296 * rh) = 4294967296 * rh := wr _ (by omega) (by omega)
    have w3 : IntKind.u64.wrap (4294967296 * rh + un0) = 4294967296 * rh + un0 := wr _ (by omega) (by omega)
    have w4 : IntKind.u64.wrap (rh + v1) = rh + v1 := wr _ (by omega) (by omega)
    have yes : q ≤ qh - 1 → Ev (fun k => bits_Div64.j4 k x2 x8 v1 v0 un0 q1 rh u qh true) (IntKind.u64.wrap (IntKind.u64.wrap (q1 * 4294967296) + q), shr .u64 (IntKind.u64.wrap (IntKind.u64.wrap (IntKind.u64.wrap (u * 4294967296) + un0) - IntKind.u64.wrap (q * x2))) x8) := by
      intro hy
      have w5 : IntKind.u64.wrap (qh - 1) = qh - 1 := wr _ (by omega) (by omega)
      have hi' : (qh - 1) * v1 + (rh + v1) = u := by rw [Int.sub_mul]; omega
      refine Ev.step (f := fun k => if IntKind.u64.wrap (rh + v1) ≥ 4294967296 then (if 0 ≤ x8 then some (IntKind.u64.wrap (IntKind.u64.wrap (q1 * 4294967296) + IntKind.u64.wrap (qh - 1)), shr .u64 (IntKind.u64.wrap (IntKind.u64.wrap (IntKind.u64.wrap (u * 4294967296) + un0) - IntKind.u64.wrap (IntKind.u64.wrap (qh - 1) * x2))) x8) else none) else bits_Div64.l1 k x2 x8 v1 v0 un0 q1 (IntKind.u64.wrap (rh + v1)) u (IntKind.u64.wrap (qh - 1))) (fun k => by simp only [bits_Div64.j4, if_true]) ?_
      rw [w4, w5]
      by_cases hs : rh + v1 ≥ 4294967296
      · have := D.stop hi' (by omega) hs
        obtain rfl : q = qh - 1 := by omega
        exact Ev.congr (fun k => (if_pos hs).trans (if_pos h8)) (Ev.now _)
      · refine Ev.congr (fun k => if_neg hs) (ih (qh - 1) (rh + v1) hi' (by omega) (by omega) hy ?_)
        have : ((d + 1 : Nat) : Int) * v1 = d * v1 + v1 := by rw [Int.natCast_add, Int.add_mul]; omega
        omega
    refine Ev.step (f := fun k => if qh ≥ 4294967296 then bits_Div64.j4 k x2 x8 v1 v0 un0 q1 rh u qh true else bits_Div64.j4 k x2 x8 v1 v0 un0 q1 rh u qh (decide (IntKind.u64.wrap (qh * v0) > IntKind.u64.wrap (IntKind.u64.wrap (4294967296 * rh) + un0)))) (fun k => by simp only [bits_Div64.l1]) ?_
    rw [w1, w2, w3]
    by_cases hb : qh ≥ 4294967296
    · refine Ev.congr (fun k => if_pos hb) (yes ?_)
      have := D.qB
      omega
    · by_cases ht : qh * v0 > 4294967296 * rh + un0
      · rw [decide_eq_true ht]
        exact Ev.congr (fun k => if_neg hb) (yes (D.yes hi ht))
      · rw [decide_eq_false ht]
        have := D.no hi (by omega)
        obtain rfl : q = qh := by omega
        refine Ev.congr (fun k => if_neg hb) (Ev.step (f := fun k => some (IntKind.u64.wrap (IntKind.u64.wrap (q1 * 4294967296) + q), shr .u64 (IntKind.u64.wrap (IntKind.u64.wrap (IntKind.u64.wrap (u * 4294967296) + un0) - IntKind.u64.wrap (q * x2))) x8)) (fun k => by simp only [bits_Div64.j4]; rw [if_neg (by decide), if_pos h8]) (Ev.now _))

theorem Dig.mk' {v1 v0 u un1 : Int} (a : 2147483648 ≤ v1) (b : v1 < 4294967296) (c : 0 ≤ v0) (d : v0 < 4294967296) (e : 0 ≤ u) (f : u < v1 * 4294967296 + v0) (g : 0 ≤ un1) (h : un1 < 4294967296) :
    Dig v1 v0 u un1 ((u * 4294967296 + un1) / (v1 * 4294967296 + v0)) := by
  have hv : 0 < v1 * 4294967296 + v0 := by omega
  refine ⟨a, b, c, d, e, f, g, h, Int.ediv_nonneg (by omega) (by omega), ?_, ?_⟩
  · exact Int.ediv_mul_le _ (by omega)
  · have := Int.lt_ediv_add_one_mul_self (u * 4294967296 + un1) hv
    exact this

theorem Dig.guess {v1 v0 u un1 q : Int} (D : Dig v1 v0 u un1 q) : q ≤ u / v1 ∧ u / v1 * v1 + (u - u / v1 * v1) = u ∧ 0 ≤ u - u / v1 * v1 ∧ u - u / v1 * v1 < 4294967296 ∧ 4294967296 ≤ u - u / v1 * v1 + ((2 : Nat) : Int) * v1 ∧ 0 ≤ u / v1 ∧ u / v1 ≤ 4294967297 := by
  have v1l := D.v1lo
  have v1h := D.v1hi
  have hm := Int.emod_add_mul_ediv u v1
  have hp := Int.emod_nonneg u (show v1 ≠ 0 by omega)
  have hl := Int.emod_lt_of_pos u (show 0 < v1 by omega)
  rw [Int.mul_comm] at hm
  have hg : u / v1 * v1 + (u - u / v1 * v1) = u := by omega
  refine ⟨?_, hg, by omega, by omega, by omega, Int.ediv_nonneg D.u0 (by omega), D.qh hg (by omega)⟩
  rw [Int.le_ediv_iff_mul_le (by omega)]
  have h1 : q * v1 * 4294967296 ≤ u * 4294967296 + un1 := by
    have := D.lo
    have e : q * (v1 * 4294967296 + v0) = q * v1 * 4294967296 + q * v0 := by rw [Int.mul_add, ← Int.mul_assoc]
    have := Int.mul_nonneg D.q0 D.v0lo
    omega
  have := D.n1
  omega

theorem both (x8 v1 v0 u un1 un0 q1 q2 v u2 : Int) (h8 : 0 ≤ x8) (hv : v = v1 * 4294967296 + v0) (D1 : Dig v1 v0 u un1 q1) (hu2 : u2 = u * 4294967296 + un1 - q1 * v) (D2 : Dig v1 v0 u2 un0 q2) :
    Ev (fun k => bits_Div64.j2 k v x8 v1 v0 u un1 un0 q1) (q1 * 4294967296 + q2, shr .u64 (u2 * 4294967296 + un0 - q2 * v) x8) := by
  obtain ⟨g1, g2, g3, g4, g5, g6, g7⟩ := D2.guess
  have v1l := D1.v1lo
  have v1h := D1.v1hi
  have v0h := D1.v0hi
  have v0l := D1.v0lo
  have a1 := D1.n0
  have a2 := D1.n1
  have a3 := D2.n0
  have a4 := D2.n1
  have b1 := D1.qB
  have b2 := D2.qB
  have b3 := D1.q0
  have b4 := D2.q0
  have c1 := D1.u0
  have c2 := D2.u0
  have c3 := D2.uv
  have c4 := D1.uv
  have l1 := D1.lo
  have l2 := D2.lo
  have h2 := D2.hi
  rw [← hv] at l1 l2 h2 c3 c4
  have hu21 : IntKind.u64.wrap (IntKind.u64.wrap (IntKind.u64.wrap (u * 4294967296) + un1) - IntKind.u64.wrap (q1 * v)) = u2 := by
    simp only [wu]
    generalize q1 * v = p at *
    omega
  have w1 : IntKind.u64.wrap (Int.tdiv u2 v1) = u2 / v1 := by
    rw [Int.tdiv_eq_ediv_of_nonneg c2]
    exact wr _ g6 (by omega)
  have w2 : IntKind.u64.wrap (u2 / v1 * v1) = u2 / v1 * v1 := wr _ (Int.mul_nonneg g6 (by omega)) (by omega)
  have w3 : IntKind.u64.wrap (u2 - u2 / v1 * v1) = u2 - u2 / v1 * v1 := wr _ (by omega) (by omega)
  have hs := second v x8 v1 v0 u2 un0 q1 q2 h8 D2 2 (u2 / v1) (u2 - u2 / v1 * v1) g2 g3 g4 g1 g5
  have r1 : IntKind.u64.wrap (IntKind.u64.wrap (q1 * 4294967296) + q2) = q1 * 4294967296 + q2 := by
    simp only [wu]
    omega
  have r2 : IntKind.u64.wrap (IntKind.u64.wrap (IntKind.u64.wrap (u2 * 4294967296) + un0) - IntKind.u64.wrap (q2 * v)) = u2 * 4294967296 + un0 - q2 * v := by
    simp only [wu]
    have : (q2 + 1) * v = q2 * v + v := by rw [Int.add_mul]; omega
    generalize q2 * v = p at *
    omega
  rw [r1, r2] at hs
  refine Ev.step (f := fun k => if v1 = 0 then none else bits_Div64.l1 k v x8 v1 v0 un0 q1 (IntKind.u64.wrap (IntKind.u64.wrap (IntKind.u64.wrap (IntKind.u64.wrap (u * 4294967296) + un1) - IntKind.u64.wrap (q1 * v)) - IntKind.u64.wrap (IntKind.u64.wrap (Int.tdiv (IntKind.u64.wrap (IntKind.u64.wrap (IntKind.u64.wrap (u * 4294967296) + un1) - IntKind.u64.wrap (q1 * v))) v1) * v1))) (IntKind.u64.wrap (IntKind.u64.wrap (IntKind.u64.wrap (u * 4294967296) + un1) - IntKind.u64.wrap (q1 * v))) (IntKind.u64.wrap (Int.tdiv (IntKind.u64.wrap (IntKind.u64.wrap (IntKind.u64.wrap (u * 4294967296) + un1) - IntKind.u64.wrap (q1 * v))) v1))) (fun k => by simp only [bits_Div64.j2]) ?_
  rw [hu21, w1, w2, w3]
  exact Ev.congr (fun k => if_neg (by omega)) hs

theorem tp (n : Nat) : ((2 ^ n : Nat) : Int) = (2 : Int) ^ n := by
  rw [Int.natCast_pow]
  rfl

theorem undo (X y P Q r : Int) (hP : 0 < P) (hy : 0 < y) (h : X * P = Q * (y * P) + r) (h0 : 0 ≤ r) (h1 : r < y * P) : Q = X / y ∧ r / P = X % y := by
  have e : r = (X - Q * y) * P := by rw [Int.sub_mul, Int.mul_assoc]; omega
  have t0 : 0 ≤ X - Q * y := by
    have : 0 * P ≤ (X - Q * y) * P := by omega
    exact Int.le_of_mul_le_mul_right this hP
  have t1 : X - Q * y < y := by
    rw [e] at h1
    exact Int.lt_of_mul_lt_mul_right h1 (by omega)
  have u := (Int.ediv_emod_unique (a := X) (b := y) (q := Q) (r := X - Q * y) hy).2 ⟨by rw [Int.mul_comm y Q]; omega, t0, t1⟩
  exact ⟨u.1.symm, by rw [e, Int.mul_ediv_cancel _ (by omega), u.2]⟩

theorem div64_val (hi lo y : Int) (h0 : 0 ≤ hi) (hy : hi < y) (hy' : y < 18446744073709551616) (hl : 0 ≤ lo) (hl' : lo < 18446744073709551616) :
    Ev (fun k => bits_Div64.f k hi lo y) ((hi * 18446744073709551616 + lo) / y, (hi * 18446744073709551616 + lo) % y) := by
  unfold bits_Div64.f
  refine Ev.congr (fun k => (if_neg (by omega)).trans (if_neg (by omega))) ?_
  by_cases hz : hi = 0
  · refine Ev.congr (fun k => if_pos hz) ?_
    rw [Int.tdiv_eq_ediv_of_nonneg hl, Int.tmod_eq_emod_of_nonneg hl, wr _ (Int.ediv_nonneg hl (by omega)) (Int.lt_of_le_of_lt (Int.ediv_le_self _ hl) hl'), hz, Int.zero_mul, Int.zero_add]
    exact Ev.now _
  refine Ev.congr (fun k => if_neg hz) ?_
  -- the shift
  obtain ⟨b1, b2⟩ := bl_spec y.toNat y.toNat (Nat.le_refl _) (by omega)
  have b2 := b2 (by omega)
  have b3 := Lib.bitLen_le y.toNat 64 (by omega) (by omega)
  have b4 : 1 ≤ Lib.bitLen y.toNat := by
    by_cases h : Lib.bitLen y.toNat = 0
    · rw [h] at b1; omega
    · omega
  have hLZ : bits_LeadingZeros64.f y = some (64 - (Lib.bitLen y.toNat : Int)) := by
    unfold bits_LeadingZeros64.f bits_Len64.f
    rw [if_pos (by omega)]
    simp only [Option.bind_some]
    rw [show wrap64 (64 - (Lib.bitLen y.toNat : Int)) = 64 - (Lib.bitLen y.toNat : Int) by unfold wrap64; omega]
  generalize Lib.bitLen y.toNat = L at *
  obtain ⟨s, hs⟩ : ∃ s : Nat, s + L = 64 := ⟨64 - L, by omega⟩
  have hsI : (64 - (L : Int)) = (s : Int) := by omega
  rw [hsI] at hLZ
  have hPR : (2 : Int) ^ s * 2 ^ L = 18446744073709551616 := by
    rw [← Int.pow_add, hs]
    rfl
  have hP : (0 : Int) < 2 ^ s := Int.pow_pos (by decide)
  have hR : (0 : Int) < 2 ^ L := Int.pow_pos (by decide)
  have c1 : y < 2 ^ L := by
    have : ((y.toNat : Nat) : Int) < ((2 ^ L : Nat) : Int) := by omega
    rw [tp] at this
    omega
  have c2 : (2 : Int) ^ L ≤ 2 * y := by
    have : ((2 ^ L : Nat) : Int) ≤ ((2 * y.toNat : Nat) : Int) := by omega
    rw [tp] at this
    omega
  have mn : ∀ n : Nat, n ≤ 64 → min ((n : Int)).toNat IntKind.u64.bits = n := by
    intro n hn
    show min ((n : Int)).toNat 64 = n
    omega
  have e1 : shl .u64 y s = y * 2 ^ s := by
    unfold shl
    rw [mn s (by omega)]
    refine wr _ (Int.mul_nonneg (by omega) (by omega)) ?_
    rw [← hPR, Int.mul_comm ((2 : Int) ^ s)]
    exact Int.mul_lt_mul_of_pos_right c1 hP
  have hyP : y * 2 ^ s < 18446744073709551616 := by
    rw [← hPR, Int.mul_comm ((2 : Int) ^ s)]
    exact Int.mul_lt_mul_of_pos_right c1 hP
  have hyP2 : 9223372036854775808 ≤ y * 2 ^ s := by
    have : (2 : Int) ^ L * 2 ^ s ≤ 2 * y * 2 ^ s := Int.mul_le_mul_of_nonneg_right c2 (by omega)
    rw [Int.mul_comm, hPR, Int.mul_assoc] at this
    omega
  have hhP : hi * 2 ^ s + 2 ^ s ≤ y * 2 ^ s := by
    have : (hi + 1) * 2 ^ s ≤ y * 2 ^ s := Int.mul_le_mul_of_nonneg_right (by omega) (by omega)
    rw [Int.add_mul] at this
    omega
  have hh0 : 0 ≤ hi * 2 ^ s := Int.mul_nonneg h0 (by omega)
  have e2 : shl .u64 hi s = hi * 2 ^ s := by
    unfold shl
    rw [mn s (by omega)]
    exact wr _ hh0 (by omega)
  have e3 : shl .u64 lo s = lo * 2 ^ s % 18446744073709551616 := by
    unfold shl
    rw [mn s (by omega), wu]
  have e4 : shr .u64 lo L = lo / 2 ^ L := by
    unfold shr
    rw [mn L (by omega)]
  have hq0 : 0 ≤ lo / 2 ^ L := Int.ediv_nonneg hl (by omega)
  have hq1 : lo / 2 ^ L < 2 ^ s := by
    refine Int.ediv_lt_of_lt_mul hR ?_
    rw [hPR]
    exact hl'
  have e5 : Go.bits .or .u64 (hi * 2 ^ s) (lo / 2 ^ L) = hi * 2 ^ s + lo / 2 ^ L := by
    refine bits_join .u64 64 (by decide) (fun n a b => wr n a (by simpa using b)) s _ _ hh0 ?_ ?_ hq0 hq1 ?_
    · exact Int.mul_emod_left _ _
    · show hi * 2 ^ s < 18446744073709551616
      omega
    · show lo / 2 ^ L < 18446744073709551616
      omega
  -- the number, shifted
  have hX : (hi * 18446744073709551616 + lo) * 2 ^ s = (hi * 2 ^ s + lo / 2 ^ L) * 18446744073709551616 + lo * 2 ^ s % 18446744073709551616 := by
    have m1 := Int.emod_add_mul_ediv lo (2 ^ L)
    have m2 : lo * 2 ^ s = (lo / 2 ^ L) * 18446744073709551616 + lo % 2 ^ L * 2 ^ s := by
      have : lo * 2 ^ s = (lo % 2 ^ L + 2 ^ L * (lo / 2 ^ L)) * 2 ^ s := by rw [m1]
      rw [this, Int.add_mul, ← hPR]
      have : (2 : Int) ^ L * (lo / 2 ^ L) * 2 ^ s = lo / 2 ^ L * (2 ^ s * 2 ^ L) := by
        rw [Int.mul_comm ((2 : Int) ^ L), Int.mul_assoc, Int.mul_comm ((2 : Int) ^ L)]
      omega
    have m3 : 0 ≤ lo % 2 ^ L * 2 ^ s := Int.mul_nonneg (Int.emod_nonneg _ (by omega)) (by omega)
    have m4 : lo % 2 ^ L * 2 ^ s < 18446744073709551616 := by
      rw [← hPR, Int.mul_comm ((2 : Int) ^ s)]
      exact Int.mul_lt_mul_of_pos_right (Int.emod_lt_of_pos _ hR) hP
    rw [Int.add_mul, Int.mul_assoc, Int.mul_comm 18446744073709551616, ← Int.mul_assoc, Int.add_mul]
    omega
  generalize hv : y * 2 ^ s = v at *
  generalize hu : hi * 2 ^ s + lo / 2 ^ L = u at *
  have hun0 : 0 ≤ lo * 2 ^ s % 18446744073709551616 := Int.emod_nonneg _ (by decide)
  have hun1 : lo * 2 ^ s % 18446744073709551616 < 18446744073709551616 := Int.emod_lt_of_pos _ (by decide)
  generalize hn : lo * 2 ^ s % 18446744073709551616 = n at *
  have D1 := Dig.mk' (v1 := v / 4294967296) (v0 := v % 4294967296) (u := u) (un1 := n / 4294967296) (by omega) (by omega) (by omega) (by omega) (by omega) (by omega) (by omega) (by omega)
  have ev : v / 4294967296 * 4294967296 + v % 4294967296 = v := by omega
  rw [ev] at D1
  generalize hq : (u * 4294967296 + n / 4294967296) / v = q1 at *
  have l1 := D1.lo
  have l2 := D1.hi
  rw [ev] at l1 l2
  have hq1v : (q1 + 1) * v = q1 * v + v := by rw [Int.add_mul]; omega
  have D2 := Dig.mk' (v1 := v / 4294967296) (v0 := v % 4294967296) (u := u * 4294967296 + n / 4294967296 - q1 * v) (un1 := n % 4294967296) (by omega) (by omega) (by omega) (by omega) (by omega) (by omega) (by omega) (by omega)
  rw [ev] at D2
  generalize hqq : ((u * 4294967296 + n / 4294967296 - q1 * v) * 4294967296 + n % 4294967296) / v = q2 at *
  have l3 := D2.lo
  have l4 := D2.hi
  rw [ev] at l3 l4
  have hq2v : (q2 + 1) * v = q2 * v + v := by rw [Int.add_mul]; omega
  have B2 := both s (v / 4294967296) (v % 4294967296) u (n / 4294967296) (n % 4294967296) q1 q2 v _ (by omega) ev.symm D1 rfl D2
  obtain ⟨f1, f2⟩ := undo (hi * 18446744073709551616 + lo) y (2 ^ s) (q1 * 4294967296 + q2) ((u * 4294967296 + n / 4294967296 - q1 * v) * 4294967296 + n % 4294967296 - q2 * v) hP (by omega) (by
    rw [hX, hv, Int.add_mul, Int.mul_right_comm]
    omega) (by omega) (by rw [hv]; omega)
  have e6 : shr .u64 ((u * 4294967296 + n / 4294967296 - q1 * v) * 4294967296 + n % 4294967296 - q2 * v) s = (hi * 18446744073709551616 + lo) % y := by
    unfold shr
    rw [mn s (by omega)]
    exact f2
  rw [f1, e6] at B2
  obtain ⟨g1, g2, g3, g4, g5, g6, g7⟩ := D1.guess
  have F := first v s (v / 4294967296) (v % 4294967296) u (n / 4294967296) (n % 4294967296) q1 _ D1 B2 2 _ _ g2 g3 g4 g1 g5
  have ws : IntKind.u64.wrap (s : Int) = s := wr _ (by omega) (by omega)
  have wL : IntKind.u64.wrap (64 - (s : Int)) = (L : Int) := by rw [wr _ (by omega) (by omega)]; omega
  have w1 : IntKind.u64.wrap (Int.tdiv u (v / 4294967296)) = u / (v / 4294967296) := by
    rw [Int.tdiv_eq_ediv_of_nonneg (by omega)]
    exact wr _ g6 (by omega)
  have w2 : IntKind.u64.wrap (u / (v / 4294967296) * (v / 4294967296)) = u / (v / 4294967296) * (v / 4294967296) := wr _ (Int.mul_nonneg g6 (by omega)) (by omega)
  have w3 : IntKind.u64.wrap (u - u / (v / 4294967296) * (v / 4294967296)) = u - u / (v / 4294967296) * (v / 4294967296) := wr _ (by omega) (by omega)
  rw [hLZ]
  simp only [Option.bind_some]
  rw [ws, wL, e1, e2, e3, e4, e5, and_low32 v (by omega) (by omega), and_low32 n (by omega) (by omega), w1, w2, w3]
  exact Ev.congr (fun k => (if_pos (by omega)).trans ((if_pos (by omega)).trans (if_neg (by omega)))) F
end Go.Proofs.Ythmjmkbahneneaa.MonDiv
end
