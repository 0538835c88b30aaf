/- MonRg, struck of what this claim does not name (wip/tools/pack2.py). -/
import Derived.Test.YthmjmkbahneneaaZa48
import Derived.Test.YthmjmkbahneneaaZa37
import Derived.Test.YthmjmkbahneneaaZa38
section
namespace Go.Proofs.Ythmjmkbahneneaa.PMon
open Go.RowKit Go.Proofs.Ythmjmkbahneneaa.PBig Go.Proofs.YthmjmkbahneneaaW.PrintWords Go.Proofs.YthmjmkbahneneaaW.PrintLast Go.Proofs.YthmjmkbahneneaaW.PrintMore
set_option linter.unusedVariables false
set_option linter.unusedSimpArgs false

theorem D4 {v : Int} (h : Small v) : (D v.natAbs).length ≤ 4 := by
  unfold Small at h
  exact len_D v.natAbs 4 (by omega)
theorem RmE.of {w w' : World} {e : Ending} {v k : Int} {neg : Bool} {u : Value} {b : Nat} {ok : Nat → Prop} (he : e = .returned (.tuple #[.agg #[.bool neg, u], .int .i64 k])) (hn : neg = mnM v) (hr : Kd.R (Kd.int .u32) 67 w' b ok u (D v.natAbs)) (hb : Below w.heap.size w w') : RmE w v k e w' :=
  ⟨_, he, Rm.of_R hn hr, hb⟩

theorem mn_of (neg : Bool) (n : Nat) : mnM (if neg then -(n : Int) else (n : Int)) = (neg && decide (0 < n)) ∧ (if neg then -(n : Int) else (n : Int)).natAbs = n := by
  cases neg
  · refine ⟨?_, by simp⟩; unfold mnM; simp
  · refine ⟨?_, by simp⟩
    unfold mnM
    rw [Bool.true_and]
    exact decide_eq_decide.mpr (by simp)
theorem rcents_any (a : Int) (h0 : -9223372036854775808 ≤ a) (h1 : a ≤ 9223372036854775807) (w : World) : Calls Try.prog 63 #[.int .i64 a] w (RmR w a) := by
  have ev : Ev (fun k => bourseref01_Cents.f k a) (mnM a, D a.natAbs) := by
    unfold bourseref01_Cents.f
    by_cases c : a < 0
    · have e : (IntKind.u64.wrap ((IntKind.u64.wrap (wrap64 (-(wrap64 (a + 1))))) + 1)) = (a.natAbs : Int) := by
        rw [w64 (a + 1) (by omega) (by omega), w64 _ (by omega) (by omega), IntKind.wrap_u64, IntKind.wrap_u64]; omega
      refine Ev.congr (fun k => if_pos c) ?_
      rw [e]
      have := of_ev (a.natAbs : Int) (by omega) (by omega)
      rw [Int.toNat_natCast] at this
      refine Ev.bind (f := fun (k : Nat) (t357 : List Int) => some (true, t357)) this ?_
      have e2 : mnM a = true := decide_eq_true c
      rw [e2]
      exact Ev.now _
    · have e : IntKind.u64.wrap a = (a.natAbs : Int) := by rw [IntKind.wrap_u64]; omega
      refine Ev.congr (fun k => if_neg c) ?_
      rw [e]
      have := of_ev (a.natAbs : Int) (by omega) (by omega)
      rw [Int.toNat_natCast] at this
      refine Ev.bind (f := fun (k : Nat) (t360 : List Int) => some (false, t360)) this ?_
      have e2 : mnM a = false := decide_eq_false c
      rw [e2]
      exact Ev.now _
  obtain ⟨k, hk⟩ := ev.rounds
  refine (bourseref01_Cents.calls k a _ _ w hk).mono ?_
  rintro e w' ⟨v, rfl, hr, hb⟩
  exact ⟨_, rfl, Rm.of_R rfl hr, hb⟩
theorem rtimes_any (p q : Int) (h0 : 0 ≤ p) (h1 : p < 4294967296) (k0 : 0 ≤ q) (k1 : q < 18446744073709551616) (w : World) : Calls Try.prog 65 #[.int .u32 p, .int .u64 q] w (RmR w (p * q)) := by
  obtain ⟨P, rfl⟩ : ∃ P : Nat, p = (P : Int) := ⟨p.toNat, by omega⟩
  obtain ⟨Q, rfl⟩ : ∃ Q : Nat, q = (Q : Int) := ⟨q.toNat, by omega⟩
  have eP : ((P : Int) * (Q : Int)) = ((P * Q : Nat) : Int) := by push_cast; rfl
  rw [eP]
  have ev : Ev (fun k => bourseref01_Times.f k (P : Int) (Q : Int)) (mnM ((P * Q : Nat) : Int), D ((P * Q : Nat) : Int).natAbs) := by
    unfold bourseref01_Times.f
    have e : IntKind.u64.wrap (P : Int) = (P : Int) := by rw [IntKind.wrap_u64]; omega
    rw [e]
    have o1 := of_ev (P : Int) (by omega) (by omega)
    have o2 := of_ev (Q : Int) (by omega) (by omega)
    rw [Int.toNat_natCast] at o1 o2
    have e2 : mnM ((P * Q : Nat) : Int) = false := decide_eq_false (by omega)
    rw [e2, Int.natAbs_natCast]
    have l1 : (D P).length ≤ 2 := len_D P 2 (by omega)
    have l2 : (D Q).length ≤ 2 := len_D Q 2 (by omega)
    refine Ev.bind (f := fun (k : Nat) (t367 : List Int) => ((bourseref01_of.f k (Q : Int)).bind fun t370 => ((bourseref01_times.f k t367 t370).bind fun t373 => (some (false, t373))))) o1 ?_
    refine Ev.bind (f := fun (k : Nat) (t370 : List Int) => ((bourseref01_times.f k (D P) t370).bind fun t373 => (some (false, t373)))) o2 ?_
    exact Ev.bind (f := fun (k : Nat) (t373 : List Int) => some (false, t373)) (times_ev P Q (by omega) (by omega)) (Ev.now _)
  obtain ⟨k, hk⟩ := ev.rounds
  refine (bourseref01_Times.calls k (P : Int) (Q : Int) _ _ w hk).mono ?_
  rintro e w' ⟨v, rfl, hr, hb⟩
  exact ⟨_, rfl, Rm.of_R rfl hr, hb⟩

theorem rsign_any (a : Int) (V : Value) (w : World) (h : Rm w V a) : Calls Try.prog 40 #[V] w fun e w' => e = .returned (.int .i64 (sig a)) ∧ Below w.heap.size w w' := by
  obtain ⟨A, c, rfl, hc, hr⟩ := h.reads
  have hf : bourseref01_Money_Sign.f (mnM a) (D a.natAbs) = some (sig a) := by
    unfold bourseref01_Money_Sign.f sig mnM
    by_cases z : a = 0
    · subst z; rw [show (0 : Int).natAbs = 0 from rfl, D_zero]; rfl
    · rw [D_pos a.natAbs (by omega), List.length_cons, if_neg (by omega)]
      by_cases n : a < 0
      · rw [if_pos (decide_eq_true n), if_pos n]
      · rw [if_neg (by simpa using n), if_neg n, if_neg z]
  exact bourseref01_Money_Sign.calls (mnM a) A c (D a.natAbs) _ w hr hc hf
theorem rcomp_any (a b : Int) (ha : Small a) (hb : Small b) (V U : Value) (w : World) (h : Rm w V a) (k : Rm w U b) : Calls Try.prog 41 #[V, U] w fun e w' => e = .returned (.int .i64 (if a = b then 0 else if a < b then -1 else 1)) ∧ Below w.heap.size w w' := by
  obtain ⟨A, c, rfl, hc, hr⟩ := h.reads
  obtain ⟨B, d, rfl, hd, ht⟩ := k.reads
  have ev : Ev (fun k => bourseref01_Money_Compare.f k (mnM a) (D a.natAbs) (mnM b) (D b.natAbs)) (if a = b then 0 else if a < b then -1 else 1) := by
    have h4 := D4 ha
    unfold bourseref01_Money_Compare.f
    by_cases e : mnM a = mnM b
    · refine Ev.congr (fun k => if_neg (by rw [e]; simp)) ?_
      refine Ev.bind (f := fun (k : Nat) (t528 : Int) => (if mnM a = true then (some (wrap64 (-t528))) else (some t528))) (compare_ev a.natAbs b.natAbs (by omega)) ?_
      unfold PBig.cmp
      unfold mnM at e ⊢
      by_cases n : a < 0
      · have nb : b < 0 := by
          rw [decide_eq_true n] at e
          exact of_decide_eq_true e.symm
        refine Ev.congr (f := fun _ => some _) (fun k => if_pos (decide_eq_true n)) ?_
        have e3 : wrap64 (-(if ((a.natAbs : Nat) : Int) < ((b.natAbs : Nat) : Int) then -1 else if ((a.natAbs : Nat) : Int) = ((b.natAbs : Nat) : Int) then 0 else 1)) = (if a = b then 0 else if a < b then -1 else 1 : Int) := by
          by_cases c1 : a = b
          · subst c1; rw [if_neg (by omega), if_pos rfl, if_pos rfl]; unfold wrap64; omega
          · rw [if_neg c1]
            by_cases c2 : a < b
            · rw [if_neg (by omega), if_neg (by omega), if_pos c2]; unfold wrap64; omega
            · rw [if_pos (by omega), if_neg c2]; unfold wrap64; omega
        rw [e3]
        exact Ev.now _
      · have nb : ¬ b < 0 := by
          rw [decide_eq_false n] at e
          exact of_decide_eq_false e.symm
        refine Ev.congr (f := fun _ => some _) (fun k => if_neg (by simpa using n)) ?_
        have e3 : (if ((a.natAbs : Nat) : Int) < ((b.natAbs : Nat) : Int) then -1 else if ((a.natAbs : Nat) : Int) = ((b.natAbs : Nat) : Int) then 0 else 1) = (if a = b then 0 else if a < b then -1 else 1 : Int) := by
          by_cases c1 : a = b
          · subst c1; rw [if_neg (by omega), if_pos rfl, if_pos rfl]
          · rw [if_neg c1]
            by_cases c2 : a < b
            · rw [if_pos (by omega), if_pos c2]
            · rw [if_neg (by omega), if_neg (by omega), if_neg c2]
        rw [e3]
        exact Ev.now _
    · refine Ev.congr (f := fun _ => if mnM a = true then some (-1) else some 1) (fun k => if_pos (by simpa using e)) ?_
      unfold mnM at e ⊢
      by_cases n : a < 0
      · have nb : ¬ b < 0 := fun nb => e (by rw [decide_eq_true n, decide_eq_true nb])
        rw [if_pos (decide_eq_true n), if_neg (by omega), if_pos (by omega)]
        exact Ev.now _
      · have nb : b < 0 := by
          by_cases nb : b < 0
          · exact nb
          · exact absurd (by rw [decide_eq_false n, decide_eq_false nb]) e
        rw [if_neg (by simpa using n), if_neg (by omega), if_neg (by omega)]
        exact Ev.now _
  obtain ⟨k, hk⟩ := ev.rounds
  exact bourseref01_Money_Compare.calls k (mnM a) A c (D a.natAbs) (mnM b) B d (D b.natAbs) _ w hr hc ht hd hk

theorem amount_v (neg : Bool) (n : Nat) (hn : (D n).length ≤ 1000000) (v : Int) (hv : v = if neg then -(n : Int) else (n : Int)) : Ev (fun k => (bourseref01_amount.f k neg (D n)).bind fun bt => some (bt.1, bt.2.1, bt.2.2)) (mnM (addR v), D (addR v).natAbs, addE v) := by
  obtain ⟨e1, e2⟩ := mn_of neg n
  rw [← hv] at e1 e2
  refine Ev.bind (f := fun (k : Nat) (bt : Bool × List Int × Int) => some (bt.1, bt.2.1, bt.2.2)) (amount_ev neg n hn) ?_
  unfold addR addE
  rw [e2]
  by_cases c : n < 170141183460469231731687303715884105728
  · rw [if_pos c, if_pos c, if_pos c, e1, e2]
    exact Ev.now _
  · rw [if_neg c, if_neg c, if_neg c]
    show Ev _ (mnM 0, D 0, 10)
    rw [D_zero]
    exact Ev.now _
theorem radd_ev' (a b : Int) (ha : Small a) (hb : Small b) : Ev (fun k => bourseref01_Money_Add.f k (mnM a) (D a.natAbs) (mnM b) (D b.natAbs)) (mnM (addR (a + b)), D (addR (a + b)).natAbs, addE (a + b)) := by
  have h4 := D4 ha
  have g4 := D4 hb
  unfold bourseref01_Money_Add.f
  by_cases e : mnM a = mnM b
  · refine Ev.congr (fun k => if_pos (by rw [e]; simp)) ?_
    have l5 := len_add a.natAbs b.natAbs 4 h4 g4
    refine Ev.bind (f := fun (k : Nat) (t379 : List Int) => ((bourseref01_amount.f k (mnM a) t379).bind fun bt382 => (some (bt382.1, bt382.2.1, bt382.2.2)))) (plus_ev a.natAbs b.natAbs (by omega) (by omega)) ?_
    refine amount_v (mnM a) (a.natAbs + b.natAbs) (by omega) (a + b) ?_
    unfold mnM at e ⊢
    by_cases n : a < 0
    · have nb : b < 0 := by rw [decide_eq_true n] at e; exact of_decide_eq_true e.symm
      rw [if_pos (decide_eq_true n)]; omega
    · have nb : ¬ b < 0 := by rw [decide_eq_false n] at e; exact of_decide_eq_false e.symm
      rw [if_neg (by simpa using n)]; omega
  · refine Ev.congr (fun k => if_neg (by simpa using e)) ?_
    refine Ev.bind (f := fun (k : Nat) (t387 : Int) => (if t387 ≥ 0 then ((bourseref01_minus.f k (D a.natAbs) (D b.natAbs)).bind fun t388 => ((bourseref01_amount.f k (mnM a) t388).bind fun bt391 => (some (bt391.1, bt391.2.1, bt391.2.2)))) else ((bourseref01_minus.f k (D b.natAbs) (D a.natAbs)).bind fun t396 => ((bourseref01_amount.f k (mnM b) t396).bind fun bt399 => (some (bt399.1, bt399.2.1, bt399.2.2)))))) (compare_ev a.natAbs b.natAbs (by omega)) ?_
    have sg : (a < 0 ∧ ¬ b < 0) ∨ (¬ a < 0 ∧ b < 0) := by
      unfold mnM at e
      by_cases n : a < 0
      · exact .inl ⟨n, fun nb => e (by rw [decide_eq_true n, decide_eq_true nb])⟩
      · refine .inr ⟨n, ?_⟩
        by_cases nb : b < 0
        · exact nb
        · exact absurd (by rw [decide_eq_false n, decide_eq_false nb]) e
    unfold PBig.cmp
    by_cases c : b.natAbs ≤ a.natAbs
    · refine Ev.congr (fun k => if_pos (by split <;> (try split) <;> omega)) ?_
      have ll := len_le (a.natAbs - b.natAbs) a.natAbs (Nat.sub_le _ _)
      refine Ev.bind (f := fun (k : Nat) (t388 : List Int) => ((bourseref01_amount.f k (mnM a) t388).bind fun bt391 => (some (bt391.1, bt391.2.1, bt391.2.2)))) (minus_ev a.natAbs b.natAbs (by omega) c) ?_
      refine amount_v (mnM a) (a.natAbs - b.natAbs) (by omega) (a + b) ?_
      unfold mnM
      rcases sg with ⟨n, nb⟩ | ⟨n, nb⟩
      · rw [if_pos (decide_eq_true n)]; omega
      · rw [if_neg (by simpa using n)]; omega
    · refine Ev.congr (fun k => if_neg (by split <;> (try split) <;> omega)) ?_
      have ll := len_le (b.natAbs - a.natAbs) b.natAbs (Nat.sub_le _ _)
      refine Ev.bind (f := fun (k : Nat) (t396 : List Int) => ((bourseref01_amount.f k (mnM b) t396).bind fun bt399 => (some (bt399.1, bt399.2.1, bt399.2.2)))) (minus_ev b.natAbs a.natAbs (by omega) (by omega)) ?_
      refine amount_v (mnM b) (b.natAbs - a.natAbs) (by omega) (a + b) ?_
      unfold mnM
      rcases sg with ⟨n, nb⟩ | ⟨n, nb⟩
      · rw [if_neg (by simpa using nb)]; omega
      · rw [if_pos (decide_eq_true nb)]; omega
theorem radd_any (a b : Int) (ha : Small a) (hb : Small b) (V U : Value) (w : World) (h : Rm w V a) (k : Rm w U b) : Calls Try.prog 66 #[V, U] w (RmE w (addR (a + b)) (addE (a + b))) := by
  obtain ⟨A, c, rfl, hc, hr⟩ := h.reads
  obtain ⟨B, d, rfl, hd, ht⟩ := k.reads
  obtain ⟨k, hk⟩ := (radd_ev' a b ha hb).rounds
  refine (bourseref01_Money_Add.calls k (mnM a) A c (D a.natAbs) (mnM b) B d (D b.natAbs) _ _ _ w hr hc ht hd hk).mono ?_
  rintro e w' ⟨v, rfl, hr, hb⟩
  exact RmE.of rfl rfl hr hb

theorem rpor_ev (v : Int) (hs : Small v) (x y r : Int) (hx0 : 0 ≤ x) (hx : x < 4294967296) (hy0 : 0 ≤ y) (hy : y < 4294967296) : Ev (fun k => bourseref01_Money_Portion.f k (mnM v) (D v.natAbs) x y r) (mnM (porR v x y r), D (porR v x y r).natAbs, porE v x y r) := by
  have bad : ∀ e : Int, porE v x y r = e → e ≠ 0 → ((mnM (porR v x y r), D (porR v x y r).natAbs, porE v x y r) : Bool × List Int × Int) = (false, [], e) := by
    intro e he h0
    have : porR v x y r = 0 := by unfold porR; rw [he, if_neg h0]
    rw [this, he]
    show (mnM 0, D 0, e) = _
    rw [D_zero]; rfl
  unfold bourseref01_Money_Portion.f
  by_cases c1 : r < 0
  · rw [bad 1 (by unfold porE; rw [if_pos (.inl c1)]) (by decide)]
    refine Ev.congr (fun k => if_pos c1) ?_
    exact Ev.step (f := fun _ => some (false, [], 1)) (fun k => by simp only [bourseref01_Money_Portion.j0, if_true]) (Ev.now _)
  refine Ev.congr (fun k => if_neg c1) ?_
  by_cases c2 : r > 2
  · rw [bad 1 (by unfold porE; rw [if_pos (.inr c2)]) (by decide), decide_eq_true c2]
    exact Ev.step (f := fun _ => some (false, [], 1)) (fun k => by simp only [bourseref01_Money_Portion.j0, if_true]) (Ev.now _)
  rw [decide_eq_false c2]
  have n12 : ¬ (r < 0 ∨ 2 < r) := by omega
  by_cases c3 : y = 0
  · rw [bad 11 (by unfold porE; rw [if_neg n12, if_pos c3]) (by decide)]
    exact Ev.step (f := fun _ => some (false, [], 11)) (fun k => by simp only [bourseref01_Money_Portion.j0]; rw [if_neg (by decide), if_pos c3]) (Ev.now _)
  obtain ⟨X, rfl⟩ : ∃ X : Nat, x = (X : Int) := ⟨x.toNat, by omega⟩
  obtain ⟨Y, rfl⟩ : ∃ Y : Nat, y = (Y : Int) := ⟨y.toNat, by omega⟩
  have wX : IntKind.u64.wrap (X : Int) = (X : Int) := by rw [IntKind.wrap_u64]; omega
  have wY : IntKind.u64.wrap (Y : Int) = (Y : Int) := by rw [IntKind.wrap_u64]; omega
  refine Ev.step (f := fun k => ((bourseref01_of.f k (X : Int)).bind fun t504 => ((bourseref01_times.f k (D v.natAbs) t504).bind fun t507 => ((bourseref01_of.f k (Y : Int)).bind fun t510 => ((bourseref01_rounded.f k t507 t510 r).bind fun t513 => ((bourseref01_amount.f k (mnM v) t513).bind fun bt516 => (some (bt516.1, bt516.2.1, bt516.2.2)))))))) (fun k => by
    simp only [bourseref01_Money_Portion.j0]
    rw [if_neg (by decide), if_neg c3, wX, wY]) ?_
  have o1 := of_ev (X : Int) (by omega) (by omega)
  have o2 := of_ev (Y : Int) (by omega) (by omega)
  rw [Int.toNat_natCast] at o1 o2
  have h4 := D4 hs
  have l1 : (D X).length ≤ 1 := len_D X 1 (by omega)
  have l2 : (D Y).length ≤ 1 := len_D Y 1 (by omega)
  have l6 : (D (v.natAbs * X)).length ≤ 8 := len_D _ 8 (by
    have h1 : v.natAbs < 4294967296 ^ 4 := (D_len _ 4).1 h4
    exact Nat.lt_of_le_of_lt (Nat.mul_le_mul (Nat.le_of_lt h1) (show X ≤ 4294967296 ^ 1 by omega)) (by decide))
  refine Ev.bind (f := fun (k : Nat) (t504 : List Int) => ((bourseref01_times.f k (D v.natAbs) t504).bind fun t507 => ((bourseref01_of.f k (Y : Int)).bind fun t510 => ((bourseref01_rounded.f k t507 t510 r).bind fun t513 => ((bourseref01_amount.f k (mnM v) t513).bind fun bt516 => (some (bt516.1, bt516.2.1, bt516.2.2))))))) o1 ?_
  refine Ev.bind (f := fun (k : Nat) (t507 : List Int) => ((bourseref01_of.f k (Y : Int)).bind fun t510 => ((bourseref01_rounded.f k t507 t510 r).bind fun t513 => ((bourseref01_amount.f k (mnM v) t513).bind fun bt516 => (some (bt516.1, bt516.2.1, bt516.2.2)))))) (times_ev v.natAbs X (by omega) (by omega)) ?_
  refine Ev.bind (f := fun (k : Nat) (t510 : List Int) => ((bourseref01_rounded.f k (D (v.natAbs * X)) t510 r).bind fun t513 => ((bourseref01_amount.f k (mnM v) t513).bind fun bt516 => (some (bt516.1, bt516.2.1, bt516.2.2))))) o2 ?_
  refine Ev.bind (f := fun (k : Nat) (t513 : List Int) => ((bourseref01_amount.f k (mnM v) t513).bind fun bt516 => (some (bt516.1, bt516.2.1, bt516.2.2)))) (rounded_ev (v.natAbs * X) Y (by omega) (by omega) (by omega) r) ?_
  obtain ⟨Q, hQ⟩ : ∃ Q, Q = porQ v.natAbs X Y r := ⟨_, rfl⟩
  show Ev (fun k => (bourseref01_amount.f k (mnM v) (D (porQ v.natAbs X Y r))).bind _) _
  rw [← hQ]
  have lQ : (D Q).length ≤ 9 := len_D _ 9 (by
    rw [hQ]
    unfold porQ
    have h8 : v.natAbs * X < 4294967296 ^ 8 := (D_len _ 8).1 l6
    have hd : v.natAbs * X / Y ≤ v.natAbs * X := Nat.div_le_self _ _
    have hb : (upB ((v.natAbs * X / Y : Nat) : Int) ((v.natAbs * X % Y : Nat) : Int) (Y : Int) r).toNat ≤ 1 := by cases upB _ _ _ _ <;> decide
    have : (4294967296 : Nat) ^ 9 = 4294967296 * 4294967296 ^ 8 := by rw [Nat.pow_succ, Nat.mul_comm]
    rw [this]
    omega)
  have main := amount_v (mnM v) Q (by omega) (if mnM v then -(Q : Int) else (Q : Int)) rfl
  have e2 := (mn_of (mnM v) Q).2
  have e3 : addE (if mnM v then -(Q : Int) else (Q : Int)) = porE v X Y r := by
    unfold addE porE
    rw [e2, if_neg n12, if_neg c3, Int.toNat_natCast, Int.toNat_natCast, ← hQ]
  have e4 : addR (if mnM v then -(Q : Int) else (Q : Int)) = porR v X Y r := by
    unfold porR
    rw [← e3, Int.toNat_natCast, Int.toNat_natCast, ← hQ]
    unfold addR addE
    rw [e2]
    by_cases d : Q < 170141183460469231731687303715884105728
    · rw [if_pos d, if_pos d, if_pos rfl]
      unfold mnM
      by_cases n : v < 0
      · rw [if_pos (decide_eq_true n), if_pos n]
      · rw [if_neg (by simpa using n), if_neg n]
    · rw [if_neg d, if_neg d, if_neg (by decide)]
  rw [e3, e4] at main
  exact main
theorem rpor_any (v : Int) (hs : Small v) (x y r : Int) (hx0 : 0 ≤ x) (hx : x < 4294967296) (hy0 : 0 ≤ y) (hy : y < 4294967296) (V : Value) (w : World) (h : Rm w V v) : Calls Try.prog 70 #[V, .int .u32 x, .int .u32 y, .int .i64 r] w (RmE w (porR v x y r) (porE v x y r)) := by
  obtain ⟨A, c, rfl, hc, hr⟩ := h.reads
  obtain ⟨k, hk⟩ := (rpor_ev v hs x y r hx0 hx hy0 hy).rounds
  refine (bourseref01_Money_Portion.calls k (mnM v) A c (D v.natAbs) x y r _ _ _ w hr hc hk).mono ?_
  rintro e w' ⟨v, rfl, hr, hb⟩
  exact RmE.of rfl rfl hr hb
end Go.Proofs.Ythmjmkbahneneaa.PMon
end
