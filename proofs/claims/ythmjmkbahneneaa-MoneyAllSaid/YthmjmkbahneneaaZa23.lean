/- MonBigB, struck of what this claim does not name (wip/tools/pack2.py). -/
import Derived.Test.YthmjmkbahneneaaZa22
section
namespace Go.Proofs.Ythmjmkbahneneaa.PBig
open Go.RowKit Go.Proofs.Ythmjmkbahneneaa.PMon Go.Proofs.Ythmjmkbahneneaa.MonA Go.Proofs.Ythmjmkbahneneaa.MonDiv Go.Proofs.YthmjmkbahneneaaW.PrintWords Go.Proofs.YthmjmkbahneneaaW.PrintLast Go.Proofs.YthmjmkbahneneaaW.PrintMore

theorem tm (x : Int) (h : 0 ≤ x) : Int.tmod x 4294967296 % 4294967296 = x % 4294967296 := by
  rw [Int.tmod_eq_emod_of_nonneg h]
  omega

theorem vl_snoc (l : List Int) (x : Int) : vl (l ++ [x]) = vl l + 4294967296 ^ l.length * x := by
  rw [vl_append]
  simp [vl]

theorem wstep (i : Nat) (h : i ≤ 1000000) : wrap64 ((i : Int) + 1) = ((i + 1 : Nat) : Int) := by rw [w64 _ (by omega) (by omega)]; omega

theorem alg (P a t : Int) : P * (a + 4294967296 * t) = P * a + 4294967296 * P * t := by
  rw [Int.mul_add, ← Int.mul_assoc, Int.mul_comm P 4294967296]

theorem plus_go (l m : List Int) (hl : l.length ≤ 100000) (hm : m.length ≤ 100000) (dl : Dg l) (dm : Dg m) (n : Nat) :
    ∀ (d i : Nat) (x : List Int) (c : Int), l.length + m.length + 1 ≤ i + d → i ≤ l.length + m.length + 1 → x.length = i → Dg x → 0 ≤ c → c ≤ 1 → (c = 0 ∨ i ≤ l.length + m.length) → vl x + 4294967296 ^ i * (c + vl (l.drop i) + vl (m.drop i)) = n →
      Ev (fun k => bourseref01_plus.l0 k l m x c (i : Int)) (D n) := by
  intro d
  induction d with
  | zero =>
    intro i x c h1 h2 hx dx c0 c1 hc he
    obtain rfl : c = 0 := by omega
    rw [vl_drop_end l i (by omega), vl_drop_end m i (by omega)] at he
    have ht := trim_ev x (by omega) dx n (by omega)
    refine Ev.step (f := fun k => bourseref01_plus.j1 k l m x 0 (i : Int) false) (fun k => ?_) (Ev.step (f := fun k => (bourseref01_trimmed.f k x).bind fun t => some t) (fun k => ?_) (Ev.bind (f := fun (_ : Nat) (t : List Int) => some t) ht (Ev.now _)))
    · simp only [bourseref01_plus.l0]
      rw [if_neg (by omega), if_neg (by omega)]
      rfl
    · simp only [bourseref01_plus.j1]
      rw [if_neg (by decide)]
  | succ d ih =>
    intro i x c h1 h2 hx dx c0 c1 hc he
    have gl := dl.getD i
    have gm := dm.getD i
    -- what a round does, whatever is added
    have next : ∀ y : Int, 0 ≤ y → y ≤ 8589934591 → (i ≤ l.length + m.length) → c + vl (l.drop i) + vl (m.drop i) = y + 4294967296 * (vl (l.drop (i + 1)) + vl (m.drop (i + 1))) → (y / 4294967296 = 0 ∨ i + 1 ≤ l.length + m.length) →
        Ev (fun k => bourseref01_plus.l0 k l m (x ++ [Int.tmod y 4294967296 % 4294967296]) (y / 4294967296) ((i + 1 : Nat) : Int)) (D n) := by
      intro y y0 y1 hi hy hz
      rw [tm y y0]
      refine ih (i + 1) _ _ (by omega) (by omega) (by rw [List.length_append]; simp [hx]) (dx.append (Dg.one (by omega) (by omega))) (by omega) (by omega) hz ?_
      rw [vl_snoc, hx, pw_succ, ← he, hy, show y + 4294967296 * (vl (l.drop (i + 1)) + vl (m.drop (i + 1))) = y % 4294967296 + 4294967296 * (y / 4294967296 + vl (l.drop (i + 1)) + vl (m.drop (i + 1))) by omega, alg, Int.add_assoc]
    by_cases hil : i < l.length
    · have e1 := vl_drop l i hil
      by_cases him : i < m.length
      · have e2 := vl_drop m i him
        refine Ev.step (f := fun k => bourseref01_plus.j1 k l m x c (i : Int) true) (fun k => ?_) (Ev.step (f := fun k => bourseref01_plus.l0 k l m (x ++ [Int.tmod (c + l.getD i 0 + m.getD i 0) 4294967296 % 4294967296]) ((c + l.getD i 0 + m.getD i 0) / 4294967296) ((i + 1 : Nat) : Int)) (fun k => ?_) (next (c + l.getD i 0 + m.getD i 0) (by omega) (by omega) (by omega) (by omega) (by omega)))
        · simp only [bourseref01_plus.l0]
          rw [if_pos (by omega)]
        · simp only [bourseref01_plus.j1]
          rw [if_pos trivial, if_pos (by omega), if_pos (by omega), if_pos (by omega), if_pos (by omega), rdn, rdn, wr (l.getD i 0) (by omega) (by omega), wr (m.getD i 0) (by omega) (by omega), wr (c + l.getD i 0) (by omega) (by omega), wr (c + l.getD i 0 + m.getD i 0) (by omega) (by omega), wstep i (by omega)]
      · have e2 := vl_drop_end m i (by omega)
        have e3 := vl_drop_end m (i + 1) (by omega)
        refine Ev.step (f := fun k => bourseref01_plus.j1 k l m x c (i : Int) true) (fun k => ?_) (Ev.step (f := fun k => bourseref01_plus.l0 k l m (x ++ [Int.tmod (c + l.getD i 0) 4294967296 % 4294967296]) ((c + l.getD i 0) / 4294967296) ((i + 1 : Nat) : Int)) (fun k => ?_) (next (c + l.getD i 0) (by omega) (by omega) (by omega) (by omega) (by omega)))
        · simp only [bourseref01_plus.l0]
          rw [if_pos (by omega)]
        · simp only [bourseref01_plus.j1]
          rw [if_pos trivial, if_pos (by omega), if_pos (by omega), if_neg (by omega), if_pos (by omega), rdn, wr (l.getD i 0) (by omega) (by omega), wr (c + l.getD i 0) (by omega) (by omega), wstep i (by omega)]
    · have e1 := vl_drop_end l i (by omega)
      have e3 := vl_drop_end l (i + 1) (by omega)
      by_cases him : i < m.length
      · have e2 := vl_drop m i him
        refine Ev.step (f := fun k => bourseref01_plus.j1 k l m x c (i : Int) true) (fun k => ?_) (Ev.step (f := fun k => bourseref01_plus.l0 k l m (x ++ [Int.tmod (c + m.getD i 0) 4294967296 % 4294967296]) ((c + m.getD i 0) / 4294967296) ((i + 1 : Nat) : Int)) (fun k => ?_) (next (c + m.getD i 0) (by omega) (by omega) (by omega) (by omega) (by omega)))
        · simp only [bourseref01_plus.l0]
          rw [if_neg (by omega), if_pos (by omega)]
        · simp only [bourseref01_plus.j1]
          rw [if_pos trivial, if_neg (by omega), if_pos (by omega), if_pos (by omega), if_pos (by omega), rdn, wr (m.getD i 0) (by omega) (by omega), wr (c + m.getD i 0) (by omega) (by omega), wstep i (by omega)]
      · have e2 := vl_drop_end m i (by omega)
        have e4 := vl_drop_end m (i + 1) (by omega)
        by_cases hc0 : c > 0
        · refine Ev.step (f := fun k => bourseref01_plus.j1 k l m x c (i : Int) true) (fun k => ?_) (Ev.step (f := fun k => bourseref01_plus.l0 k l m (x ++ [Int.tmod c 4294967296 % 4294967296]) (c / 4294967296) ((i + 1 : Nat) : Int)) (fun k => ?_) (next c (by omega) (by omega) (by omega) (by omega) (by omega)))
          · simp only [bourseref01_plus.l0]
            rw [if_neg (by omega), if_neg (by omega), decide_eq_true hc0]
          · simp only [bourseref01_plus.j1]
            rw [if_pos trivial, if_neg (by omega), if_neg (by omega), if_pos (by omega), wstep i (by omega)]
        · obtain rfl : c = 0 := by omega
          rw [e1, e2] at he
          have ht := trim_ev x (by omega) dx n (by omega)
          refine Ev.step (f := fun k => bourseref01_plus.j1 k l m x 0 (i : Int) false) (fun k => ?_) (Ev.step (f := fun k => (bourseref01_trimmed.f k x).bind fun t => some t) (fun k => ?_) (Ev.bind (f := fun (_ : Nat) (t : List Int) => some t) ht (Ev.now _)))
          · simp only [bourseref01_plus.l0]
            rw [if_neg (by omega), if_neg (by omega)]
            rfl
          · simp only [bourseref01_plus.j1]
            rw [if_neg (by decide)]

theorem plus_any (l m : List Int) (hl : l.length ≤ 100000) (hm : m.length ≤ 100000) (dl : Dg l) (dm : Dg m) (n : Nat) (hn : vl l + vl m = n) : Ev (fun k => bourseref01_plus.f k l m) (D n) := by
  refine plus_go l m hl hm dl dm n (l.length + m.length + 1) 0 [] 0 (by omega) (by omega) rfl (fun x hx => by cases hx) (by omega) (by omega) (by omega) ?_
  rw [List.drop_zero, List.drop_zero, Int.pow_zero]
  simp only [vl]
  omega

theorem plus_ev (a b : Nat) (ha : (D a).length ≤ 100000) (hb : (D b).length ≤ 100000) : Ev (fun k => bourseref01_plus.f k (D a) (D b)) (D (a + b)) :=
  plus_any _ _ ha hb (D_dg a) (D_dg b) _ (by rw [vl_D, vl_D]; omega)

theorem one_D : ([1] : List Int) = D 1 := by rw [D_pos 1 (by decide), show 1 / 4294967296 = 0 from rfl, D_zero]; rfl

theorem len_add (a b p : Nat) (ha : (D a).length ≤ p) (hb : (D b).length ≤ p) : (D (a + b)).length ≤ p + 1 := by
  rw [D_len] at ha hb ⊢
  rw [Nat.pow_succ]
  omega
theorem len_le (a b : Nat) (h : a ≤ b) : (D a).length ≤ (D b).length := by
  rw [D_len]
  exact Nat.lt_of_le_of_lt h ((D_len b _).1 (Nat.le_refl _))

theorem doubled_ev (a : Nat) (on : Bool) (ha : (D a).length ≤ 90000) : Ev (fun k => bourseref01_doubled.f k (D a) on) (D (2 * a + on.toNat)) := by
  unfold bourseref01_doubled.f
  have h1 := plus_ev a a (by omega) (by omega)
  refine Ev.bind (f := fun (k : Nat) (t231 : List Int) => if on = true then ((bourseref01_plus.f k t231 (([1] : List Int))).bind fun t237 => (some t237)) else (some t231)) h1 ?_
  cases on with
  | false =>
    rw [show 2 * a + false.toNat = a + a by simp; omega]
    exact Ev.now _
  | true =>
    have hl := len_add a a 90000 ha ha
    have h2 := plus_ev (a + a) 1 (by omega) (by rw [← one_D]; simp)
    rw [← one_D] at h2
    refine Ev.congr (fun k => if_pos rfl) (Ev.bind (f := fun (_ : Nat) (t : List Int) => some t) h2 ?_)
    rw [show 2 * a + true.toNat = a + a + 1 by simp; omega]
    exact Ev.now _

theorem minus_go (l m : List Int) (hl : l.length ≤ 100000) (hm : m.length ≤ l.length) (dl : Dg l) (dm : Dg m) (n : Nat) :
    ∀ (d i : Nat) (x : List Int) (c : Int), i + d = l.length → x.length = i → Dg x → 0 ≤ c → c ≤ 1 → vl x + 4294967296 ^ i * (vl (l.drop i) - vl (m.drop i) - c) = n →
      Ev (fun k => bourseref01_minus.l0 k l m x c (i : Int)) (D n) := by
  intro d
  induction d with
  | zero =>
    intro i x c h1 hx dx c0 c1 he
    rw [vl_drop_end l i (by omega), vl_drop_end m i (by omega)] at he
    have hlt := vl_lt x dx
    rw [hx] at hlt
    have hc : c = 0 := by
      by_cases h : c = 1
      · rw [h, show (0 : Int) - 0 - 1 = -1 from rfl, Int.mul_neg, Int.mul_one] at he
        omega
      · omega
    rw [hc, show (0 : Int) - 0 - 0 = 0 from rfl, Int.mul_zero] at he
    have ht := trim_ev x (by omega) dx n (by omega)
    refine Ev.step (f := fun k => (bourseref01_trimmed.f k x).bind fun t => some t) (fun k => ?_) (Ev.bind (f := fun (_ : Nat) (t : List Int) => some t) ht (Ev.now _))
    simp only [bourseref01_minus.l0]
    rw [if_neg (by omega)]
  | succ d ih =>
    intro i x c h1 hx dx c0 c1 he
    have gl := dl.getD i
    have gm := dm.getD i
    have hil : i < l.length := by omega
    have e1 := vl_drop l i hil
    have next : ∀ y : Int, 0 ≤ y → y ≤ 8589934591 → vl (l.drop i) - vl (m.drop i) - c = y - 4294967296 + 4294967296 * (vl (l.drop (i + 1)) - vl (m.drop (i + 1))) →
        Ev (fun k => bourseref01_minus.l0 k l m (x ++ [Int.tmod y 4294967296 % 4294967296]) (IntKind.u64.wrap (1 - y / 4294967296)) ((i + 1 : Nat) : Int)) (D n) := by
      intro y y0 y1 hy
      rw [tm y y0, wr _ (by omega) (by omega)]
      refine ih (i + 1) _ _ (by omega) (by rw [List.length_append]; simp [hx]) (dx.append (Dg.one (by omega) (by omega))) (by omega) (by omega) ?_
      rw [vl_snoc, hx, pw_succ, ← he, hy, show y - 4294967296 + 4294967296 * (vl (l.drop (i + 1)) - vl (m.drop (i + 1))) = y % 4294967296 + 4294967296 * (vl (l.drop (i + 1)) - vl (m.drop (i + 1)) - (1 - y / 4294967296)) by omega, alg, Int.add_assoc]
    by_cases him : i < m.length
    · have e2 := vl_drop m i him
      refine Ev.step (f := fun k => bourseref01_minus.l0 k l m (x ++ [Int.tmod (l.getD i 0 + 4294967296 - c - m.getD i 0) 4294967296 % 4294967296]) (IntKind.u64.wrap (1 - (l.getD i 0 + 4294967296 - c - m.getD i 0) / 4294967296)) ((i + 1 : Nat) : Int)) (fun k => ?_) (next (l.getD i 0 + 4294967296 - c - m.getD i 0) (by omega) (by omega) (by omega))
      simp only [bourseref01_minus.l0]
      rw [if_pos (by omega), if_pos (by omega), if_pos (by omega), if_pos (by omega), rdn, rdn, wr (l.getD i 0) (by omega) (by omega), wr (m.getD i 0) (by omega) (by omega), wr (l.getD i 0 + 4294967296) (by omega) (by omega), wr (l.getD i 0 + 4294967296 - c) (by omega) (by omega), wr (l.getD i 0 + 4294967296 - c - m.getD i 0) (by omega) (by omega), wstep i (by omega)]
    · have e2 := vl_drop_end m i (by omega)
      have e3 := vl_drop_end m (i + 1) (by omega)
      refine Ev.step (f := fun k => bourseref01_minus.l0 k l m (x ++ [Int.tmod (l.getD i 0 + 4294967296 - c) 4294967296 % 4294967296]) (IntKind.u64.wrap (1 - (l.getD i 0 + 4294967296 - c) / 4294967296)) ((i + 1 : Nat) : Int)) (fun k => ?_) (next (l.getD i 0 + 4294967296 - c) (by omega) (by omega) (by omega))
      simp only [bourseref01_minus.l0]
      rw [if_pos (by omega), if_pos (by omega), if_neg (by omega), if_pos (by omega), rdn, wr (l.getD i 0) (by omega) (by omega), wr (l.getD i 0 + 4294967296) (by omega) (by omega), wr (l.getD i 0 + 4294967296 - c) (by omega) (by omega), wstep i (by omega)]

theorem minus_ev (a b : Nat) (ha : (D a).length ≤ 100000) (hb : b ≤ a) : Ev (fun k => bourseref01_minus.f k (D a) (D b)) (D (a - b)) := by
  refine minus_go (D a) (D b) ha (len_le b a hb) (D_dg a) (D_dg b) (a - b) (D a).length 0 [] 0 (by omega) rfl (fun x hx => by cases hx) (by omega) (by omega) ?_
  rw [List.drop_zero, List.drop_zero, Int.pow_zero, vl_D, vl_D]
  simp only [vl]
  omega

theorem vl_set : ∀ (l : List Int) (i : Nat) (v : Int), i < l.length → vl (l.set i v) = vl l + 4294967296 ^ i * (v - l.getD i 0)
  | [], _, _, h => by simp at h
  | x :: r, 0, v, _ => by
    simp only [List.set_cons_zero, vl, List.getD_cons_zero, Int.pow_zero]
    omega
  | x :: r, i + 1, v, h => by
    have := vl_set r i v (by simpa using h)
    simp only [List.set_cons_succ, vl, List.getD_cons_succ]
    rw [this, pw_succ, Int.mul_add, Int.mul_assoc]
    omega
theorem Dg.set {l : List Int} (h : Dg l) (i : Nat) (v : Int) (v0 : 0 ≤ v) (v1 : v < 4294967296) : Dg (l.set i v) := by
  intro x hx
  rcases List.mem_or_eq_of_mem_set hx with hx | rfl
  · exact h x hx
  · exact ⟨v0, v1⟩
theorem getD_put (l : List Int) (i j : Nat) (v : Int) (hj : i ≠ j) : (l.set i v).getD j 0 = l.getD j 0 := by
  rw [List.getD_eq_getElem?_getD, List.getD_eq_getElem?_getD, List.getElem?_set_ne hj]

theorem row_go (l m : List Int) (hl : l.length ≤ 100000) (hm : m.length ≤ 100000) (dl : Dg l) (dm : Dg m) (i : Nat) (hi : i < l.length) (N : Int) (res : List Int)
    (H : ∀ r, r.length = l.length + m.length → Dg r → (∀ t, i + 1 + m.length ≤ t → r.getD t 0 = 0) → vl r = N → Ev (fun k => bourseref01_times.l0 k l m r ((i + 1 : Nat) : Int)) res) :
    ∀ (d j : Nat) (r : List Int) (c : Int), j + d = m.length → r.length = l.length + m.length → Dg r → 0 ≤ c → c < 4294967296 → (∀ t, i + m.length ≤ t → r.getD t 0 = 0) → vl r + 4294967296 ^ (i + j) * (c + l.getD i 0 * vl (m.drop j)) = N →
      Ev (fun k => bourseref01_times.l1 k l m r (i : Int) c (j : Int)) res := by
  intro d
  induction d with
  | zero =>
    intro j r c hj hr dr c0 c1 hz he
    obtain rfl : j = m.length := by omega
    rw [vl_drop_end m m.length (Nat.le_refl _), Int.mul_zero, Int.add_zero] at he
    have z := hz (i + m.length) (Nat.le_refl _)
    refine Ev.step (f := fun k => bourseref01_times.l0 k l m (r.set (i + m.length) c) ((i + 1 : Nat) : Int)) (fun k => ?_) (H (r.set (i + m.length) c) (by rw [List.length_set]; exact hr) (dr.set _ _ c0 c1) (fun t ht => by rw [getD_put _ _ _ _ (by omega)]; exact hz t (by omega)) (by rw [vl_set _ _ _ (by omega), z, Int.sub_zero]; exact he))
    have ew : wrap64 ((i : Int) + (m.length : Int)) = ((i + m.length : Nat) : Int) := by rw [w64 _ (by omega) (by omega)]; omega
    simp only [bourseref01_times.l1]
    rw [if_neg (by omega), ew, if_pos (by omega), if_pos (by omega), Int.toNat_natCast, wstep i (by omega), Int.emod_eq_of_lt c0 c1]
  | succ d ih =>
    intro j r c hj hr dr c0 c1 hz he
    have hjm : j < m.length := by omega
    have gl := dl.getD i
    have gm := dm.getD j
    have gr := dr.getD (i + j)
    have pb := prod_bound (l.getD i 0) (m.getD j 0) gl.1 (by omega) gm.1 (by omega)
    have e2 := vl_drop m j hjm
    have vs := vl_set r (i + j) ((l.getD i 0 * m.getD j 0 + r.getD (i + j) 0 + c) % 4294967296) (by omega)
    have y0 : 0 ≤ l.getD i 0 * m.getD j 0 + r.getD (i + j) 0 + c := by omega
    have y1 : l.getD i 0 * m.getD j 0 + r.getD (i + j) 0 + c < 18446744073709551616 := by omega
    have fin := ih (j + 1) (r.set (i + j) ((l.getD i 0 * m.getD j 0 + r.getD (i + j) 0 + c) % 4294967296)) ((l.getD i 0 * m.getD j 0 + r.getD (i + j) 0 + c) / 4294967296) (by omega) (by rw [List.length_set]; exact hr) (dr.set _ _ (by omega) (by omega)) (by omega) (by omega) (fun t ht => by rw [getD_put _ _ _ _ (by omega)]; exact hz t ht) (by
      rw [vs, ← he, e2, show i + (j + 1) = i + j + 1 by omega, pw_succ, Int.mul_add (l.getD i 0), Int.mul_left_comm (l.getD i 0) 4294967296]
      generalize l.getD i 0 * m.getD j 0 = p at *
      generalize l.getD i 0 * vl (m.drop (j + 1)) = q at *
      generalize r.getD (i + j) 0 = g at *
      rw [show c + (p + 4294967296 * q) = ((p + g + c) % 4294967296 - g) + 4294967296 * ((p + g + c) / 4294967296 + q) by omega, alg, Int.add_assoc])
    have ew : wrap64 ((i : Int) + (j : Int)) = ((i + j : Nat) : Int) := by rw [w64 _ (by omega) (by omega)]; omega
    refine Ev.step (f := fun k => bourseref01_times.l1 k l m (r.set (i + j) ((l.getD i 0 * m.getD j 0 + r.getD (i + j) 0 + c) % 4294967296)) (i : Int) ((l.getD i 0 * m.getD j 0 + r.getD (i + j) 0 + c) / 4294967296) ((j + 1 : Nat) : Int)) (fun k => ?_) fin
    simp only [bourseref01_times.l1]
    rw [ew, rdn, rdn, rdn, Int.toNat_natCast]
    clear ew fin ih H
    rw [if_pos (by omega), if_pos (by omega), if_pos (by omega), if_pos (by omega), if_pos (by omega), if_pos (by omega), wr (l.getD i 0) (by omega) (by omega), wr (m.getD j 0) (by omega) (by omega), wr (l.getD i 0 * m.getD j 0) (by omega) (by omega), wr (r.getD (i + j) 0) (by omega) (by omega), wr (l.getD i 0 * m.getD j 0 + r.getD (i + j) 0) (by omega) (by omega), wr _ y0 y1, tm _ y0, wstep j (by omega)]

theorem times_go (l m : List Int) (hl : l.length ≤ 100000) (hm : m.length ≤ 100000) (dl : Dg l) (dm : Dg m) (n : Nat) :
    ∀ (d i : Nat) (r : List Int), i + d = l.length → r.length = l.length + m.length → Dg r → (∀ t, i + m.length ≤ t → r.getD t 0 = 0) → vl r + 4294967296 ^ i * (vl (l.drop i) * vl m) = n →
      Ev (fun k => bourseref01_times.l0 k l m r (i : Int)) (D n) := by
  intro d
  induction d with
  | zero =>
    intro i r h1 hr dr hz he
    rw [vl_drop_end l i (by omega), Int.zero_mul, Int.mul_zero] at he
    have ht := trim_ev r (by omega) dr n (by omega)
    refine Ev.step (f := fun k => (bourseref01_trimmed.f k r).bind fun t => some t) (fun k => ?_) (Ev.bind (f := fun (_ : Nat) (t : List Int) => some t) ht (Ev.now _))
    simp only [bourseref01_times.l0]
    rw [if_neg (by omega)]
  | succ d ih =>
    intro i r h1 hr dr hz he
    have hi : i < l.length := by omega
    have e1 := vl_drop l i hi
    refine Ev.step (f := fun k => bourseref01_times.l1 k l m r (i : Int) 0 ((0 : Nat) : Int)) (fun k => ?_) (row_go l m hl hm dl dm i hi ((n : Int) - 4294967296 ^ (i + 1) * (vl (l.drop (i + 1)) * vl m)) _ (fun r' h1' d' z' e' => ih (i + 1) r' (by omega) h1' d' z' (by rw [e']; omega)) m.length 0 r 0 (by omega) hr dr (by omega) (by omega) hz ?_)
    · simp only [bourseref01_times.l0]
      rw [if_pos (by omega)]
      rfl
    · rw [← he, List.drop_zero, Nat.add_zero, e1, Int.add_mul, Int.mul_assoc 4294967296, alg, Int.zero_add, pw_succ]
      omega

theorem times_ev (a b : Nat) (ha : (D a).length ≤ 100000) (hb : (D b).length ≤ 100000) : Ev (fun k => bourseref01_times.f k (D a) (D b)) (D (a * b)) := by
  have ew : wrap64 (((D a).length : Int) + ((D b).length : Int)) = (((D a).length + (D b).length : Nat) : Int) := by rw [w64 _ (by omega) (by omega)]; omega
  unfold bourseref01_times.f
  rw [ew, Int.toNat_natCast]
  clear ew
  have hz : ∀ n, vl (List.replicate n 0) = 0 := by
    intro n
    induction n with
    | zero => rfl
    | succ n ih => rw [List.replicate_succ, vl, ih]; rfl
  refine Ev.congr (fun k => (if_pos (by omega)).trans (if_pos (by omega))) (times_go (D a) (D b) ha hb (D_dg a) (D_dg b) (a * b) (D a).length 0 _ (by omega) (by simp) (fun x hx => by rw [List.eq_of_mem_replicate hx]; omega) (fun t ht => ?_) ?_)
  · rw [List.getD_eq_getElem?_getD, List.getElem?_replicate]
    split <;> rfl
  · rw [hz, List.drop_zero, Int.pow_zero, vl_D, vl_D, Int.zero_add, Int.one_mul, Int.natCast_mul]
end Go.Proofs.Ythmjmkbahneneaa.PBig
end
