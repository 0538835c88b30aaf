/- MonBigA, struck of what this claim does not name (wip/tools/pack2.py). -/
import Derived.Test.YthmjmkbahneneaaZa16
import Derived.Test.YthmjmkbahneneaaZa17
import Derived.Test.YthmjmkbahneneaaZa20
import Derived.Test.YthmjmkbahneneaaZa21
section
namespace Go.Proofs.Ythmjmkbahneneaa.PBig
open Go.RowKit Go.Proofs.Ythmjmkbahneneaa.PMon Go.Proofs.Ythmjmkbahneneaa.MonA Go.Proofs.Ythmjmkbahneneaa.MonDiv Go.Proofs.YthmjmkbahneneaaW.PrintWords Go.Proofs.YthmjmkbahneneaaW.PrintLast Go.Proofs.YthmjmkbahneneaaW.PrintMore

def D (n : Nat) : List Int := if h : n = 0 then [] else ((n % 4294967296 : Nat) : Int) :: D (n / 4294967296)
termination_by n
decreasing_by omega
def vl : List Int → Int
  | [] => 0
  | x :: r => x + 4294967296 * vl r
def Dg (l : List Int) : Prop := ∀ x ∈ l, 0 ≤ x ∧ x < 4294967296

theorem D_zero : D 0 = [] := by rw [D]; rfl
theorem D_pos (n : Nat) (h : n ≠ 0) : D n = ((n % 4294967296 : Nat) : Int) :: D (n / 4294967296) := by rw [D, dif_neg h]
theorem D_dg : ∀ (n : Nat), Dg (D n) := by
  intro n
  induction n using Nat.strongRecOn with
  | _ n ih =>
    by_cases h : n = 0
    · subst h; rw [D_zero]; intro x hx; cases hx
    · rw [D_pos n h]
      intro x hx
      rcases List.mem_cons.1 hx with rfl | hx
      · omega
      · exact ih (n / 4294967296) (by omega) x hx
theorem vl_D : ∀ (n : Nat), vl (D n) = n := by
  intro n
  induction n using Nat.strongRecOn with
  | _ n ih =>
    by_cases h : n = 0
    · subst h; rw [D_zero]; rfl
    · rw [D_pos n h, vl, ih (n / 4294967296) (by omega)]
      omega
theorem vl_nonneg : ∀ l : List Int, Dg l → 0 ≤ vl l
  | [], _ => by simp [vl]
  | x :: r, h => by
    have h1 := h x (by simp)
    have h2 := vl_nonneg r (fun y hy => h y (by simp [hy]))
    simp only [vl]
    omega
theorem pw_succ (n : Nat) : (4294967296 : Int) ^ (n + 1) = 4294967296 * 4294967296 ^ n := by rw [Int.pow_succ, Int.mul_comm]
theorem pw_pos (n : Nat) : (0 : Int) < 4294967296 ^ n := Int.pow_pos (by decide)
theorem vl_lt : ∀ l : List Int, Dg l → vl l < 4294967296 ^ l.length
  | [], _ => by simp [vl]
  | x :: r, h => by
    have h1 := h x (by simp)
    have h2 := vl_lt r (fun y hy => h y (by simp [hy]))
    rw [List.length_cons, pw_succ]
    simp only [vl]
    omega
theorem vl_append : ∀ l m : List Int, vl (l ++ m) = vl l + 4294967296 ^ l.length * vl m
  | [], m => by simp [vl]
  | x :: r, m => by
    rw [List.cons_append, List.length_cons, pw_succ]
    simp only [vl]
    rw [vl_append r m, Int.mul_assoc]
    omega
theorem Dg.append {l m : List Int} (h : Dg l) (k : Dg m) : Dg (l ++ m) := by
  intro x hx
  rcases List.mem_append.1 hx with hx | hx
  · exact h x hx
  · exact k x hx
theorem Dg.one {x : Int} (h0 : 0 ≤ x) (h1 : x < 4294967296) : Dg [x] := by
  intro y hy
  rw [List.mem_singleton] at hy
  omega
theorem Dg.take {l : List Int} (h : Dg l) (n : Nat) : Dg (l.take n) := fun x hx => h x (List.mem_of_mem_take hx)
theorem Dg.drop {l : List Int} (h : Dg l) (n : Nat) : Dg (l.drop n) := fun x hx => h x (List.mem_of_mem_drop hx)
theorem Dg.getD {l : List Int} (h : Dg l) (i : Nat) : 0 ≤ l.getD i 0 ∧ l.getD i 0 < 4294967296 := by
  by_cases hi : i < l.length
  · have e : l.getD i 0 = l[i] := by rw [List.getD_eq_getElem?_getD, List.getElem?_eq_getElem hi]; rfl
    rw [e]
    exact h _ (List.getElem_mem hi)
  · rw [List.getD_eq_getElem?_getD, List.getElem?_eq_none (by omega)]
    simp
theorem vl_take (l : List Int) (i : Nat) (h : i < l.length) : vl (l.take (i + 1)) = vl (l.take i) + 4294967296 ^ i * l.getD i 0 := by
  rw [List.take_succ_eq_append_getElem h, vl_append, List.length_take, Nat.min_eq_left (by omega), List.getD_eq_getElem?_getD, List.getElem?_eq_getElem h]
  simp [vl]
theorem vl_drop (l : List Int) (i : Nat) (h : i < l.length) : vl (l.drop i) = l.getD i 0 + 4294967296 * vl (l.drop (i + 1)) := by
  rw [List.drop_eq_getElem_cons h, vl, List.getD_eq_getElem?_getD, List.getElem?_eq_getElem h]
  rfl
theorem vl_drop_end (l : List Int) (i : Nat) (h : l.length ≤ i) : vl (l.drop i) = 0 := by
  rw [List.drop_of_length_le h]
  rfl

theorem canon : ∀ (m : List Int) (x : Int), Dg (m ++ [x]) → x ≠ 0 → D (vl (m ++ [x])).toNat = m ++ [x]
  | [], x, h, hx => by
    have h1 := h x (by simp)
    simp only [List.nil_append, vl, Int.mul_zero, Int.add_zero]
    rw [D_pos _ (by omega), show x.toNat / 4294967296 = 0 by omega, D_zero, show ((x.toNat % 4294967296 : Nat) : Int) = x by omega]
  | y :: r, x, h, hx => by
    have hr : Dg (r ++ [x]) := fun z hz => h z (by rw [List.cons_append]; exact List.mem_cons_of_mem _ hz)
    have ih := canon r x hr hx
    have h1 := h y (by simp)
    have h2 := vl_nonneg _ hr
    rw [List.cons_append, vl]
    have h3 : vl (r ++ [x]) ≠ 0 := by
      intro e
      rw [e] at ih
      rw [show (0 : Int).toNat = 0 from rfl, D_zero] at ih
      have := congrArg List.length ih
      simp at this
    rw [D_pos _ (by omega), show (y + 4294967296 * vl (r ++ [x])).toNat / 4294967296 = (vl (r ++ [x])).toNat by omega, ih, show (((y + 4294967296 * vl (r ++ [x])).toNat % 4294967296 : Nat) : Int) = y by omega]

theorem w64 (n : Int) (h : -9223372036854775808 ≤ n) (h' : n ≤ 9223372036854775807) : wrap64 n = n := by
  unfold wrap64
  omega
theorem rdn (l : List Int) (i : Nat) : rd l (i : Int) = l.getD i 0 := by
  unfold rd
  rw [Int.toNat_natCast]

theorem trim_go (l : List Int) (hl : l.length ≤ 1000000) (h : Dg l) : ∀ n : Nat, n ≤ l.length → Ev (fun k => bourseref01_trimmed.l0 k l (n : Int)) (D (vl (l.take n)).toNat) := by
  intro n
  induction n with
  | zero =>
    intro _
    refine Ev.step (f := fun _ => some []) (fun k => ?_) ?_
    · simp only [bourseref01_trimmed.l0]
      rw [if_neg (by omega), if_pos (by omega), if_pos (by omega)]
      rfl
    · rw [List.take_zero]
      show Ev (fun _ => some []) (D (0 : Int).toNat)
      rw [show (0 : Int).toNat = 0 from rfl, D_zero]
      exact Ev.now _
  | succ n ih =>
    intro hn
    have hw : wrap64 (((n + 1 : Nat) : Int) - 1) = (n : Int) := by rw [w64 _ (by omega) (by omega)]; omega
    by_cases h0 : l.getD n 0 = 0
    · have e := vl_take l n (by omega)
      rw [h0, Int.mul_zero, Int.add_zero] at e
      rw [e]
      refine Ev.step (f := fun k => bourseref01_trimmed.l0 k l (n : Int)) (fun k => ?_) (ih (by omega))
      simp only [bourseref01_trimmed.l0]
      rw [if_pos (by omega), hw, if_pos (by omega), if_pos (by omega), rdn, if_pos h0]
    · have e : l.take (n + 1) = l.take n ++ [l.getD n 0] := by
        rw [List.take_succ_eq_append_getElem (by omega), List.getD_eq_getElem?_getD, List.getElem?_eq_getElem (by omega)]
        rfl
      have hc := canon (l.take n) (l.getD n 0) (by rw [← e]; exact h.take _) h0
      rw [← e] at hc
      rw [hc]
      refine Ev.step (f := fun _ => some (l.take (n + 1))) (fun k => ?_) (Ev.now _)
      simp only [bourseref01_trimmed.l0]
      rw [if_pos (by omega), hw, if_pos (by omega), if_pos (by omega), rdn, if_neg h0, if_pos (by omega), if_pos (by omega), Int.toNat_natCast]

theorem trim_ev (l : List Int) (hl : l.length ≤ 1000000) (h : Dg l) (n : Nat) (e : vl l = n) : Ev (fun k => bourseref01_trimmed.f k l) (D n) := by
  have := trim_go l hl h l.length (Nat.le_refl _)
  rw [List.take_length, e, Int.toNat_natCast] at this
  exact this

theorem of_ev (x : Int) (h0 : 0 ≤ x) (h1 : x < 18446744073709551616) : Ev (fun k => bourseref01_of.f k x) (D x.toNat) := by
  unfold bourseref01_of.f
  have ht := trim_ev [(Int.tmod x 4294967296) % 4294967296, (x / 4294967296) % 4294967296] (by simp) (by
    intro y hy
    simp only [List.mem_cons, List.not_mem_nil, or_false] at hy
    rcases hy with rfl | rfl <;> omega) x.toNat (by
    rw [Int.tmod_eq_emod_of_nonneg h0]
    simp only [vl]
    omega)
  exact Ev.bind (f := fun (_ : Nat) (t : List Int) => some t) ht (Ev.now _)

theorem D_len (n j : Nat) : (D n).length ≤ j ↔ n < 4294967296 ^ j := by
  induction j generalizing n with
  | zero =>
    by_cases h : n = 0
    · subst h; rw [D_zero]; simp
    · rw [D_pos n h]; simp; omega
  | succ j ih =>
    by_cases h : n = 0
    · subst h; rw [D_zero]; simp [Nat.pow_pos]
    · rw [D_pos n h, List.length_cons, Nat.add_le_add_iff_right, ih, Nat.pow_succ]
      exact Nat.div_lt_iff_lt_mul (by decide)

theorem wz : wrap64 (0 - 1) = -1 := by unfold wrap64; omega
theorem wo : wrap64 (1 - 1) = 0 := by unfold wrap64; omega
theorem wt : wrap64 (2 - 1) = 1 := by unfold wrap64; omega

def cmp (a b : Int) : Int := if a < b then -1 else if a = b then 0 else 1

theorem cmp_go (l m : List Int) (hl : l.length ≤ 1000000) (hm : m.length = l.length) (dl : Dg l) (dm : Dg m) : ∀ n : Nat, n ≤ l.length → Ev (fun k => bourseref01_compare.l0 k l m ((n : Int) - 1)) (cmp (vl (l.take n)) (vl (m.take n))) := by
  intro n
  induction n with
  | zero =>
    intro _
    rw [List.take_zero, List.take_zero]
    exact Ev.step (f := fun _ => some 0) (fun k => rfl) (Ev.now _)
  | succ n ih =>
    intro hn
    have ih := ih (by omega)
    have e1 := vl_take l n (by omega)
    have e2 := vl_take m n (by omega)
    have b1 := vl_lt _ (dl.take n)
    have b2 := vl_lt _ (dm.take n)
    rw [List.length_take, Nat.min_eq_left (by omega)] at b1 b2
    have c1 := vl_nonneg _ (dl.take n)
    have c2 := vl_nonneg _ (dm.take n)
    have p := pw_pos n
    have hi : ((n + 1 : Nat) : Int) - 1 = (n : Int) := by omega
    rw [hi]
    have st : ∀ k, bourseref01_compare.l0 (k + 1) l m (n : Int) = if l.getD n 0 < m.getD n 0 then some (-1) else if l.getD n 0 > m.getD n 0 then some 1 else bourseref01_compare.l0 k l m ((n : Int) - 1) := by
      intro k
      simp only [bourseref01_compare.l0]
      rw [if_pos (by omega), if_pos (by omega), if_pos (by omega), if_pos (by omega), rdn, rdn, w64 _ (by omega) (by omega)]
    refine Ev.step st ?_
    rw [e1, e2]
    by_cases h1 : l.getD n 0 < m.getD n 0
    · have : (4294967296 : Int) ^ n * (l.getD n 0 + 1) ≤ 4294967296 ^ n * m.getD n 0 := Int.mul_le_mul_of_nonneg_left (by omega) (by omega)
      rw [Int.mul_add] at this
      have hc : cmp (vl (l.take n) + 4294967296 ^ n * l.getD n 0) (vl (m.take n) + 4294967296 ^ n * m.getD n 0) = -1 := by
        unfold cmp
        rw [if_pos (by omega)]
      rw [hc]
      exact Ev.congr (fun k => if_pos h1) (Ev.now _)
    · by_cases h2 : l.getD n 0 > m.getD n 0
      · have : (4294967296 : Int) ^ n * (m.getD n 0 + 1) ≤ 4294967296 ^ n * l.getD n 0 := Int.mul_le_mul_of_nonneg_left (by omega) (by omega)
        rw [Int.mul_add] at this
        have hc : cmp (vl (l.take n) + 4294967296 ^ n * l.getD n 0) (vl (m.take n) + 4294967296 ^ n * m.getD n 0) = 1 := by
          unfold cmp
          rw [if_neg (by omega), if_neg (by omega)]
        rw [hc]
        exact Ev.congr (fun k => (if_neg h1).trans (if_pos h2)) (Ev.now _)
      · have h3 : l.getD n 0 = m.getD n 0 := by omega
        rw [h3]
        refine Ev.congr (fun k => (if_neg (by omega)).trans (if_neg (by omega))) ?_
        unfold cmp at ih ⊢
        have r1 : (vl (l.take n) + 4294967296 ^ n * m.getD n 0 < vl (m.take n) + 4294967296 ^ n * m.getD n 0) ↔ vl (l.take n) < vl (m.take n) := by omega
        have r2 : (vl (l.take n) + 4294967296 ^ n * m.getD n 0 = vl (m.take n) + 4294967296 ^ n * m.getD n 0) ↔ vl (l.take n) = vl (m.take n) := by omega
        simp only [r1, r2]
        exact ih

theorem compare_ev (a b : Nat) (ha : (D a).length ≤ 1000000) : Ev (fun k => bourseref01_compare.f k (D a) (D b)) (cmp a b) := by
  unfold bourseref01_compare.f
  by_cases h : (D a).length = (D b).length
  · have := cmp_go (D a) (D b) ha h.symm (D_dg a) (D_dg b) (D a).length (Nat.le_refl _)
    rw [List.take_length, h, List.take_length, vl_D, vl_D] at this
    refine Ev.congr (fun k => if_pos (by omega)) ?_
    rw [w64 _ (by omega) (by omega), h]
    exact this
  · refine Ev.congr (fun k => if_neg (by omega)) ?_
    by_cases h1 : (D a).length < (D b).length
    · have la := (D_len a (D a).length).1 (Nat.le_refl _)
      have lb : ¬ b < 4294967296 ^ (D a).length := fun hh => by
        have := (D_len b (D a).length).2 hh
        omega
      have hc : cmp a b = -1 := by
        unfold cmp
        rw [if_pos (by omega)]
      rw [hc]
      exact Ev.congr (fun k => if_pos (by omega)) (Ev.now _)
    · have lb := (D_len b (D b).length).1 (Nat.le_refl _)
      have la : ¬ a < 4294967296 ^ (D b).length := fun hh => by
        have := (D_len a (D b).length).2 hh
        omega
      have hc : cmp a b = 1 := by
        unfold cmp
        rw [if_neg (by omega), if_neg (by omega)]
      rw [hc]
      exact Ev.congr (fun k => if_neg (by omega)) (Ev.now _)
end Go.Proofs.Ythmjmkbahneneaa.PBig
end
