/- Sum and Share as printed: their values. -/
import Derived.Test.YtopekdmipnpnaaaNumDiv
import Derived.Test.YtopekdmipnpnaaaPBeax3
namespace Go.Proofs.Ytopekdmipnpnaaa.NumSh
open Go.RowKit Go.Proofs.Ytopekdmipnpnaaa.PBea Go.Proofs.Ytopekdmipnpnaaa.NumA Go.Proofs.Ytopekdmipnpnaaa.NumDiv Go.Proofs.YtopekdmipnpnaaaW.PrintWords Go.Proofs.YtopekdmipnpnaaaW.PrintLast Go.Proofs.YtopekdmipnpnaaaW.PrintMore

/-- The sum of a list. -/
def tot : List Int → Int
  | [] => 0
  | x :: r => x + tot r
/-- Words of 64 bits. -/
def Us (l : List Int) : Prop := ∀ x ∈ l, 0 ≤ x ∧ x < 18446744073709551616

theorem tot_nonneg : ∀ l : List Int, (∀ x ∈ l, 0 ≤ x) → 0 ≤ tot l
  | [], _ => by simp [tot]
  | x :: r, h => by
    have h1 := h x (by simp)
    have h2 := tot_nonneg r (fun y hy => h y (by simp [hy]))
    simp only [tot]
    omega
theorem tot_append : ∀ l m : List Int, tot (l ++ m) = tot l + tot m
  | [], m => by simp [tot]
  | x :: r, m => by
    simp only [List.cons_append, tot, tot_append r m]
    omega
theorem tot_take (l : List Int) (i : Nat) (h : i < l.length) : tot (l.take (i + 1)) = tot (l.take i) + l.getD i 0 := by
  rw [List.take_succ_eq_append_getElem h, tot_append]
  simp [tot, List.getD_eq_getElem?_getD, h]
theorem tot_mem : ∀ (l : List Int) (x : Int), (∀ y ∈ l, 0 ≤ y) → x ∈ l → x ≤ tot l
  | [], _, _, h => by cases h
  | y :: r, x, h0, h => by
    have h1 := tot_nonneg r (fun z hz => h0 z (by simp [hz]))
    have h2 := h0 y (by simp)
    simp only [tot]
    rcases List.mem_cons.1 h with rfl | h
    · omega
    · have := tot_mem r x (fun z hz => h0 z (by simp [hz])) h
      omega
theorem tot_le_take (l : List Int) (h0 : ∀ y ∈ l, 0 ≤ y) (i : Nat) : tot (l.take i) ≤ tot l := by
  have h1 : tot (l.take i ++ l.drop i) = tot l := by rw [List.take_append_drop]
  rw [tot_append] at h1
  have := tot_nonneg (l.drop i) (fun y hy => h0 y (List.mem_of_mem_drop hy))
  omega
theorem getD_mem (l : List Int) (i : Nat) (h : i < l.length) : l.getD i 0 ∈ l := by
  rw [List.getD_eq_getElem?_getD, List.getElem?_eq_getElem h]
  exact List.getElem_mem h
theorem wrap_step (i n : Nat) (h : i < n) (hn : n ≤ 17592186044416) : wrap64 ((i : Int) + 1) = ((i + 1 : Nat) : Int) := by
  unfold wrap64
  omega
theorem rd_nat (l : List Int) (i : Nat) : rd l (i : Int) = l.getD i 0 := by
  unfold rd
  rw [Int.toNat_natCast]

theorem sum_go (l : List Int) (hl : l.length ≤ 17592186044416) (hu : Us l) : ∀ (d i : Nat), i + d = l.length → tot (l.take i) < 18446744073709551616 →
    Ev (fun k => num_Sum.l0 k (tot (l.take i)) l (l.length : Int) (i : Int)) (if tot l < 18446744073709551616 then (tot l, 0) else (0, 10)) := by
  intro d
  induction d with
  | zero =>
    intro i hi ht
    obtain rfl : i = l.length := by omega
    rw [List.take_length] at ht
    rw [if_pos ht, List.take_length]
    exact Ev.step (f := fun _ => some (tot l, 0)) (fun k => by simp only [num_Sum.l0]; rw [if_neg (by omega)]) (Ev.now _)
  | succ d ih =>
    intro i hi ht
    have hlt : i < l.length := by omega
    have hx := hu _ (getD_mem l i hlt)
    have h0 := tot_nonneg (l.take i) (fun y hy => (hu y (List.mem_of_mem_take hy)).1)
    have ha := add_val (tot (l.take i)) (l.getD i 0) h0 ht hx.1 hx.2
    rw [← tot_take l i hlt] at ha
    have e : ∀ k, num_Sum.l0 (k + 1) (tot (l.take i)) l (l.length : Int) (i : Int) = (num_Add.f (tot (l.take i)) (l.getD i 0)).bind fun bt114 => if bt114.2 = 0 then num_Sum.l0 k bt114.1 l (l.length : Int) (wrap64 ((i : Int) + 1)) else some (0, bt114.2) := by
      intro k
      simp only [num_Sum.l0]
      rw [if_pos (by omega), if_pos (by omega), if_pos (by omega), rd_nat]
    refine Ev.step (f := fun k => (num_Add.f (tot (l.take i)) (l.getD i 0)).bind fun bt114 => if bt114.2 = 0 then num_Sum.l0 k bt114.1 l (l.length : Int) (wrap64 ((i : Int) + 1)) else some (0, bt114.2)) e ?_
    rw [ha, wrap_step i l.length hlt hl]
    simp only [Option.bind_some]
    by_cases h : tot (l.take (i + 1)) < 18446744073709551616
    · rw [if_pos h]
      exact Ev.congr (fun k => if_pos rfl) (ih (i + 1) (by omega) h)
    · rw [if_neg h]
      have := tot_le_take l (fun y hy => (hu y hy).1) (i + 1)
      rw [if_neg (by omega)]
      exact Ev.congr (fun k => if_neg (by decide)) (Ev.now _)

theorem sum_ev (l : List Int) (hl : l.length ≤ 17592186044416) (hu : Us l) :
    Ev (fun k => num_Sum.f k l) (if tot l < 18446744073709551616 then (tot l, 0) else (0, 10)) := sum_go l hl hu l.length 0 (by omega) (by simp [tot])

def pl (a S : Int) (l : List Int) : List Int := l.map fun w => a * w / S
def rl (a S : Int) (l : List Int) : List Int := l.map fun w => a * w % S

theorem pl_rl (a S : Int) : ∀ l : List Int, S * tot (pl a S l) + tot (rl a S l) = a * tot l
  | [] => by simp [pl, rl, tot]
  | w :: r => by
    have ih := pl_rl a S r
    have h := Int.emod_add_mul_ediv (a * w) S
    simp only [pl, rl, List.map_cons, tot] at ih ⊢
    rw [Int.mul_add, Int.mul_add]
    omega
theorem pl_getD (a S : Int) (l : List Int) (i : Nat) (h : i < l.length) : (pl a S l).getD i 0 = a * l.getD i 0 / S := by
  simp [pl, List.getD_eq_getElem?_getD, h]
theorem rl_getD (a S : Int) (l : List Int) (i : Nat) (h : i < l.length) : (rl a S l).getD i 0 = a * l.getD i 0 % S := by
  simp [rl, List.getD_eq_getElem?_getD, h]
theorem pl_length (a S : Int) (l : List Int) : (pl a S l).length = l.length := by simp [pl]
theorem rl_length (a S : Int) (l : List Int) : (rl a S l).length = l.length := by simp [rl]
theorem pl_nonneg (a S : Int) (l : List Int) (ha : 0 ≤ a) (hS : 0 < S) (h : ∀ x ∈ l, 0 ≤ x) : ∀ x ∈ pl a S l, 0 ≤ x := by
  intro x hx
  obtain ⟨w, hw, rfl⟩ := List.mem_map.1 hx
  exact Int.ediv_nonneg (Int.mul_nonneg ha (h w hw)) (by omega)
theorem rl_nonneg (a S : Int) (l : List Int) (hS : 0 < S) : ∀ x ∈ rl a S l, 0 ≤ x := by
  intro x hx
  obtain ⟨w, hw, rfl⟩ := List.mem_map.1 hx
  exact Int.emod_nonneg _ (by omega)

/-- A list of which the first i are told, the others nothing. -/
theorem set_step (m : List Int) (i n : Nat) (hm : m.length = n) (hi : i < n) (v : Int) (hv : v = m.getD i 0) :
    (m.take i ++ List.replicate (n - i) 0).set i v = m.take (i + 1) ++ List.replicate (n - (i + 1)) 0 := by
  obtain ⟨d, hd⟩ : ∃ d, n - i = d + 1 := ⟨n - i - 1, by omega⟩
  have e : n - (i + 1) = d := by omega
  rw [hd, e, List.replicate_succ, List.set_append_right _ _ (by rw [List.length_take]; omega)]
  have e2 : i - (m.take i).length = 0 := by rw [List.length_take]; omega
  rw [e2, List.set_cons_zero, List.take_succ_eq_append_getElem (by omega), hv, List.append_assoc, List.getD_eq_getElem?_getD, List.getElem?_eq_getElem (by omega)]
  rfl

theorem share_first (a : Int) (l : List Int) (ha : 0 ≤ a) (ha' : a < 18446744073709551616) (hl : l.length ≤ 17592186044416) (hu : Us l) (hS : 0 < tot l) (hS' : tot l < 18446744073709551616) (r : List Int × Int)
    (H : Ev (fun k => num_Share.l1 k (pl a (tot l) l) (rl a (tot l) l) (a - tot (pl a (tot l) l))) r) :
    ∀ (d i : Nat), i + d = l.length →
      Ev (fun k => num_Share.l0 k a (tot l) ((pl a (tot l) l).take i ++ List.replicate (l.length - i) 0) ((rl a (tot l) l).take i ++ List.replicate (l.length - i) 0) (a - tot ((pl a (tot l) l).take i)) l (l.length : Int) (i : Int)) r := by
  have hnn : ∀ x ∈ l, 0 ≤ x := fun x hx => (hu x hx).1
  have P0 := pl_nonneg a (tot l) l ha hS hnn
  have hsum := pl_rl a (tot l) l
  have hr0 := tot_nonneg _ (rl_nonneg a (tot l) l hS)
  have htot : tot (pl a (tot l) l) ≤ a := by
    have : tot l * tot (pl a (tot l) l) ≤ tot l * a := by rw [Int.mul_comm (tot l) a]; omega
    exact Int.le_of_mul_le_mul_left this hS
  intro d
  induction d with
  | zero =>
    intro i hi
    obtain rfl : i = l.length := by omega
    rw [Nat.sub_self, List.take_of_length_le (by rw [pl_length]; omega), List.take_of_length_le (by rw [rl_length]; omega), List.replicate_zero, List.append_nil, List.append_nil]
    exact Ev.step (f := fun k => num_Share.l1 k (pl a (tot l) l) (rl a (tot l) l) (a - tot (pl a (tot l) l))) (fun k => by simp only [num_Share.l0]; rw [if_neg (by omega)]) H
  | succ d ih =>
    intro i hi
    have hlt : i < l.length := by omega
    have hx := hu _ (getD_mem l i hlt)
    have hm := mul64_val a (l.getD i 0) ha ha' hx.1 hx.2
    have hle := tot_mem l _ hnn (getD_mem l i hlt)
    have hp : 0 ≤ a * l.getD i 0 := Int.mul_nonneg ha hx.1
    have hlt2 : a * l.getD i 0 < 18446744073709551616 * tot l := by
      have h1 : a * l.getD i 0 ≤ a * tot l := Int.mul_le_mul_of_nonneg_left hle ha
      have h2 : a * tot l < 18446744073709551616 * tot l := Int.mul_lt_mul_of_pos_right ha' hS
      omega
    have hd := div64_val (a * l.getD i 0 / 18446744073709551616) (a * l.getD i 0 % 18446744073709551616) (tot l) (by omega) (Int.ediv_lt_of_lt_mul (by decide) (by rw [Int.mul_comm (tot l)]; exact hlt2)) hS' (by omega) (by omega)
    rw [show a * l.getD i 0 / 18446744073709551616 * 18446744073709551616 + a * l.getD i 0 % 18446744073709551616 = a * l.getD i 0 by omega, ← pl_getD a (tot l) l i hlt, ← rl_getD a (tot l) l i hlt] at hd
    have s1 := set_step (pl a (tot l) l) i l.length (pl_length _ _ _) hlt _ rfl
    have s2 := set_step (rl a (tot l) l) i l.length (rl_length _ _ _) hlt _ rfl
    have tt := tot_take (pl a (tot l) l) i (by rw [pl_length]; exact hlt)
    have t1 := tot_le_take (pl a (tot l) l) P0 (i + 1)
    have t0 := tot_nonneg ((pl a (tot l) l).take i) (fun y hy => P0 y (List.mem_of_mem_take hy))
    have p0 := P0 _ (getD_mem (pl a (tot l) l) i (by rw [pl_length]; exact hlt))
    have ln : ((pl a (tot l) l).take i ++ List.replicate (l.length - i) 0).length = l.length := by
      rw [List.length_append, List.length_take, List.length_replicate, pl_length]
      omega
    have ln2 : ((rl a (tot l) l).take i ++ List.replicate (l.length - i) 0).length = l.length := by
      rw [List.length_append, List.length_take, List.length_replicate, rl_length]
      omega
    have rdy : rd ((pl a (tot l) l).take (i + 1) ++ List.replicate (l.length - (i + 1)) 0) (i : Int) = (pl a (tot l) l).getD i 0 := by
      rw [← s1, rd_nat, List.getD_eq_getElem?_getD, List.getElem?_set_self (by omega)]
      rfl
    have hw : IntKind.u64.wrap (a - tot ((pl a (tot l) l).take i) - (pl a (tot l) l).getD i 0) = a - tot ((pl a (tot l) l).take (i + 1)) := by
      rw [tt, wr _ (by omega) (by omega)]
      omega
    refine Ev.step (f := fun k => (bits_Div64.f k (a * l.getD i 0 / 18446744073709551616) (a * l.getD i 0 % 18446744073709551616) (tot l)).bind fun bt392 => if (i : Int) < ((((pl a (tot l) l).take i ++ List.replicate (l.length - i) 0).length : Nat) : Int) then ((some (((pl a (tot l) l).take i ++ List.replicate (l.length - i) 0).set ((i : Int)).toNat bt392.1 : List Int)).bind fun y394 => (if (i : Int) < ((((rl a (tot l) l).take i ++ List.replicate (l.length - i) 0).length : Nat) : Int) then (num_Share.l0 k a (tot l) y394 (((rl a (tot l) l).take i ++ List.replicate (l.length - i) 0).set ((i : Int)).toNat bt392.2) (IntKind.u64.wrap (a - tot ((pl a (tot l) l).take i) - (rd y394 (i : Int)))) l (l.length : Int) (wrap64 ((i : Int) + 1))) else none)) else none) (fun k => by simp only [num_Share.l0]; rw [if_pos (by omega), if_pos (by omega), if_pos (by omega), rd_nat, hm]; simp only [Option.bind_some]) ?_
    refine Ev.bind (f := fun (k : Nat) (bt392 : Int × Int) => if (i : Int) < ((((pl a (tot l) l).take i ++ List.replicate (l.length - i) 0).length : Nat) : Int) then ((some (((pl a (tot l) l).take i ++ List.replicate (l.length - i) 0).set ((i : Int)).toNat bt392.1 : List Int)).bind fun y394 => (if (i : Int) < ((((rl a (tot l) l).take i ++ List.replicate (l.length - i) 0).length : Nat) : Int) then (num_Share.l0 k a (tot l) y394 (((rl a (tot l) l).take i ++ List.replicate (l.length - i) 0).set ((i : Int)).toNat bt392.2) (IntKind.u64.wrap (a - tot ((pl a (tot l) l).take i) - (rd y394 (i : Int)))) l (l.length : Int) (wrap64 ((i : Int) + 1))) else none)) else none) hd ?_
    simp only [ln, ln2, Int.toNat_natCast, s1, s2, Option.bind_some, rdy, hw]
    rw [wrap_step i l.length hlt hl]
    exact Ev.congr (fun k => (if_pos (by omega)).trans (if_pos (by omega))) (ih (i + 1) (by omega))

theorem getD_set (l : List Int) (i j : Nat) (v : Int) (hi : i < l.length) : (l.set i v).getD j 0 = if i = j then v else l.getD j 0 := by
  rw [List.getD_eq_getElem?_getD, List.getD_eq_getElem?_getD, List.getElem?_set]
  by_cases h : i = j
  · subst h
    simp [hi]
  · simp [h]
theorem tot_set : ∀ (l : List Int) (i : Nat) (v : Int), i < l.length → tot (l.set i v) = tot l - l.getD i 0 + v
  | [], _, _, h => by simp at h
  | x :: r, 0, v, _ => by
    simp only [List.set_cons_zero, tot, List.getD_cons_zero]
    omega
  | x :: r, i + 1, v, h => by
    have := tot_set r i v (by simpa using h)
    simp only [List.set_cons_succ, tot, List.getD_cons_succ]
    omega

/-- The first of the greatest. -/
theorem best_go (p r : List Int) (left : Int) (hl : r.length ≤ 17592186044416) (hpr : p.length = r.length) : ∀ (d i b : Nat), i + d = r.length → b < r.length → (∀ j, j < i → r.getD j 0 ≤ r.getD b 0) → (∀ j, j < b → r.getD j 0 < r.getD b 0) →
    ∃ c, c < r.length ∧ (∀ j, j < r.length → r.getD j 0 ≤ r.getD c 0) ∧ (∀ j, j < c → r.getD j 0 < r.getD c 0) ∧
      ∀ res, Ev (fun k => num_Share.l1 k (p.set c (IntKind.u64.wrap (p.getD c 0 + 1))) (r.set c 0) (IntKind.u64.wrap (left - 1))) res →
        Ev (fun k => num_Share.l2 k p r left (b : Int) r (r.length : Int) (i : Int)) res := by
  intro d
  induction d with
  | zero =>
    intro i b hi hb h1 h2
    obtain rfl : i = r.length := by omega
    refine ⟨b, hb, h1, h2, fun res H => Ev.step (f := fun k => num_Share.l1 k (p.set b (IntKind.u64.wrap (p.getD b 0 + 1))) (r.set b 0) (IntKind.u64.wrap (left - 1))) (fun k => ?_) H⟩
    simp only [num_Share.l2]
    rw [if_neg (by omega), if_pos (by omega), if_pos (by omega), if_pos (by omega), rd_nat, Int.toNat_natCast]
  | succ d ih =>
    intro i b hi hb h1 h2
    have hlt : i < r.length := by omega
    by_cases hg : r.getD i 0 > r.getD b 0
    · obtain ⟨c, c1, c2, c3, c4⟩ := ih (i + 1) i (by omega) hlt (fun j hj => by
        by_cases e : j = i
        · subst e; omega
        · have := h1 j (by omega); omega) (fun j hj => by have := h1 j hj; omega)
      refine ⟨c, c1, c2, c3, fun res H => Ev.step (f := fun k => num_Share.l2 k p r left (i : Int) r (r.length : Int) ((i + 1 : Nat) : Int)) (fun k => ?_) (c4 res H)⟩
      simp only [num_Share.l2]
      rw [if_pos (by omega), if_pos (by omega), if_pos (by omega), if_pos (by omega), if_pos (by omega), rd_nat, rd_nat, if_pos hg, wrap_step i r.length hlt hl]
    · obtain ⟨c, c1, c2, c3, c4⟩ := ih (i + 1) b (by omega) hb (fun j hj => by
        by_cases e : j = i
        · subst e; omega
        · exact h1 j (by omega)) h2
      refine ⟨c, c1, c2, c3, fun res H => Ev.step (f := fun k => num_Share.l2 k p r left (b : Int) r (r.length : Int) ((i + 1 : Nat) : Int)) (fun k => ?_) (c4 res H)⟩
      simp only [num_Share.l2]
      rw [if_pos (by omega), if_pos (by omega), if_pos (by omega), if_pos (by omega), if_pos (by omega), rd_nat, rd_nat, if_neg hg, wrap_step i r.length hlt hl]

/-- What holds of parts and rests while units are left. -/
structure Inv (a : Int) (l p r : List Int) (left : Int) : Prop where
  lp : p.length = l.length
  lr : r.length = l.length
  left0 : 0 ≤ left
  sum : tot p + left = a
  rem : tot l * left ≤ tot r
  each : ∀ i, i < l.length → (p.getD i 0 = a * l.getD i 0 / tot l ∧ r.getD i 0 = a * l.getD i 0 % tot l) ∨ (p.getD i 0 = a * l.getD i 0 / tot l + 1 ∧ r.getD i 0 = 0 ∧ 0 < a * l.getD i 0 % tot l)
  ord : ∀ i j, j < i → i < l.length → l.getD i 0 = l.getD j 0 → p.getD i 0 ≤ p.getD j 0

theorem tot_pos (l : List Int) (h : 0 < tot l) : ∃ i, i < l.length ∧ 0 < l.getD i 0 := by
  induction l with
  | nil => simp [tot] at h
  | cons x r ih =>
    simp only [tot] at h
    by_cases hx : 0 < x
    · exact ⟨0, by simp, by simpa using hx⟩
    · obtain ⟨i, h1, h2⟩ := ih (by omega)
      exact ⟨i + 1, by simpa using h1, by simpa using h2⟩

theorem Inv.step {a : Int} {l p r : List Int} {left : Int} (I : Inv a l p r left) (hl0 : ∀ x ∈ l, 0 ≤ x) (hS : 0 < tot l) (hleft : 0 < left) (c : Nat) (hc : c < l.length) (c2 : ∀ j, j < l.length → r.getD j 0 ≤ r.getD c 0) (c3 : ∀ j, j < c → r.getD j 0 < r.getD c 0) (ha : a < 18446744073709551616) (ha0 : 0 ≤ a) :
    IntKind.u64.wrap (p.getD c 0 + 1) = p.getD c 0 + 1 ∧ Inv a l (p.set c (p.getD c 0 + 1)) (r.set c 0) (left - 1) := by
  have hSl : tot l * left = tot l * (left - 1) + tot l := by rw [Int.mul_sub]; omega
  have hge : 0 ≤ tot l * (left - 1) := Int.mul_nonneg (by omega) (by omega)
  have hrp : 0 < tot r := by have := I.rem; omega
  obtain ⟨i, i1, i2⟩ := tot_pos r hrp
  have hcp : 0 < r.getD c 0 := by
    have := c2 i (by rw [← I.lr]; exact i1)
    omega
  have hcur : p.getD c 0 = a * l.getD c 0 / tot l ∧ r.getD c 0 = a * l.getD c 0 % tot l := by
    rcases I.each c hc with h | h
    · exact h
    · omega
  have hlt : r.getD c 0 < tot l := by
    rw [hcur.2]
    exact Int.emod_lt_of_pos _ hS
  have pnn : ∀ x ∈ p, 0 ≤ x := by
    intro x hx
    obtain ⟨j, hj, rfl⟩ := List.mem_iff_getElem.1 hx
    have hj' : j < l.length := by rw [← I.lp]; exact hj
    have e : p[j] = p.getD j 0 := by rw [List.getD_eq_getElem?_getD, List.getElem?_eq_getElem hj]; rfl
    have b0 : 0 ≤ a * l.getD j 0 / tot l := Int.ediv_nonneg (Int.mul_nonneg ha0 (hl0 _ (getD_mem l j hj'))) (by omega)
    rcases I.each j hj' with h | h <;> omega
  have pc := tot_mem p _ pnn (getD_mem p c (by rw [I.lp]; exact hc))
  have pc0 := pnn _ (getD_mem p c (by rw [I.lp]; exact hc))
  have hsum := I.sum
  refine ⟨wr _ (by omega) (by omega), ?_⟩
  refine ⟨by rw [List.length_set]; exact I.lp, by rw [List.length_set]; exact I.lr, by omega, ?_, ?_, ?_, ?_⟩
  · rw [tot_set _ _ _ (by rw [I.lp]; exact hc)]
    omega
  · rw [tot_set _ _ _ (by rw [I.lr]; exact hc)]
    have := I.rem
    omega
  · intro j hj
    rw [getD_set _ _ _ _ (by rw [I.lp]; exact hc), getD_set _ _ _ _ (by rw [I.lr]; exact hc)]
    by_cases e : c = j
    · subst e
      rw [if_pos rfl, if_pos rfl]
      exact .inr ⟨by omega, rfl, by omega⟩
    · rw [if_neg e, if_neg e]
      exact I.each j hj
  · intro x y hxy hx hw
    rw [getD_set _ _ _ _ (by rw [I.lp]; exact hc), getD_set _ _ _ _ (by rw [I.lp]; exact hc)]
    have ho := I.ord x y hxy hx hw
    by_cases e : c = x
    · subst e
      rw [if_pos rfl, if_neg (by omega)]
      have := c3 y hxy
      rcases I.each y (by omega) with h | h
      · exfalso
        have h2 := h.2
        rw [← hw] at h2
        omega
      · have h1 := h.1
        rw [← hw] at h1
        omega
    · rw [if_neg e]
      by_cases e2 : c = y
      · subst e2
        rw [if_pos rfl]
        omega
      · rw [if_neg e2]
        exact ho

theorem share_second (a : Int) (l : List Int) (hl : l.length ≤ 17592186044416) (hl0 : ∀ x ∈ l, 0 ≤ x) (hS : 0 < tot l) (ha : a < 18446744073709551616) (ha0 : 0 ≤ a) :
    ∀ (m : Nat) (p r : List Int), Inv a l p r m → ∃ q z, Inv a l q z 0 ∧ Ev (fun k => num_Share.l1 k p r (m : Int)) (q, 0) := by
  intro m
  induction m with
  | zero =>
    intro p r I
    exact ⟨p, r, I, Ev.step (f := fun _ => some (p, 0)) (fun k => by simp only [num_Share.l1]; rw [if_neg (by omega)]) (Ev.now _)⟩
  | succ m ih =>
    intro p r I
    have hn : 0 < l.length := by
      rcases Nat.eq_zero_or_pos l.length with h | h
      · have : l = [] := List.length_eq_zero_iff.1 h
        rw [this] at hS
        simp [tot] at hS
      · exact h
    obtain ⟨c, c1, c2, c3, c4⟩ := best_go p r ((m + 1 : Nat) : Int) (by rw [I.lr]; exact hl) (by rw [I.lp, I.lr]) r.length 0 0 (by omega) (by rw [I.lr]; exact hn) (fun j hj => by omega) (fun j hj => by omega)
    obtain ⟨w1, I'⟩ := I.step hl0 hS (by omega) c (by rw [← I.lr]; exact c1) (fun j hj => c2 j (by rw [I.lr]; exact hj)) c3 ha ha0
    have em : ((m + 1 : Nat) : Int) - 1 = (m : Int) := by omega
    rw [em] at I'
    obtain ⟨q, z, Iq, hq⟩ := ih _ _ I'
    have hs := I.sum
    have hpn : 0 ≤ tot p := by
      have pnn : ∀ x ∈ p, 0 ≤ x := by
        intro x hx
        obtain ⟨j, hj, rfl⟩ := List.mem_iff_getElem.1 hx
        have hj' : j < l.length := by rw [← I.lp]; exact hj
        have e : p[j] = p.getD j 0 := by rw [List.getD_eq_getElem?_getD, List.getElem?_eq_getElem hj]; rfl
        have b0 : 0 ≤ a * l.getD j 0 / tot l := Int.ediv_nonneg (Int.mul_nonneg ha0 (hl0 _ (getD_mem l j hj'))) (by omega)
        rcases I.each j hj' with h | h <;> omega
      exact tot_nonneg p pnn
    refine ⟨q, z, Iq, Ev.step (f := fun k => num_Share.l2 k p r ((m + 1 : Nat) : Int) 0 r (r.length : Int) 0) (fun k => by simp only [num_Share.l1]; rw [if_pos (by omega)]) (c4 _ ?_)⟩
    rw [w1, em, wr (m : Int) (by omega) (by omega)]
    exact hq

theorem share_ev (a : Int) (l : List Int) (ha : 0 ≤ a) (ha' : a < 18446744073709551616) (hl : l.length ≤ 17592186044416) (hu : Us l) (hS : 0 < tot l) (hS' : tot l < 18446744073709551616) :
    ∃ q z, Inv a l q z 0 ∧ Ev (fun k => num_Share.f k a l) (q, 0) := by
  have hnn : ∀ x ∈ l, 0 ≤ x := fun x hx => (hu x hx).1
  have hsum := pl_rl a (tot l) l
  have hr0 := tot_nonneg _ (rl_nonneg a (tot l) l hS)
  have htot : tot (pl a (tot l) l) ≤ a := by
    have : tot l * tot (pl a (tot l) l) ≤ tot l * a := by rw [Int.mul_comm (tot l) a]; omega
    exact Int.le_of_mul_le_mul_left this hS
  have hp0 := tot_nonneg _ (pl_nonneg a (tot l) l ha hS hnn)
  obtain ⟨m, hm⟩ : ∃ m : Nat, a - tot (pl a (tot l) l) = (m : Int) := ⟨(a - tot (pl a (tot l) l)).toNat, by omega⟩
  have I : Inv a l (pl a (tot l) l) (rl a (tot l) l) m := by
    refine ⟨pl_length _ _ _, rl_length _ _ _, by omega, by omega, ?_, fun i hi => .inl ⟨pl_getD _ _ _ _ hi, rl_getD _ _ _ _ hi⟩, fun i j hij hi hw => ?_⟩
    · rw [← hm, Int.mul_sub]
      have := Int.mul_comm (tot l) a
      omega
    · rw [pl_getD _ _ _ _ hi, pl_getD _ _ _ _ (by omega), hw]
      exact Int.le_refl _
  obtain ⟨q, z, Iq, hq⟩ := share_second a l hl hnn hS ha' ha m _ _ I
  rw [← hm] at hq
  have hf := share_first a l ha ha' hl hu hS hS' _ hq l.length 0 (by omega)
  refine ⟨q, z, Iq, ?_⟩
  have hn : l ≠ [] := by
    intro h
    rw [h] at hS
    simp [tot] at hS
  have hn2 : ¬ ((l.length : Nat) : Int) = 0 := by
    intro h
    exact hn (List.length_eq_zero_iff.1 (by omega))
  have hse := sum_ev l hl hu
  rw [if_pos hS'] at hse
  unfold num_Share.f
  refine Ev.congr (fun k => if_neg hn2) (Ev.bind (f := fun (k : Nat) (bt381 : Int × Int) => (if bt381.2 = 0 then (if bt381.1 = 0 then (some (([] : List Int), 11)) else (if 0 ≤ (l.length : Int) then (if ((l.length : Int) : Int).toNat ≤ 35184372088832 then (num_Share.l0 k a bt381.1 (List.replicate ((l.length : Int) : Int).toNat 0) (List.replicate ((l.length : Int) : Int).toNat 0) a l (l.length : Int) 0) else (none)) else (none))) else (some (([] : List Int), bt381.2)))) hse ?_)
  refine Ev.congr (fun k => (if_pos rfl).trans ((if_neg (by show ¬ tot l = 0; omega)).trans ((if_pos (by omega)).trans (if_pos (by omega))))) ?_
  simp only [Int.toNat_natCast]
  simpa [tot] using hf

theorem share_no (a : Int) (l : List Int) (hl : l.length ≤ 17592186044416) (hu : Us l) (hn : l ≠ []) (h : ¬ (0 < tot l ∧ tot l < 18446744073709551616)) :
    Ev (fun k => num_Share.f k a l) ([], if tot l < 18446744073709551616 then 11 else 10) := by
  have h0 := tot_nonneg l (fun x hx => (hu x hx).1)
  have hn2 : ¬ ((l.length : Nat) : Int) = 0 := by
    intro h
    exact hn (List.length_eq_zero_iff.1 (by omega))
  have hse := sum_ev l hl hu
  unfold num_Share.f
  refine Ev.congr (fun k => if_neg hn2) (Ev.bind (f := fun (k : Nat) (bt381 : Int × Int) => (if bt381.2 = 0 then (if bt381.1 = 0 then (some (([] : List Int), 11)) else (if 0 ≤ (l.length : Int) then (if ((l.length : Int) : Int).toNat ≤ 35184372088832 then (num_Share.l0 k a bt381.1 (List.replicate ((l.length : Int) : Int).toNat 0) (List.replicate ((l.length : Int) : Int).toNat 0) a l (l.length : Int) 0) else (none)) else (none))) else (some (([] : List Int), bt381.2)))) hse ?_)
  by_cases h1 : tot l < 18446744073709551616
  · rw [if_pos h1, if_pos h1]
    exact Ev.congr (fun k => (if_pos rfl).trans (if_pos (by show tot l = 0; omega))) (Ev.now _)
  · rw [if_neg h1, if_neg h1]
    exact Ev.congr (fun k => (if_neg (by decide))) (Ev.now _)

theorem share_nil (a : Int) : Ev (fun k => num_Share.f k a []) ([], 1) := Ev.now _
end Go.Proofs.Ytopekdmipnpnaaa.NumSh
