/- The document's Sum and Share as printed: the same answers as the program's. -/
import Derived.Test.YtopekdmipnpnaaaBigD
import Derived.Test.YtopekdmipnpnaaaNumSh
import Derived.Test.YtopekdmipnpnaaaPBeax7
namespace Go.Proofs.Ytopekdmipnpnaaa.NumShB
open Go.RowKit Go.Proofs.Ytopekdmipnpnaaa.PBea Go.Proofs.Ytopekdmipnpnaaa.NumA Go.Proofs.Ytopekdmipnpnaaa.NumDiv Go.Proofs.Ytopekdmipnpnaaa.NumSh Go.Proofs.Ytopekdmipnpnaaa.Big Go.Proofs.YtopekdmipnpnaaaW.PrintWords Go.Proofs.YtopekdmipnpnaaaW.PrintLast Go.Proofs.YtopekdmipnpnaaaW.PrintMore

theorem len_pow (n p : Nat) (h : n < 4294967296 ^ p) : (D n).length ≤ p := (D_len n p).2 h

theorem tot_len (l : List Int) (hu : Us l) : tot l ≤ 18446744073709551616 * l.length := by
  induction l with
  | nil => simp [tot]
  | cons x r ih =>
    have := ih (fun y hy => hu y (by simp [hy]))
    have := hu x (by simp)
    simp only [tot, List.length_cons]
    omega

theorem rsum_go (l : List Int) (hl : l.length ≤ 17592186044416) (hu : Us l) : ∀ (d i : Nat), i + d = l.length →
    Ev (fun k => bourseref01_Sum.l0 k l (D (tot (l.take i)).toNat) (i : Int)) (if tot l < 18446744073709551616 then (tot l, 0) else (0, 10)) := by
  have hnn : ∀ y ∈ l, 0 ≤ y := fun y hy => (hu y hy).1
  have hb : ∀ i, 0 ≤ tot (l.take i) ∧ tot (l.take i) ≤ 324518553658426726783156020576256 := by
    intro i
    have h1 := tot_nonneg (l.take i) (fun y hy => hnn y (List.mem_of_mem_take hy))
    have h2 := tot_le_take l hnn i
    have h3 := tot_len l hu
    omega
  have hlen : ∀ i, (D (tot (l.take i)).toNat).length ≤ 4 := by
    intro i
    refine len_pow _ _ ?_
    have := hb i
    have e : (4294967296 : Nat) ^ 4 = 340282366920938463463374607431768211456 := rfl
    omega
  intro d
  induction d with
  | zero =>
    intro i hi
    obtain rfl : i = l.length := by omega
    have hw := word_ev (tot l).toNat
    have h0 := hb l.length
    rw [List.take_length] at h0 ⊢
    refine Ev.step (f := fun k => (bourseref01_word.f k (D (tot l).toNat)).bind fun bt379 => (some (bt379.1, bt379.2))) (fun k => by simp only [bourseref01_Sum.l0]; rw [if_neg (by omega)]) (Ev.bind (f := fun (_ : Nat) (bt379 : Int × Int) => (some (bt379.1, bt379.2))) hw ?_)
    by_cases h : tot l < 18446744073709551616
    · rw [if_pos h, if_pos (by omega), show (((tot l).toNat : Nat) : Int) = tot l by omega]
      exact Ev.now _
    · rw [if_neg h, if_neg (by omega)]
      exact Ev.now _
  | succ d ih =>
    intro i hi
    have hlt : i < l.length := by omega
    have hx := hu _ (getD_mem l i hlt)
    have h1 := of_ev (l.getD i 0) hx.1 hx.2
    have l1 := hlen i
    have l2 := len2 (l.getD i 0) hx.1 hx.2
    have h2 := plus_ev (tot (l.take i)).toNat (l.getD i 0).toNat (by omega) (by omega)
    have b1 := hb i
    rw [show (tot (l.take i)).toNat + (l.getD i 0).toNat = (tot (l.take (i + 1))).toNat by rw [tot_take l i hlt]; omega] at h2
    refine Ev.step (f := fun k => (bourseref01_of.f k (l.getD i 0)).bind fun t373 => ((bourseref01_plus.f k (D (tot (l.take i)).toNat) t373).bind fun t376 => (bourseref01_Sum.l0 k l t376 ((i + 1 : Nat) : Int)))) (fun k => ?_) ?_
    · simp only [bourseref01_Sum.l0]
      rw [if_pos (by omega), if_pos (by omega), rd_nat, wrap_step i l.length hlt hl]
    refine Ev.bind (f := fun (k : Nat) (t373 : List Int) => ((bourseref01_plus.f k (D (tot (l.take i)).toNat) t373).bind fun t376 => (bourseref01_Sum.l0 k l t376 ((i + 1 : Nat) : Int)))) h1 ?_
    refine Ev.bind (f := fun (k : Nat) (t376 : List Int) => (bourseref01_Sum.l0 k l t376 ((i + 1 : Nat) : Int))) h2 ?_
    exact ih (i + 1) (by omega)

theorem rsum_ev (l : List Int) (hl : l.length ≤ 17592186044416) (hu : Us l) :
    Ev (fun k => bourseref01_Sum.f k l) (if tot l < 18446744073709551616 then (tot l, 0) else (0, 10)) := by
  have := rsum_go l hl hu l.length 0 (by omega)
  rw [List.take_zero] at this
  simp only [tot] at this
  rw [show (0 : Int).toNat = 0 from rfl, D_zero] at this
  exact this

def Ds (l : List Int) : List (List Int) := l.map fun x => D x.toNat

theorem Ds_getD (l : List Int) (i : Nat) (h : i < l.length) : (Ds l).getD i [] = D (l.getD i 0).toNat := by
  simp [Ds, List.getD_eq_getElem?_getD, h]
theorem Ds_length (l : List Int) : (Ds l).length = l.length := by simp [Ds]
theorem Ds_set (l : List Int) (i : Nat) : (Ds l).set i [] = Ds (l.set i 0) := by
  unfold Ds
  rw [List.map_set]
  rw [show (0 : Int).toNat = 0 from rfl, D_zero]
theorem rdL2 (l : List (List Int)) (i : Nat) : rd_L3 l (i : Int) = l.getD i [] := by
  unfold rd_L3
  rw [Int.toNat_natCast]

theorem rshare_first (a : Int) (l : List Int) (ha : 0 ≤ a) (ha' : a < 18446744073709551616) (hl : l.length ≤ 1048576) (hu : Us l) (hS : 0 < tot l) (hS' : tot l < 18446744073709551616) (r : List Int × Int)
    (H : Ev (fun k => bourseref01_Share.l1 k (pl a (tot l) l) (Ds (rl a (tot l) l)) (a - tot (pl a (tot l) l))) r) :
    ∀ (d i : Nat), i + d = l.length →
      Ev (fun k => bourseref01_Share.l0 k a l (tot l) ((pl a (tot l) l).take i) (Ds ((rl a (tot l) l).take i)) (a - tot ((pl a (tot l) l).take i)) (i : Int)) r := by
  have hnn : ∀ x ∈ l, 0 ≤ x := fun x hx => (hu x hx).1
  have P0 := pl_nonneg a (tot l) l ha hS hnn
  have hsum := pl_rl a (tot l) l
  have hr0 := tot_nonneg _ (rl_nonneg a (tot l) l hS)
  have htot : tot (pl a (tot l) l) ≤ a := by
    have : tot l * tot (pl a (tot l) l) ≤ tot l * a := by rw [Int.mul_comm (tot l) a]; omega
    exact Int.le_of_mul_le_mul_left this hS
  intro d
  induction d with
  | zero =>
    intro i hi
    obtain rfl : i = l.length := by omega
    rw [List.take_of_length_le (by rw [pl_length]; omega), List.take_of_length_le (by rw [rl_length]; omega)]
    exact Ev.step (f := fun k => bourseref01_Share.l1 k (pl a (tot l) l) (Ds (rl a (tot l) l)) (a - tot (pl a (tot l) l))) (fun k => by simp only [bourseref01_Share.l0]; rw [if_neg (by omega)]) H
  | succ d ih =>
    intro i hi
    have hlt : i < l.length := by omega
    have hx := hu _ (getD_mem l i hlt)
    have hle := tot_mem l _ hnn (getD_mem l i hlt)
    have hp : 0 ≤ a * l.getD i 0 := Int.mul_nonneg ha hx.1
    have g1 := of_ev a ha ha'
    have g2 := of_ev (l.getD i 0) hx.1 hx.2
    have g3 := of_ev (tot l) (by omega) hS'
    have l1 := len2 a ha ha'
    have l2 := len2 (l.getD i 0) hx.1 hx.2
    have l3 := len2 (tot l) (by omega) hS'
    have g4 := times_ev a.toNat (l.getD i 0).toNat (by omega) (by omega)
    have l4 : (D (a.toNat * (l.getD i 0).toNat)).length ≤ 4 := by
      rw [D_len] at l1 l2 ⊢
      have := Nat.mul_lt_mul'' l1 l2
      rwa [← Nat.pow_add] at this
    have g5 := divided_ev (a.toNat * (l.getD i 0).toNat) (tot l).toNat (by omega) (by omega) (by omega)
    have e : ((a.toNat * (l.getD i 0).toNat : Nat) : Int) = a * l.getD i 0 := by rw [Int.natCast_mul, Int.toNat_of_nonneg ha, Int.toNat_of_nonneg hx.1]
    have ec : (((tot l).toNat : Nat) : Int) = tot l := Int.toNat_of_nonneg (by omega)
    have eq : ((a.toNat * (l.getD i 0).toNat / (tot l).toNat : Nat) : Int) = (pl a (tot l) l).getD i 0 := by rw [Int.natCast_ediv, e, ec, pl_getD _ _ _ _ hlt]
    have er : ((a.toNat * (l.getD i 0).toNat % (tot l).toNat : Nat) : Int) = (rl a (tot l) l).getD i 0 := by rw [Int.natCast_emod, e, ec, rl_getD _ _ _ _ hlt]
    have tt := tot_take (pl a (tot l) l) i (by rw [pl_length]; exact hlt)
    have t1 := tot_le_take (pl a (tot l) l) P0 (i + 1)
    have t0 := tot_nonneg ((pl a (tot l) l).take i) (fun y hy => P0 y (List.mem_of_mem_take hy))
    have p0 := P0 _ (getD_mem (pl a (tot l) l) i (by rw [pl_length]; exact hlt))
    have g6 := word_ev (a.toNat * (l.getD i 0).toNat / (tot l).toNat)
    rw [if_pos (by omega), eq] at g6
    have s1 : (pl a (tot l) l).take i ++ [(pl a (tot l) l).getD i 0] = (pl a (tot l) l).take (i + 1) := by
      rw [List.take_succ_eq_append_getElem (by rw [pl_length]; exact hlt), List.getD_eq_getElem?_getD, List.getElem?_eq_getElem (by rw [pl_length]; exact hlt)]
      rfl
    have s2 : Ds ((rl a (tot l) l).take i) ++ [D (a.toNat * (l.getD i 0).toNat % (tot l).toNat)] = Ds ((rl a (tot l) l).take (i + 1)) := by
      rw [List.take_succ_eq_append_getElem (by rw [rl_length]; exact hlt)]
      unfold Ds
      rw [List.map_append]
      congr 1
      have : (rl a (tot l) l)[i]'(by rw [rl_length]; exact hlt) = (rl a (tot l) l).getD i 0 := by
        rw [List.getD_eq_getElem?_getD, List.getElem?_eq_getElem (by rw [rl_length]; exact hlt)]
        rfl
      rw [List.map_singleton, this, ← er, Int.toNat_natCast]
    have hw : IntKind.u64.wrap (a - tot ((pl a (tot l) l).take i) - (pl a (tot l) l).getD i 0) = a - tot ((pl a (tot l) l).take (i + 1)) := by
      rw [tt, wr _ (by omega) (by omega)]
      omega
    have n1 : ((pl a (tot l) l).take i).length ≤ 1048576 := by rw [List.length_take, pl_length]; omega
    have n2 : (Ds ((rl a (tot l) l).take i)).length ≤ 1048576 := by rw [Ds_length, List.length_take, rl_length]; omega
    obtain ⟨K1, k1⟩ := g1
    obtain ⟨K2, k2⟩ := g2
    obtain ⟨K3, k3⟩ := g3
    obtain ⟨K4, k4⟩ := g4
    obtain ⟨K5, k5⟩ := g5
    obtain ⟨K6, k6⟩ := g6
    obtain ⟨K7, k7⟩ := ih (i + 1) (by omega)
    refine ⟨K1 + K2 + K3 + K4 + K5 + K6 + K7 + 1, fun k hk => ?_⟩
    obtain ⟨m, rfl⟩ : ∃ m, k = m + 1 := ⟨k - 1, by omega⟩
    have k1 : bourseref01_of.f m a = some (D a.toNat) := k1 m (by omega)
    have k2 : bourseref01_of.f m (l.getD i 0) = some (D (l.getD i 0).toNat) := k2 m (by omega)
    have k3 : bourseref01_of.f m (tot l) = some (D (tot l).toNat) := k3 m (by omega)
    have k4 : bourseref01_times.f m (D a.toNat) (D (l.getD i 0).toNat) = some (D (a.toNat * (l.getD i 0).toNat)) := k4 m (by omega)
    have k5 : bourseref01_divided.f m (D (a.toNat * (l.getD i 0).toNat)) (D (tot l).toNat) = some (D (a.toNat * (l.getD i 0).toNat / (tot l).toNat), D (a.toNat * (l.getD i 0).toNat % (tot l).toNat)) := k5 m (by omega)
    have k6 : bourseref01_word.f m (D (a.toNat * (l.getD i 0).toNat / (tot l).toNat)) = some ((pl a (tot l) l).getD i 0, 0) := k6 m (by omega)
    have k7 : bourseref01_Share.l0 m a l (tot l) ((pl a (tot l) l).take (i + 1)) (Ds ((rl a (tot l) l).take (i + 1))) (a - tot ((pl a (tot l) l).take (i + 1))) ((i + 1 : Nat) : Int) = some r := k7 m (by omega)
    show bourseref01_Share.l0 (m + 1) a l (tot l) ((pl a (tot l) l).take i) (Ds ((rl a (tot l) l).take i)) (a - tot ((pl a (tot l) l).take i)) (i : Int) = some r
    simp only [bourseref01_Share.l0]
    rw [if_pos (by omega), k1, Option.bind_some, if_pos (by omega), rd_nat, k2, Option.bind_some, k4, Option.bind_some, k3, Option.bind_some, k5, Option.bind_some, k6, Option.bind_some, if_pos (by omega), if_pos (by omega), s1, s2, hw, wrap_step i l.length hlt (by omega)]
    exact k7

theorem rbest_go (p r : List Int) (left : Int) (hl : r.length ≤ 1048576) (hr : ∀ x ∈ r, 0 ≤ x ∧ x < 18446744073709551616) (hpr : p.length = r.length) : ∀ (d i b : Nat), i + d = r.length → b < r.length → (∀ j, j < i → r.getD j 0 ≤ r.getD b 0) → (∀ j, j < b → r.getD j 0 < r.getD b 0) →
    ∃ c, c < r.length ∧ (∀ j, j < r.length → r.getD j 0 ≤ r.getD c 0) ∧ (∀ j, j < c → r.getD j 0 < r.getD c 0) ∧
      ∀ res, Ev (fun k => bourseref01_Share.l1 k (p.set c (IntKind.u64.wrap (p.getD c 0 + 1))) (Ds (r.set c 0)) (IntKind.u64.wrap (left - 1))) res →
        Ev (fun k => bourseref01_Share.l2 k p (Ds r) left (b : Int) (i : Int)) res := by
  intro d
  induction d with
  | zero =>
    intro i b hi hb h1 h2
    obtain rfl : i = r.length := by omega
    refine ⟨b, hb, h1, h2, fun res H => Ev.step (f := fun k => bourseref01_Share.l1 k (p.set b (IntKind.u64.wrap (p.getD b 0 + 1))) (Ds (r.set b 0)) (IntKind.u64.wrap (left - 1))) (fun k => ?_) H⟩
    have e := Ds_length r
    simp only [bourseref01_Share.l2]
    rw [if_neg (by omega), if_pos (by omega), if_pos (by omega), if_pos (by omega), rd_nat, Int.toNat_natCast, Ds_set]
  | succ d ih =>
    intro i b hi hb h1 h2
    have hlt : i < r.length := by omega
    have e := Ds_length r
    have ri := hr _ (getD_mem r i hlt)
    have rb := hr _ (getD_mem r b hb)
    have li := len2 (r.getD i 0) ri.1 ri.2
    have hc := compare_ev (r.getD i 0).toNat (r.getD b 0).toNat (by omega)
    have st : ∀ k, bourseref01_Share.l2 (k + 1) p (Ds r) left (b : Int) (i : Int) = (bourseref01_compare.f k (D (r.getD i 0).toNat) (D (r.getD b 0).toNat)).bind fun t439 => (if t439 > 0 then (bourseref01_Share.l2 k p (Ds r) left (i : Int) ((i + 1 : Nat) : Int)) else (bourseref01_Share.l2 k p (Ds r) left (b : Int) ((i + 1 : Nat) : Int))) := by
      intro k
      simp only [bourseref01_Share.l2]
      rw [if_pos (by omega), if_pos (by omega), if_pos (by omega), if_pos (by omega), rdL2, rdL2, Ds_getD _ _ hlt, Ds_getD _ _ hb, wrap_step i r.length hlt (by omega)]
    by_cases hg : r.getD i 0 > r.getD b 0
    · obtain ⟨c, c1, c2, c3, c4⟩ := ih (i + 1) i (by omega) hlt (fun j hj => by
        by_cases e : j = i
        · subst e; omega
        · have := h1 j (by omega); omega) (fun j hj => by have := h1 j hj; omega)
      refine ⟨c, c1, c2, c3, fun res H => Ev.step st (Ev.bind (f := fun (k : Nat) (t439 : Int) => (if t439 > 0 then (bourseref01_Share.l2 k p (Ds r) left (i : Int) ((i + 1 : Nat) : Int)) else (bourseref01_Share.l2 k p (Ds r) left (b : Int) ((i + 1 : Nat) : Int)))) hc ?_)⟩
      refine Ev.congr (fun k => if_pos ?_) (c4 res H)
      unfold cmp
      rw [if_neg (by omega), if_neg (by omega)]
      decide
    · obtain ⟨c, c1, c2, c3, c4⟩ := ih (i + 1) b (by omega) hb (fun j hj => by
        by_cases e : j = i
        · subst e; omega
        · exact h1 j (by omega)) h2
      refine ⟨c, c1, c2, c3, fun res H => Ev.step st (Ev.bind (f := fun (k : Nat) (t439 : Int) => (if t439 > 0 then (bourseref01_Share.l2 k p (Ds r) left (i : Int) ((i + 1 : Nat) : Int)) else (bourseref01_Share.l2 k p (Ds r) left (b : Int) ((i + 1 : Nat) : Int)))) hc ?_)⟩
      refine Ev.congr (fun k => if_neg ?_) (c4 res H)
      unfold cmp
      split
      · decide
      · rw [if_pos (by omega)]
        decide

/-- Both go on alike from the same parts and rests. -/
theorem both_second (a : Int) (l : List Int) (hl : l.length ≤ 1048576) (hu : Us l) (hS : 0 < tot l) (hS' : tot l < 18446744073709551616) (ha : a < 18446744073709551616) (ha0 : 0 ≤ a) :
    ∀ (m : Nat) (p r : List Int), Inv a l p r m → ∃ q z, Inv a l q z 0 ∧ Ev (fun k => num_Share.l1 k p r (m : Int)) (q, 0) ∧ Ev (fun k => bourseref01_Share.l1 k p (Ds r) (m : Int)) (q, 0) := by
  have hl0 : ∀ x ∈ l, 0 ≤ x := fun x hx => (hu x hx).1
  intro m
  induction m with
  | zero =>
    intro p r I
    exact ⟨p, r, I, Ev.step (f := fun _ => some (p, 0)) (fun k => by simp only [num_Share.l1]; rw [if_neg (by omega)]) (Ev.now _), Ev.step (f := fun _ => some (p, 0)) (fun k => by simp only [bourseref01_Share.l1]; rw [if_neg (by omega)]) (Ev.now _)⟩
  | succ m ih =>
    intro p r I
    have hn : 0 < l.length := by
      rcases Nat.eq_zero_or_pos l.length with h | h
      · have : l = [] := List.length_eq_zero_iff.1 h
        rw [this] at hS
        simp [tot] at hS
      · exact h
    have hrr : ∀ x ∈ r, 0 ≤ x ∧ x < 18446744073709551616 := by
      intro x hx
      obtain ⟨j, hj, rfl⟩ := List.mem_iff_getElem.1 hx
      have hj' : j < l.length := by rw [← I.lr]; exact hj
      have e : r[j] = r.getD j 0 := by rw [List.getD_eq_getElem?_getD, List.getElem?_eq_getElem hj]; rfl
      have b0 := Int.emod_nonneg (a * l.getD j 0) (show tot l ≠ 0 by omega)
      have b1 := Int.emod_lt_of_pos (a * l.getD j 0) hS
      rcases I.each j hj' with h | h <;> omega
    obtain ⟨c, c1, c2, c3, c4⟩ := best_go p r ((m + 1 : Nat) : Int) (by rw [I.lr]; omega) (by rw [I.lp, I.lr]) r.length 0 0 (by omega) (by rw [I.lr]; exact hn) (fun j hj => by omega) (fun j hj => by omega)
    obtain ⟨c', c1', c2', c3', c4'⟩ := rbest_go p r ((m + 1 : Nat) : Int) (by rw [I.lr]; exact hl) hrr (by rw [I.lp, I.lr]) (r.length - 1) 1 0 (by have := I.lr; omega) (by rw [I.lr]; exact hn) (fun j hj => by (obtain rfl : j = 0 := (by omega)); exact Int.le_refl _) (fun j hj => by omega)
    have hcc : c' = c := by
      rcases Nat.lt_trichotomy c c' with h | h | h
      · have h1 := c3' c h
        have h2 := c2 c' c1'
        omega
      · exact h.symm
      · have h1 := c3 c' h
        have h2 := c2' c c1
        omega
    subst hcc
    obtain ⟨w1, I'⟩ := I.step hl0 hS (by omega) c' (by rw [← I.lr]; exact c1) (fun j hj => c2 j (by rw [I.lr]; exact hj)) c3 ha ha0
    have em : ((m + 1 : Nat) : Int) - 1 = (m : Int) := by omega
    rw [em] at I'
    obtain ⟨q, z, Iq, hq, hq'⟩ := ih _ _ I'
    have hs := I.sum
    have hpn : 0 ≤ tot p := by
      have pnn : ∀ x ∈ p, 0 ≤ x := by
        intro x hx
        obtain ⟨j, hj, rfl⟩ := List.mem_iff_getElem.1 hx
        have hj' : j < l.length := by rw [← I.lp]; exact hj
        have e : p[j] = p.getD j 0 := by rw [List.getD_eq_getElem?_getD, List.getElem?_eq_getElem hj]; rfl
        have b0 : 0 ≤ a * l.getD j 0 / tot l := Int.ediv_nonneg (Int.mul_nonneg ha0 (hl0 _ (getD_mem l j hj'))) (by omega)
        rcases I.each j hj' with h | h <;> omega
      exact tot_nonneg p pnn
    refine ⟨q, z, Iq, Ev.step (f := fun k => num_Share.l2 k p r ((m + 1 : Nat) : Int) 0 r (r.length : Int) 0) (fun k => by simp only [num_Share.l1]; rw [if_pos (by omega)]) (c4 _ ?_), Ev.step (f := fun k => bourseref01_Share.l2 k p (Ds r) ((m + 1 : Nat) : Int) 0 1) (fun k => by simp only [bourseref01_Share.l1]; rw [if_pos (by omega)]) (c4' _ ?_)⟩
    · rw [w1, em, wr (m : Int) (by omega) (by omega)]
      exact hq
    · rw [w1, em, wr (m : Int) (by omega) (by omega)]
      exact hq'

theorem both_share (a : Int) (l : List Int) (ha : 0 ≤ a) (ha' : a < 18446744073709551616) (hl : l.length ≤ 1048576) (hu : Us l) : ∃ q e, q.length ≤ l.length ∧ Ev (fun k => num_Share.f k a l) (q, e) ∧ Ev (fun k => bourseref01_Share.f k a l) (q, e) := by
  by_cases hn : l = []
  · subst hn
    exact ⟨[], 1, Nat.le_refl _, share_nil a, Ev.now _⟩
  have hn2 : ¬ ((l.length : Nat) : Int) = 0 := by
    intro h
    exact hn (List.length_eq_zero_iff.1 (by omega))
  have hse := rsum_ev l (by omega) hu
  by_cases hg : 0 < tot l ∧ tot l < 18446744073709551616
  · obtain ⟨hS, hS'⟩ := hg
    have hnn : ∀ x ∈ l, 0 ≤ x := fun x hx => (hu x hx).1
    have hsum := pl_rl a (tot l) l
    have hr0 := tot_nonneg _ (rl_nonneg a (tot l) l hS)
    have htot : tot (pl a (tot l) l) ≤ a := by
      have : tot l * tot (pl a (tot l) l) ≤ tot l * a := by rw [Int.mul_comm (tot l) a]; omega
      exact Int.le_of_mul_le_mul_left this hS
    have hp0 := tot_nonneg _ (pl_nonneg a (tot l) l ha hS hnn)
    obtain ⟨m, hm⟩ : ∃ m : Nat, a - tot (pl a (tot l) l) = (m : Int) := ⟨(a - tot (pl a (tot l) l)).toNat, by omega⟩
    have I : Inv a l (pl a (tot l) l) (rl a (tot l) l) m := by
      refine ⟨pl_length _ _ _, rl_length _ _ _, by omega, by omega, ?_, fun i hi => .inl ⟨pl_getD _ _ _ _ hi, rl_getD _ _ _ _ hi⟩, fun i j hij hi hw => ?_⟩
      · rw [← hm, Int.mul_sub]
        have := Int.mul_comm (tot l) a
        omega
      · rw [pl_getD _ _ _ _ hi, pl_getD _ _ _ _ (by omega), hw]
        exact Int.le_refl _
    obtain ⟨q, z, Iq, hq, hq'⟩ := both_second a l hl hu hS hS' ha' ha m _ _ I
    rw [← hm] at hq hq'
    have hf := share_first a l ha ha' (by omega) hu hS hS' _ hq l.length 0 (by omega)
    have hf' := rshare_first a l ha ha' hl hu hS hS' _ hq' l.length 0 (by omega)
    have hse' := sum_ev l (by omega) hu
    rw [if_pos hS'] at hse hse'
    refine ⟨q, 0, by rw [Iq.lp]; exact Nat.le_refl _, ?_, ?_⟩
    · unfold num_Share.f
      refine Ev.congr (fun k => if_neg hn2) (Ev.bind (f := fun (k : Nat) (bt381 : Int × Int) => (if bt381.2 = 0 then (if bt381.1 = 0 then (some (([] : List Int), 11)) else (if 0 ≤ (l.length : Int) then (if ((l.length : Int) : Int).toNat ≤ 35184372088832 then (num_Share.l0 k a bt381.1 (List.replicate ((l.length : Int) : Int).toNat 0) (List.replicate ((l.length : Int) : Int).toNat 0) a l (l.length : Int) 0) else (none)) else (none))) else (some (([] : List Int), bt381.2)))) hse' ?_)
      refine Ev.congr (fun k => (if_pos rfl).trans ((if_neg (by show ¬ tot l = 0; omega)).trans ((if_pos (by omega)).trans (if_pos (by omega))))) ?_
      simp only [Int.toNat_natCast]
      simpa [tot] using hf
    · unfold bourseref01_Share.f
      refine Ev.congr (fun k => if_neg hn2) (Ev.bind (f := fun (k : Nat) (bt402 : Int × Int) => (if bt402.2 = 0 then (if bt402.1 = 0 then (some (([] : List Int), 11)) else (bourseref01_Share.l0 k a l bt402.1 (([] : List Int)) (([] : List (List Int))) a 0)) else (some (([] : List Int), bt402.2)))) hse ?_)
      refine Ev.congr (fun k => (if_pos rfl).trans (if_neg (by show ¬ tot l = 0; omega))) ?_
      simpa [tot, Ds] using hf'
  · have h0 := tot_nonneg l (fun x hx => (hu x hx).1)
    refine ⟨[], if tot l < 18446744073709551616 then 11 else 10, by simp, share_no a l (by omega) hu hn hg, ?_⟩
    unfold bourseref01_Share.f
    refine Ev.congr (fun k => if_neg hn2) (Ev.bind (f := fun (k : Nat) (bt402 : Int × Int) => (if bt402.2 = 0 then (if bt402.1 = 0 then (some (([] : List Int), 11)) else (bourseref01_Share.l0 k a l bt402.1 (([] : List Int)) (([] : List (List Int))) a 0)) else (some (([] : List Int), bt402.2)))) hse ?_)
    by_cases h1 : tot l < 18446744073709551616
    · rw [if_pos h1, if_pos h1]
      exact Ev.congr (fun k => (if_pos rfl).trans (if_pos (by show tot l = 0; omega))) (Ev.now _)
    · rw [if_neg h1, if_neg h1]
      exact Ev.congr (fun k => (if_neg (by decide))) (Ev.now _)
end Go.Proofs.Ytopekdmipnpnaaa.NumShB
