/- ClearingBears: every Bear is the document's; what is handed in stays. -/
import Derived.Test.YtopekdmipnpnaaaBearC
import Derived.Test.YtopekdmipnpnaaaNumShB
import Derived.Test.YtopekdmipnpnaaaPBeax8
import Derived.Test.YtopekdmipnpnaaaPBeax9
namespace Go.Proofs.Ytopekdmipnpnaaa.BearP
open Go.RowKit Go.Proofs.Ytopekdmipnpnaaa.PBea Go.Proofs.Ytopekdmipnpnaaa.NumA Go.Proofs.Ytopekdmipnpnaaa.NumDiv Go.Proofs.Ytopekdmipnpnaaa.NumSh Go.Proofs.Ytopekdmipnpnaaa.NumShB Go.Proofs.Ytopekdmipnpnaaa.Big Go.Proofs.YtopekdmipnpnaaaW.PrintWords Go.Proofs.YtopekdmipnpnaaaW.PrintLast Go.Proofs.YtopekdmipnpnaaaW.PrintMore
set_option linter.unusedVariables false
set_option linter.unusedSimpArgs false

/-- The cents of the funds. -/
def cents (l : List S45) : List Int := l.map (·.f1)
theorem cents_length (l : List S45) : (cents l).length = l.length := by simp [cents]
theorem cents_take (l : List S45) (i : Nat) (h : i < l.length) : (cents l).take i ++ [(rd_T45 l (i : Int)).f1] = (cents l).take (i + 1) := by
  rw [List.take_succ_eq_append_getElem (by rw [cents_length]; exact h)]
  unfold rd_T45 cents
  rw [Int.toNat_natCast, List.getD_eq_getElem?_getD, List.getElem?_eq_getElem h]
  simp
theorem cents_getD (l : List S45) (i : Nat) (h : i < l.length) : (cents l).getD i 0 = (rd_T45 l (i : Int)).f1 := by
  unfold rd_T45 cents
  rw [Int.toNat_natCast, List.getD_eq_getElem?_getD, List.getD_eq_getElem?_getD, List.getElem?_map, List.getElem?_eq_getElem h]
  rfl

theorem lesser_mn (a b : Int) : bourseref22_lesser.f a b = some (mn a b) := by
  unfold bourseref22_lesser.f mn
  by_cases h : a < b
  · rw [if_pos h, if_neg (by omega)]
  · rw [if_neg h]
    by_cases h2 : b < a
    · rw [if_pos h2]
    · rw [if_neg h2, show a = b by omega]

/-- What is borne by whom: the house's own, the house, the others' part, what is left. -/
def own (a0 a1 : Int) : Int := mn a0 a1
def hou (a0 a1 a2 : Int) : Int := mn (IntKind.u64.wrap (a0 - own a0 a1)) a2
def rst (a0 a1 a2 : Int) : Int := IntKind.u64.wrap ((IntKind.u64.wrap (a0 - own a0 a1)) - hou a0 a1 a2)
def shr (a0 a1 a2 t : Int) : Int := mn (rst a0 a1 a2) t
def lft (a0 a1 a2 t : Int) : Int := IntKind.u64.wrap (rst a0 a1 a2 - shr a0 a1 a2 t)

def bears (a0 a1 a2 : Int) (l : List S45) (q : List Int) : Int × Int × List Int × Int × Int :=
  if tot (cents l) < 18446744073709551616 then (if tot (cents l) > 0 then (own a0 a1, hou a0 a1 a2, q, lft a0 a1 a2 (tot (cents l)), 0) else (own a0 a1, hou a0 a1 a2, List.replicate l.length 0, lft a0 a1 a2 (tot (cents l)), 0)) else (0, 0, [], 0, 10)

section
variable (a0 a1 a2 : Int) (l : List S45) (q : List Int) (e : Int) (hl : l.length ≤ 1048576) (hu : Us (cents l))
include hl hu

theorem bear_go (hq : Ev (fun k => num_Share.f k (shr a0 a1 a2 (tot (cents l))) (cents l)) (q, e)) : ∀ (d i : Nat), i + d = l.length →
    Ev (fun k => clearing_Bear.l0 k a0 a1 a2 l ((cents l).take i) l (l.length : Int) (i : Int)) (bears a0 a1 a2 l q) := by
  intro d
  induction d with
  | zero =>
    intro i hi
    obtain rfl : i = l.length := by omega
    have ht : (cents l).take l.length = cents l := by rw [← cents_length l, List.take_length]
    rw [ht]
    obtain ⟨K1, k1⟩ := sum_ev (cents l) (by rw [cents_length]; omega) hu
    obtain ⟨K2, k2⟩ := hq
    refine ⟨K1 + K2 + 1, fun k hk => ?_⟩
    obtain ⟨m, rfl⟩ : ∃ m, k = m + 1 := ⟨k - 1, by omega⟩
    have k1 : num_Sum.f m (cents l) = some (if tot (cents l) < 18446744073709551616 then (tot (cents l), 0) else (0, 10)) := k1 m (by omega)
    have k2 : num_Share.f m (shr a0 a1 a2 (tot (cents l))) (cents l) = some (q, e) := k2 m (by omega)
    show clearing_Bear.l0 (m + 1) a0 a1 a2 l (cents l) l (l.length : Int) (l.length : Int) = some (bears a0 a1 a2 l q)
    simp only [clearing_Bear.l0]
    rw [if_neg (by omega), k1]
    unfold bears
    by_cases h : tot (cents l) < 18446744073709551616
    · rw [if_pos h, if_pos h, Option.bind_some, if_pos rfl, if_pos (by omega), if_pos (by omega)]
      by_cases h2 : tot (cents l) > 0
      · rw [if_pos h2, if_pos h2]
        show (num_Share.f m (shr a0 a1 a2 (tot (cents l))) (cents l)).bind _ = _
        rw [k2]
        rfl
      · rw [if_neg h2, if_neg h2, Int.toNat_natCast]
        rfl
    · rw [if_neg h, if_neg h, Option.bind_some, if_neg (by decide)]
  | succ d ih =>
    intro i hi
    have hlt : i < l.length := by omega
    refine Ev.step (f := fun k => clearing_Bear.l0 k a0 a1 a2 l ((cents l).take (i + 1)) l (l.length : Int) ((i + 1 : Nat) : Int)) (fun k => ?_) (ih (i + 1) (by omega))
    simp only [clearing_Bear.l0]
    rw [if_pos (by omega), if_pos (by omega), if_pos (by omega), if_pos (by rw [List.length_take, cents_length]; omega), cents_take l i hlt, wrap_step i l.length hlt (by omega)]

theorem rbear_go (hq : Ev (fun k => bourseref01_Share.f k (shr a0 a1 a2 (tot (cents l))) (cents l)) (q, e)) : ∀ (d i : Nat), i + d = l.length → tot ((cents l).take i) < 18446744073709551616 →
    Ev (fun k => bourseref22_Bear.l0 k a0 a1 a2 l (tot ((cents l).take i)) ((cents l).take i) (i : Int)) (bears a0 a1 a2 l q) := by
  intro d
  induction d with
  | zero =>
    intro i hi hti
    obtain rfl : i = l.length := by omega
    have ht : (cents l).take l.length = cents l := by rw [← cents_length l, List.take_length]
    rw [ht] at hti ⊢
    obtain ⟨K2, k2⟩ := hq
    refine ⟨K2 + 1, fun k hk => ?_⟩
    obtain ⟨m, rfl⟩ : ∃ m, k = m + 1 := ⟨k - 1, by omega⟩
    have k2 : bourseref01_Share.f m (shr a0 a1 a2 (tot (cents l))) (cents l) = some (q, e) := k2 m (by omega)
    show bourseref22_Bear.l0 (m + 1) a0 a1 a2 l (tot (cents l)) (cents l) (l.length : Int) = some (bears a0 a1 a2 l q)
    simp only [bourseref22_Bear.l0, lesser_mn]
    rw [if_neg (by omega), Option.bind_some, if_pos (by omega), if_pos (by omega), Option.bind_some, Option.bind_some]
    unfold bears
    rw [if_pos hti]
    by_cases h2 : tot (cents l) > 0
    · rw [if_pos h2, if_pos h2]
      show (bourseref01_Share.f m (shr a0 a1 a2 (tot (cents l))) (cents l)).bind _ = _
      rw [k2]
      rfl
    · rw [if_neg h2, if_neg h2, Int.toNat_natCast]
      rfl
  | succ d ih =>
    intro i hi hti
    have hlt : i < l.length := by omega
    have hlc : i < (cents l).length := by rw [cents_length]; exact hlt
    have hx := hu _ (getD_mem (cents l) i hlc)
    have h0 := tot_nonneg ((cents l).take i) (fun y hy => (hu y (List.mem_of_mem_take hy)).1)
    have ha := radd_ev (tot ((cents l).take i)) ((cents l).getD i 0) h0 hti hx.1 hx.2
    rw [← tot_take (cents l) i hlc] at ha
    refine Ev.step (f := fun k => (bourseref01_Add.f k (tot ((cents l).take i)) ((cents l).getD i 0)).bind fun bt309 => (if bt309.2 = 0 then (bourseref22_Bear.l0 k a0 a1 a2 l bt309.1 ((cents l).take (i + 1)) ((i + 1 : Nat) : Int)) else (some (0, 0, ([] : List Int), 0, bt309.2)))) (fun k => ?_) ?_
    · simp only [bourseref22_Bear.l0]
      rw [if_pos (by omega), if_pos (by omega), cents_take l i hlt, wrap_step i l.length hlt (by omega), ← cents_getD l i hlt]
      have hlen : ((cents l).take i).length < 17592186044416 := by rw [List.length_take, cents_length]; omega
      simp only [if_pos hlen]
    · refine Ev.bind (f := fun (k : Nat) (bt309 : Int × Int) => (if bt309.2 = 0 then (bourseref22_Bear.l0 k a0 a1 a2 l bt309.1 ((cents l).take (i + 1)) ((i + 1 : Nat) : Int)) else (some (0, 0, ([] : List Int), 0, bt309.2)))) ha ?_
      by_cases h : tot ((cents l).take (i + 1)) < 18446744073709551616
      · rw [if_pos h]
        exact Ev.congr (fun k => if_pos rfl) (ih (i + 1) (by omega) h)
      · rw [if_neg h]
        have := tot_le_take (cents l) (fun y hy => (hu y hy).1) (i + 1)
        unfold bears
        rw [if_neg (by omega)]
        exact Ev.congr (fun k => if_neg (by decide)) (Ev.now _)
end

theorem mn_range {a b : Int} (ha : 0 ≤ a) (ha' : a < 18446744073709551616) (hb : 0 ≤ b) : 0 ≤ mn a b ∧ mn a b < 18446744073709551616 := by
  unfold mn
  split <;> omega

theorem both_bear (a0 a1 a2 : Int) (l : List S45) (hl : l.length ≤ 1048576) (hu : Us (cents l)) :
    ∃ q, q.length ≤ l.length ∧ Ev (fun k => clearing_Bear.f k a0 a1 a2 l) (bears a0 a1 a2 l q) ∧ Ev (fun k => bourseref22_Bear.f k a0 a1 a2 l) (bears a0 a1 a2 l q) := by
  have hr : 0 ≤ rst a0 a1 a2 ∧ rst a0 a1 a2 < 18446744073709551616 := by
    unfold rst
    rw [IntKind.wrap_u64]
    omega
  have ht := tot_nonneg (cents l) (fun y hy => (hu y hy).1)
  have hs : 0 ≤ shr a0 a1 a2 (tot (cents l)) ∧ shr a0 a1 a2 (tot (cents l)) < 18446744073709551616 := mn_range hr.1 hr.2 ht
  obtain ⟨q, e, hq, h1, h2⟩ := both_share (shr a0 a1 a2 (tot (cents l))) (cents l) hs.1 hs.2 (by rw [cents_length]; exact hl) hu
  rw [cents_length] at hq
  have b1 := bear_go a0 a1 a2 l q e hl hu h1 l.length 0 (by omega)
  have b2 := rbear_go a0 a1 a2 l q e hl hu h2 l.length 0 (by omega) (by simp [tot])
  exact ⟨q, hq, b1, b2⟩

theorem cents_same (l : List Int) (hl : l.length ≤ 2000000) : ∀ (d i : Nat), i + d = l.length → Ev (fun k => bourselaw22_sameCents.l0 k l l (i : Int)) true := by
  intro d
  induction d with
  | zero =>
    intro i hi
    exact Ev.step (f := fun _ => some true) (fun k => by simp only [bourselaw22_sameCents.l0]; rw [if_neg (by omega)]) (Ev.now _)
  | succ d ih =>
    intro i hi
    refine Ev.step (f := fun k => bourselaw22_sameCents.l0 k l l ((i + 1 : Nat) : Int)) (fun k => ?_) (ih (i + 1) (by omega))
    simp only [bourselaw22_sameCents.l0]
    rw [if_pos (by omega), if_pos (by omega), if_pos (by omega), if_pos trivial, wrap_step i l.length (by omega) (by omega)]
theorem cover_same (x y z : Int) (l : List Int) (hl : l.length ≤ 2000000) : Ev (fun k => bourselaw22_sameCover.f k x y l z x y l z) true := by
  have h : Ev (fun k => bourselaw22_sameCents.f k l l) true := Ev.congr (fun k => if_pos rfl) (cents_same l hl l.length 0 (by omega))
  obtain ⟨K, hK⟩ := h
  refine ⟨K, fun k hk => ?_⟩
  have h1 : bourselaw22_sameCents.f k l l = some true := hK k hk
  show bourselaw22_sameCover.f k x y l z x y l z = some true
  unfold bourselaw22_sameCover.f
  rw [if_pos rfl, if_pos rfl, if_pos rfl, h1]
  rfl

theorem law_go (L : List S45) (hL : L.length ≤ 1048576) (x y z e : Int) (c : List Int) (hc : c.length ≤ 2000000) : ∀ (d i : Nat), i + d = L.length →
    Ev (fun k => bourselaw22_ClearingBears.l0 k L L e e (i : Int) x y c z x y c z) true := by
  intro d
  induction d with
  | zero =>
    intro i hi
    obtain ⟨K, hK⟩ := cover_same x y z c hc
    refine ⟨K + 1, fun k hk => ?_⟩
    obtain ⟨m, rfl⟩ : ∃ m, k = m + 1 := ⟨k - 1, by omega⟩
    have h1 : bourselaw22_sameCover.f m x y c z x y c z = some true := hK m (by omega)
    show bourselaw22_ClearingBears.l0 (m + 1) L L e e (i : Int) x y c z x y c z = some true
    simp only [bourselaw22_ClearingBears.l0]
    rw [if_neg (by omega), if_pos trivial, h1]
    rfl
  | succ d ih =>
    intro i hi
    refine Ev.step (f := fun k => bourselaw22_ClearingBears.l0 k L L e e ((i + 1 : Nat) : Int) x y c z x y c z) (fun k => ?_) (ih (i + 1) (by omega))
    simp only [bourselaw22_ClearingBears.l0]
    rw [if_pos (by omega), if_pos (by omega), if_pos (by omega), if_neg (by simp), wrap_step i L.length (by omega) (by omega)]

theorem ClearingBears (a0 a1 a2 : Int) (l : List S45) (hl : l.length ≤ 1048576) (hu : Us (cents l)) : ∃ k, bourselaw22_ClearingBears.f k a0 a1 a2 l = some true := by
  obtain ⟨q, hq, ⟨K1, k1⟩, ⟨K2, k2⟩⟩ := both_bear a0 a1 a2 l hl hu
  obtain ⟨x, y, c, z, e, hb⟩ : ∃ x y c z e, bears a0 a1 a2 l q = (x, y, c, z, e) := ⟨_, _, _, _, _, rfl⟩
  have hc : c.length ≤ 2000000 := by
    unfold bears at hb
    split at hb
    · split at hb
      · have : c = q := by injection hb with _ hb; injection hb with _ hb; injection hb with hb _; exact hb.symm
        rw [this]; omega
      · have : c = List.replicate l.length 0 := by injection hb with _ hb; injection hb with _ hb; injection hb with hb _; exact hb.symm
        rw [this, List.length_replicate]; omega
    · have : c = [] := by injection hb with _ hb; injection hb with _ hb; injection hb with hb _; exact hb.symm
      rw [this]; simp
  obtain ⟨K3, k3⟩ := law_go l hl x y z e c hc l.length 0 (by omega)
  refine ⟨K1 + K2 + K3, ?_⟩
  have k1 : clearing_Bear.f (K1 + K2 + K3) a0 a1 a2 l = some (x, y, c, z, e) := (k1 _ (by omega)).trans (by rw [hb])
  have k2 : bourseref22_Bear.f (K1 + K2 + K3) a0 a1 a2 l = some (x, y, c, z, e) := (k2 _ (by omega)).trans (by rw [hb])
  have k3 : bourselaw22_ClearingBears.l0 (K1 + K2 + K3) l l e e 0 x y c z x y c z = some true := k3 _ (by omega)
  unfold bourselaw22_ClearingBears.f
  rw [Option.bind_some, List.length_nil, if_pos (by omega), Option.bind_some, List.nil_append, k1, Option.bind_some, k2, Option.bind_some]
  exact k3
end Go.Proofs.Ytopekdmipnpnaaa.BearP
