/- NumShared: of any amount and any weights: the parts add up. No condition. -/
import Derived.Test.YthmjmkbahneneaaPNumx11
import Derived.Test.YthmjmkbahneneaaNumSh
namespace Go.Proofs.Ythmjmkbahneneaa.Pure
open Go.RowKit Go.Proofs.Ythmjmkbahneneaa.PNum Go.Proofs.Ythmjmkbahneneaa.NumA Go.Proofs.Ythmjmkbahneneaa.NumDiv Go.Proofs.Ythmjmkbahneneaa.NumPt Go.Proofs.Ythmjmkbahneneaa.NumSh Go.Proofs.YthmjmkbahneneaaW.PrintWords Go.Proofs.YthmjmkbahneneaaW.PrintLast

/-- What is known of amount, weights and parts. -/
structure Sh (a : Int) (l q z : List Int) : Prop where
  ha : 0 ≤ a
  ha' : a < 18446744073709551616
  hl : l.length ≤ 17592186044416
  hu : Us l
  hS : 0 < tot l
  hS' : tot l < 18446744073709551616
  I : Inv a l q z 0

theorem sh_bounds (a : Int) (l q z : List Int) (X : Sh a l q z) (i : Nat) (hi : i < l.length) : 0 ≤ q.getD i 0 ∧ q.getD i 0 ≤ a := by
  obtain ⟨ha, ha', hl, hu, hS, hS', I⟩ := X
  have pnn : ∀ x ∈ q, 0 ≤ x := by
    intro x hx
    obtain ⟨j, hj, rfl⟩ := List.mem_iff_getElem.1 hx
    have hj' : j < l.length := by rw [← I.lp]; exact hj
    have e : q[j] = q.getD j 0 := by rw [List.getD_eq_getElem?_getD, List.getElem?_eq_getElem hj]; rfl
    have b0 : 0 ≤ a * l.getD j 0 / tot l := Int.ediv_nonneg (Int.mul_nonneg ha (hu _ (getD_mem l j hj')).1) (by omega)
    rcases I.each j hj' with h | h <;> omega
  have hm := getD_mem q i (by rw [I.lp]; exact hi)
  have := tot_mem q _ pnn hm
  have := I.sum
  exact ⟨pnn _ hm, by omega⟩

theorem sh_us (a : Int) (l q z : List Int) (X : Sh a l q z) : Us q := by
  obtain ⟨ha, ha', hl, hu, hS, hS', I⟩ := X
  intro x hx
  obtain ⟨j, hj, rfl⟩ := List.mem_iff_getElem.1 hx
  have hj' : j < l.length := by rw [← I.lp]; exact hj
  have e : q[j] = q.getD j 0 := by rw [List.getD_eq_getElem?_getD, List.getElem?_eq_getElem hj]; rfl
  have := sh_bounds a l q z ⟨ha, ha', hl, hu, hS, hS', I⟩ j hj'
  omega

theorem sh_inner (a : Int) (l q z : List Int) (X : Sh a l q z) (i : Nat) (hi : i < l.length) (H : Ev (fun k => bourselaw01_NumShared.l0 k a l q (tot l) ((i + 1 : Nat) : Int)) true) : ∀ (d j : Nat), j + d = i → Ev (fun k => bourselaw01_NumShared.l1 k a l q (tot l) (i : Int) (j : Int)) true := by
  obtain ⟨ha, ha', hl, hu, hS, hS', I⟩ := X
  intro d
  induction d with
  | zero =>
    intro j hj
    obtain rfl : j = i := by omega
    refine Ev.step (f := fun k => bourselaw01_NumShared.l0 k a l q (tot l) ((j + 1 : Nat) : Int)) (fun k => ?_) H
    simp only [bourselaw01_NumShared.l1]
    rw [if_neg (by omega), wrap_step j l.length hi hl]
  | succ d ih =>
    intro j hj
    refine Ev.step (f := fun k => bourselaw01_NumShared.l1 k a l q (tot l) (i : Int) ((j + 1 : Nat) : Int)) (fun k => ?_) (ih (j + 1) (by omega))
    simp only [bourselaw01_NumShared.l1]
    have hlq := I.lp
    rw [if_pos (by omega), if_pos (by omega), if_pos (by omega), if_pos (by omega), if_pos (by omega), rd_nat, rd_nat, wrap_step j l.length (by omega) hl]
    by_cases hw : l.getD i 0 = l.getD j 0
    · have := I.ord i j (by omega) hi hw
      rw [if_pos hw, if_pos (by omega), if_pos (by omega), rd_nat, rd_nat, if_neg (by omega)]
    · rw [if_neg hw]

theorem sh_part (a : Int) (l q z : List Int) (X : Sh a l q z) (i : Nat) (hi : i < l.length) : partV a (l.getD i 0) (tot l) 0 = (a * l.getD i 0 / tot l, 0) := by
  obtain ⟨ha, ha', hl, hu, hS, hS', I⟩ := X
  have hnn : ∀ x ∈ l, 0 ≤ x := fun x hx => (hu x hx).1
  have hle := tot_mem l _ hnn (getD_mem l i hi)
  have hlt2 : a * l.getD i 0 < tot l * 18446744073709551616 := by
    have h1 : a * l.getD i 0 ≤ a * tot l := Int.mul_le_mul_of_nonneg_left hle ha
    have h2 : a * tot l < 18446744073709551616 * tot l := Int.mul_lt_mul_of_pos_right ha' hS
    omega
  have := Int.ediv_lt_of_lt_mul (by decide) hlt2
  unfold partV
  rw [if_neg (by decide), if_neg (by omega), if_neg (by omega)]
  unfold done
  rw [if_neg (by simp [upB])]

theorem sh_outer (a : Int) (l q z : List Int) (X : Sh a l q z) : ∀ (d i : Nat), i + d = l.length → Ev (fun k => bourselaw01_NumShared.l0 k a l q (tot l) (i : Int)) true := by
  obtain ⟨ha, ha', hl, hu, hS, hS', I⟩ := X
  intro d
  induction d with
  | zero =>
    intro i hi
    have hlq := I.lp
    exact Ev.step (f := fun _ => some true) (fun k => by simp only [bourselaw01_NumShared.l0]; rw [if_neg (by omega)]) (Ev.now _)
  | succ d ih =>
    intro i hi
    have hlt : i < l.length := by omega
    have hlq := I.lp
    have hin := sh_inner a l q z ⟨ha, ha', hl, hu, hS, hS', I⟩ i hlt (ih (i + 1) (by omega)) i 0 (by omega)
    have hj3 : Ev (fun k => bourselaw01_NumShared.j3 k a l q (tot l) (i : Int) false) true :=
      Ev.step (f := fun k => bourselaw01_NumShared.l1 k a l q (tot l) (i : Int) 0) (fun k => by simp only [bourselaw01_NumShared.j3]; rw [if_neg (by decide)]) hin
    have hx := hu _ (getD_mem l i hlt)
    have hp := part_ev a (l.getD i 0) (tot l) 0 ha ha' hx.1 hx.2 (by omega) hS'
    rw [sh_part a l q z ⟨ha, ha', hl, hu, hS, hS', I⟩ i hlt] at hp
    have hb := sh_bounds a l q z ⟨ha, ha', hl, hu, hS, hS', I⟩ i hlt
    refine Ev.step (f := fun k => (num_Part.f k a (l.getD i 0) (tot l) 0).bind fun bt527 => (if bt527.2 = 0 then (if q.getD i 0 = bt527.1 then (if l.getD i 0 = 0 then (bourselaw01_NumShared.j3 k a l q (tot l) (i : Int) (q.getD i 0 != 0)) else (bourselaw01_NumShared.j3 k a l q (tot l) (i : Int) false)) else (if q.getD i 0 = (IntKind.u64.wrap (bt527.1 + 1)) then (if l.getD i 0 = 0 then (bourselaw01_NumShared.j3 k a l q (tot l) (i : Int) (q.getD i 0 != 0)) else (bourselaw01_NumShared.j3 k a l q (tot l) (i : Int) false)) else (bourselaw01_NumShared.j3 k a l q (tot l) (i : Int) true))) else (bourselaw01_NumShared.j3 k a l q (tot l) (i : Int) true))) (fun k => ?_) ?_
    · simp only [bourselaw01_NumShared.l0]
      rw [if_pos (by omega), if_pos (by omega), if_pos (by omega), rd_nat, rd_nat]
    refine Ev.bind (f := fun (k : Nat) (bt527 : Int × Int) => (if bt527.2 = 0 then (if q.getD i 0 = bt527.1 then (if l.getD i 0 = 0 then (bourselaw01_NumShared.j3 k a l q (tot l) (i : Int) (q.getD i 0 != 0)) else (bourselaw01_NumShared.j3 k a l q (tot l) (i : Int) false)) else (if q.getD i 0 = (IntKind.u64.wrap (bt527.1 + 1)) then (if l.getD i 0 = 0 then (bourselaw01_NumShared.j3 k a l q (tot l) (i : Int) (q.getD i 0 != 0)) else (bourselaw01_NumShared.j3 k a l q (tot l) (i : Int) false)) else (bourselaw01_NumShared.j3 k a l q (tot l) (i : Int) true))) else (bourselaw01_NumShared.j3 k a l q (tot l) (i : Int) true))) hp ?_
    refine Ev.congr (fun k => if_pos rfl) ?_
    rcases I.each i hlt with h | h
    · refine Ev.congr (fun k => if_pos h.1) ?_
      by_cases h0 : l.getD i 0 = 0
      · have e : (q.getD i 0 != 0) = false := by
          rw [h.1, h0, Int.mul_zero, Int.zero_ediv]
          rfl
        rw [e]
        exact Ev.congr (fun k => if_pos h0) hj3
      · exact Ev.congr (fun k => if_neg h0) hj3
    · refine Ev.congr (fun k => if_neg (by show ¬ q.getD i 0 = a * l.getD i 0 / tot l; omega)) ?_
      have b0 : 0 ≤ a * l.getD i 0 / tot l := Int.ediv_nonneg (Int.mul_nonneg ha hx.1) (by omega)
      refine Ev.congr (fun k => if_pos (by show q.getD i 0 = IntKind.u64.wrap (a * l.getD i 0 / tot l + 1); rw [wr _ (by omega) (by omega)]; exact h.1)) ?_
      refine Ev.congr (fun k => if_neg (fun h0 => ?_)) hj3
      have := h.2.2
      rw [h0, Int.mul_zero, Int.zero_emod] at this
      omega

theorem NumShared : bourselaw01_NumShared.Pure := by
  intro a l wa hlm hl8 hw
  obtain ⟨ha, ha'⟩ := of_wf wa
  have hu : Us l := fun x hx => of_wf (hw x hx)
  have hl : l.length ≤ 17592186044416 := by omega
  refine Ev.rounds ?_
  unfold bourselaw01_NumShared.f
  simp only [Option.bind_some, List.nil_append, List.length_nil, Nat.zero_add]
  refine Ev.congr (fun k => if_pos (by omega)) ?_
  have hs := sum_ev l hl hu
  by_cases hn : l = []
  · subst hn
    refine Ev.bind (f := fun (k : Nat) (bt506 : List Int × Int) => _) (share_nil a) ?_
    refine Ev.congr (fun k => if_pos (by decide)) ?_
    refine Ev.bind (f := fun (k : Nat) (bt516 : Int × Int) => _) hs ?_
    exact Ev.now _
  have hn2 : ¬ ((l.length : Nat) : Int) = 0 := by
    intro h
    exact hn (List.length_eq_zero_iff.1 (by omega))
  by_cases hg : 0 < tot l ∧ tot l < 18446744073709551616
  · obtain ⟨hS, hS'⟩ := hg
    obtain ⟨q, z, I, hq⟩ := share_ev a l ha ha' hl hu hS hS'
    have huq := sh_us a l q z ⟨ha, ha', hl, hu, hS, hS', I⟩
    have hlq := I.lp
    have hsq := sum_ev q (by omega) huq
    have hsum := I.sum
    rw [if_pos (by omega)] at hsq
    rw [if_pos hS'] at hs
    have hout := sh_outer a l q z ⟨ha, ha', hl, hu, hS, hS', I⟩ l.length 0 (by omega)
    have hj1 : Ev (fun k => bourselaw01_NumShared.j1 k a l q (tot l) false) true :=
      Ev.step (f := fun k => bourselaw01_NumShared.l0 k a l q (tot l) 0) (fun k => by simp only [bourselaw01_NumShared.j1]; rw [if_neg (by decide)]) hout
    have hj0 : Ev (fun k => bourselaw01_NumShared.j0 k a l q 0 (tot l) 0 false) true := by
      refine Ev.step (f := fun k => (num_Sum.f k q).bind fun bt524 => if bt524.2 = 0 then bourselaw01_NumShared.j1 k a l q (tot l) (bt524.1 != a) else bourselaw01_NumShared.j1 k a l q (tot l) true) (fun k => ?_) ?_
      · simp only [bourselaw01_NumShared.j0, Option.bind_some, List.nil_append, List.length_nil, Nat.zero_add, if_true]
        rw [if_neg (by decide), if_pos (by omega)]
        simp only [show ((q.length : Nat) : Int) = (l.length : Nat) by omega, if_true]
      refine Ev.bind (f := fun (k : Nat) (bt524 : Int × Int) => if bt524.2 = 0 then bourselaw01_NumShared.j1 k a l q (tot l) (bt524.1 != a) else bourselaw01_NumShared.j1 k a l q (tot l) true) hsq ?_
      have e : (tot q != a) = false := bne_eq_false_iff_eq.2 (by omega)
      refine Ev.congr (fun k => if_pos rfl) ?_
      rw [e]
      exact hj1
    obtain ⟨K1, k1⟩ := hq
    obtain ⟨K2, k2⟩ := hs
    obtain ⟨K3, k3⟩ := hj0
    refine ⟨K1 + K2 + K3, fun k hk => ?_⟩
    have k1 : num_Share.f k a l = some (q, 0) := k1 k (by omega)
    have k2 : num_Sum.f k l = some (tot l, 0) := k2 k (by omega)
    have k3 : bourselaw01_NumShared.j0 k a l q 0 (tot l) 0 false = some true := k3 k (by omega)
    show (num_Share.f k a l).bind _ = _
    rw [k1]
    simp only [Option.bind_some]
    rw [if_pos (by omega), k2]
    simp only [Option.bind_some, if_true]
    rw [if_neg hn2, show (tot l == 0) = false from beq_eq_false_iff_ne.2 (by omega)]
    exact k3
  · obtain ⟨K1, k1⟩ := share_no a l hl hu hn hg
    obtain ⟨K2, k2⟩ := hs
    have h0 := tot_nonneg l (fun x hx => (hu x hx).1)
    refine ⟨K1 + K2 + 1, fun k hk => ?_⟩
    obtain ⟨m, rfl⟩ : ∃ m, k = m + 1 := ⟨k - 1, by omega⟩
    have k1 : num_Share.f (m + 1) a l = some ([], if tot l < 18446744073709551616 then 11 else 10) := k1 _ (by omega)
    have k2 : num_Sum.f (m + 1) l = some (if tot l < 18446744073709551616 then (tot l, 0) else (0, 10)) := k2 _ (by omega)
    show (num_Share.f (m + 1) a l).bind _ = _
    rw [k1]
    simp only [Option.bind_some]
    rw [if_pos (by omega), k2]
    simp only [Option.bind_some]
    rw [if_neg hn2]
    by_cases h1 : tot l < 18446744073709551616
    · rw [if_pos h1, if_pos h1]
      have e : tot l = 0 := by omega
      rw [e]
      rfl
    · rw [if_neg h1, if_neg h1]
      rfl
end Go.Proofs.Ythmjmkbahneneaa.Pure
