/- NumShares: Sum and Share of any amount and weights (1048576 at the most) are the document's; what is handed in stays, the answer is new memory. -/
import Derived.Test.YthmjmkbahneneaaNumShB
import Derived.Test.YthmjmkbahneneaaPNumx10
namespace Go.Proofs.Ythmjmkbahneneaa.PureUpto
open Go.RowKit Go.Proofs.Ythmjmkbahneneaa.PNum Go.Proofs.Ythmjmkbahneneaa.NumA Go.Proofs.Ythmjmkbahneneaa.NumDiv Go.Proofs.Ythmjmkbahneneaa.NumSh Go.Proofs.Ythmjmkbahneneaa.NumShB Go.Proofs.YthmjmkbahneneaaW.PrintWords Go.Proofs.YthmjmkbahneneaaW.PrintLast

theorem same_go (l : List Int) (hl : l.length ≤ 2000000) : ∀ (d i : Nat), i + d = l.length → Ev (fun k => bourselaw01_same.l0 k l l (i : Int)) true := by
  intro d
  induction d with
  | zero =>
    intro i hi
    exact Ev.step (f := fun _ => some true) (fun k => by simp only [bourselaw01_same.l0]; rw [if_neg (by omega)]) (Ev.now _)
  | succ d ih =>
    intro i hi
    refine Ev.step (f := fun k => bourselaw01_same.l0 k l l ((i + 1 : Nat) : Int)) (fun k => ?_) (ih (i + 1) (by omega))
    simp only [bourselaw01_same.l0]
    rw [if_pos (by omega), if_pos (by omega), if_pos (by omega), if_pos trivial, wrap_step i l.length (by omega) (by omega)]
theorem same_self (l : List Int) (hl : l.length ≤ 2000000) : Ev (fun k => bourselaw01_same.f k l l) true :=
  Ev.congr (fun k => if_pos rfl) (same_go l hl l.length 0 (by omega))

theorem behind (l q : List Int) (hl : l.length ≤ 1048576) (hq : q.length ≤ 1048576) : ∀ (d i : Nat) (x : List Int), i + d = 20 → x.length ≤ 1048576 + i →
    Ev (fun k => bourselaw01_NumShares.l1 k l (l ++ [77, 78]) x q q (i : Int)) true := by
  intro d
  induction d with
  | zero =>
    intro i x hi hx
    obtain rfl : i = 20 := by omega
    have hs := sum_ev [1, 1] (by simp) (fun x hx => by simp at hx; omega)
    have ht : tot [1, 1] = 2 := rfl
    rw [ht, if_pos (by decide)] at hs
    obtain ⟨K1, k1⟩ := hs
    obtain ⟨K2, k2⟩ := same_self q (by omega)
    obtain ⟨K3, k3⟩ := same_self l (by omega)
    refine ⟨K1 + K2 + K3 + 1, fun k hk => ?_⟩
    obtain ⟨m, rfl⟩ : ∃ m, k = m + 1 := ⟨k - 1, by omega⟩
    have k1 : num_Sum.f m [1, 1] = some (2, 0) := k1 m (by omega)
    have k2 : bourselaw01_same.f m q q = some true := k2 m (by omega)
    have k3 : bourselaw01_same.f m l l = some true := k3 m (by omega)
    have wl : wrap64 ((l.length : Int) + 1) = ((l.length + 1 : Nat) : Int) := wrap_step _ (l.length + 1) (by omega) (by omega)
    have r1 : rd (l ++ [77, 78]) (l.length : Int) = 77 := by rw [rd_nat, List.getD_eq_getElem?_getD, List.getElem?_append_right (Nat.le_refl _), Nat.sub_self]; rfl
    have r2 : rd (l ++ [77, 78]) ((l.length + 1 : Nat) : Int) = 78 := by rw [rd_nat, List.getD_eq_getElem?_getD, List.getElem?_append_right (by omega), show l.length + 1 - l.length = 1 by omega]; rfl
    have tk : (l ++ [77, 78]).take l.length = l := by rw [List.take_append_of_le_length (Nat.le_refl _), List.take_length]
    have ln : (l ++ [77, 78]).length = l.length + 2 := by simp
    show bourselaw01_NumShares.l1 (m + 1) l (l ++ [77, 78]) x q q ((20 : Nat) : Int) = some true
    simp only [bourselaw01_NumShares.l1]
    rw [if_neg (by decide), k1, Option.bind_some, k2, Option.bind_some, if_pos rfl, if_pos (by omega), if_pos (by omega), Int.toNat_natCast, tk, k3, Option.bind_some, if_pos rfl, if_pos (by omega), r1, if_pos rfl, wl, if_pos (by omega), if_pos (by omega), r2, if_pos rfl, if_pos rfl]
    rfl
  | succ d ih =>
    intro i x hi hx
    refine Ev.step (f := fun k => bourselaw01_NumShares.l1 k l (l ++ [77, 78]) (x ++ [8]) q q ((i + 1 : Nat) : Int)) (fun k => ?_) (ih (i + 1) (x ++ [8]) (by omega) (by rw [List.length_append]; simp; omega))
    simp only [bourselaw01_NumShares.l1]
    rw [if_pos (by omega), if_pos (by omega), wrap_step i 20 (by omega) (by omega)]

theorem over_written (l q : List Int) (hl : l.length ≤ 1048576) (hq : q.length ≤ 1048576) : ∀ (d i : Nat) (x : List Int), i + d = x.length → x.length ≤ 1048576 →
    Ev (fun k => bourselaw01_NumShares.l0 k l (l ++ [77, 78]) x q q (i : Int)) true := by
  intro d
  induction d with
  | zero =>
    intro i x hi hx
    exact Ev.step (f := fun k => bourselaw01_NumShares.l1 k l (l ++ [77, 78]) x q q 0) (fun k => by simp only [bourselaw01_NumShares.l0]; rw [if_neg (by omega)]) (behind l q hl hq 20 0 x (by omega) (by omega))
  | succ d ih =>
    intro i x hi hx
    refine Ev.step (f := fun k => bourselaw01_NumShares.l0 k l (l ++ [77, 78]) (x.set i 9) q q ((i + 1 : Nat) : Int)) (fun k => ?_) (ih (i + 1) (x.set i 9) (by rw [List.length_set]; omega) (by rw [List.length_set]; omega))
    simp only [bourselaw01_NumShares.l0]
    rw [if_pos (by omega), if_pos (by omega), Int.toNat_natCast, wrap_step i x.length (by omega) (by omega)]

theorem NumShares (a : Int) (l : List Int) (ha : 0 ≤ a) (ha' : a < 18446744073709551616) (hl : l.length ≤ 1048576) (hu : Us l) : ∃ k, bourselaw01_NumShares.f k a l = some true := by
  obtain ⟨q, e, hq, h1, h2⟩ := both_share a l ha ha' hl hu
  obtain ⟨K1, k1⟩ := h1
  obtain ⟨K2, k2⟩ := h2
  obtain ⟨K3, k3⟩ := sum_ev l (by omega) hu
  obtain ⟨K4, k4⟩ := rsum_ev l (by omega) hu
  obtain ⟨K5, k5⟩ := same_self q (by omega)
  obtain ⟨K6, k6⟩ := same_self l (by omega)
  obtain ⟨K7, k7⟩ := over_written l q hl (by omega) q.length 0 q (by omega) (by omega)
  refine ⟨K1 + K2 + K3 + K4 + K5 + K6 + K7 + 1, ?_⟩
  generalize hk : K1 + K2 + K3 + K4 + K5 + K6 + K7 = m
  have k1 : num_Share.f (m + 1) a l = some (q, e) := k1 _ (by omega)
  have k2 : bourseref01_Share.f (m + 1) a l = some (q, e) := k2 _ (by omega)
  have k3 : num_Sum.f (m + 1) l = some (if tot l < 18446744073709551616 then (tot l, 0) else (0, 10)) := k3 _ (by omega)
  have k4 : bourseref01_Sum.f (m + 1) l = some (if tot l < 18446744073709551616 then (tot l, 0) else (0, 10)) := k4 _ (by omega)
  have k5 : bourselaw01_same.f (m + 1) q q = some true := k5 _ (by omega)
  have k6 : bourselaw01_same.f (m + 1) l l = some true := k6 _ (by omega)
  have k7 : bourselaw01_NumShares.l0 m l (l ++ [77, 78]) q q q 0 = some true := k7 _ (by omega)
  have tk : (l ++ [77, 78]).take l.length = l := by rw [List.take_append_of_le_length (Nat.le_refl _), List.take_length]
  have ln : (l ++ [77, 78]).length = l.length + 2 := by simp
  unfold bourselaw01_NumShares.f
  rw [Option.bind_some, List.length_nil, if_pos (by omega), Option.bind_some, Option.bind_some, List.nil_append, if_pos (by simp; omega), Option.bind_some, if_pos (by omega), if_pos (by omega), Int.toNat_natCast, tk, Option.bind_some, k3, Option.bind_some, k4, Option.bind_some, k1, Option.bind_some, Option.bind_some, k2, Option.bind_some, if_pos rfl, if_pos rfl, if_pos rfl, k5, Option.bind_some, if_pos rfl, Option.bind_some, if_pos rfl, k6, Option.bind_some]
  show bourselaw01_NumShares.j0 (m + 1) l (l ++ [77, 78]) q q q false = some true
  simp only [bourselaw01_NumShares.j0]
  rw [if_neg (by decide)]
  exact k7
end Go.Proofs.Ythmjmkbahneneaa.PureUpto
