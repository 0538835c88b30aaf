/- What the document's functions on a set reckon. Plain lists. -/
import Derived.Test.YtgcelkndgjjbdaaDoorBmS
import Derived.Test.YtgcelkndgjjbdaaDoorPBmx2
namespace Go.Proofs.YtgcelkndgjjbdaaDoor.PBm
open Go.RowKit Go.Proofs.YtgcelkndgjjbdaaDoorW.PrintWords Go.Proofs.YtgcelkndgjjbdaaDoorW.PrintLast Go.Proofs.YtgcelkndgjjbdaaDoorW.PrintMore
set_option linter.unusedVariables false

theorem w64 (n : Int) (h : -9223372036854775808 ≤ n) (h' : n ≤ 9223372036854775807) : wrap64 n = n := by
  unfold wrap64
  omega
theorem rd_at (pre suf : List Int) (x : Int) : rd (pre ++ x :: suf) (pre.length : Int) = x := by
  unfold rd
  rw [Int.toNat_natCast, List.getD_eq_getElem?_getD, List.getElem?_append_right (Nat.le_refl _), Nat.sub_self]
  rfl
theorem rdn (l : List Int) (i : Nat) : rd l (i : Int) = l.getD i 0 := by
  unfold rd
  rw [Int.toNat_natCast]

theorem place_go (n : Int) : ∀ (suf pre : List Int), pre.length + suf.length ≤ 262144 → (∀ y ∈ pre, y < n) →
    ∃ pre' suf', pre ++ suf = pre' ++ suf' ∧ (∀ y ∈ pre', y < n) ∧ (∀ x t, suf' = x :: t → n ≤ x) ∧ Ev (fun k => bourseref06_Set_place.l0 k (pre ++ suf) n (pre.length : Int)) ((pre'.length : Int), (suf'.head?.map (· == n)).getD false)
  | [], pre, hl, hp => by
    refine ⟨pre, [], rfl, hp, fun x t h => (by cases h), ?_⟩
    refine Ev.step (f := fun _ => some ((pre.length : Int), false)) (fun k => ?_) (Ev.now _)
    simp only [bourseref06_Set_place.l0]
    rw [if_neg (by simp)]
  | x :: t, pre, hl, hp => by
    simp only [List.length_cons] at hl
    by_cases hx : x < n
    · obtain ⟨p, s, e, h1, h2, h3⟩ := place_go n t (pre ++ [x]) (by simp; omega) (fun y hy => by
        rcases List.mem_append.1 hy with hy | hy
        · exact hp y hy
        · rw [List.mem_singleton.1 hy]; exact hx)
      rw [List.append_assoc, List.singleton_append] at e h3
      refine ⟨p, s, e, h1, h2, ?_⟩
      refine Ev.step (fun k => ?_) h3
      simp only [bourseref06_Set_place.l0]
      rw [if_pos (by simp; omega), if_pos (by omega), rd_at, if_pos hx, w64 _ (by omega) (by omega), List.length_append]
      rfl
    · refine ⟨pre, x :: t, rfl, hp, fun y u h => (by injection h with h _; omega), ?_⟩
      refine Ev.step (f := fun _ => some ((pre.length : Int), x == n)) (fun k => ?_) (Ev.now _)
      simp only [bourseref06_Set_place.l0]
      rw [if_pos (by simp; omega), if_pos (by omega), rd_at, if_neg hx]
/-- Where a number stands, or belongs. -/
theorem place_ev {l : List Int} {S : St} (h : Rep l S) (n : Int) : ∃ pre suf, l = pre ++ suf ∧ (∀ y ∈ pre, y < n) ∧ (∀ y ∈ suf, hasB S n = false → n < y) ∧ (hasB S n = true → ∃ t, suf = n :: t) ∧ Ev (fun k => bourseref06_Set_place.f k l n) ((pre.length : Int), hasB S n) := by
  obtain ⟨p, s, e, h1, h2, h3⟩ := place_go n l [] (by simpa using h.le) (by simp)
  rw [List.nil_append] at e h3
  have hs := h.srt
  rw [e] at hs
  obtain ⟨q1, q2, q3⟩ := List.pairwise_append.1 hs
  have hm := h.mem n
  have key : (s.head?.map (· == n)).getD false = hasB S n := by
    rw [Bool.eq_iff_iff, ← hm, e]
    cases s with
    | nil =>
      simp
      intro hy
      have := h1 n hy
      omega
    | cons x t =>
      have hx := h2 x t rfl
      simp
      constructor
      · intro hx; exact .inr (.inl hx.symm)
      · rintro (hy | hy | hy)
        · have := h1 n hy; omega
        · exact hy.symm
        · have := (List.pairwise_cons.1 q2).1 n hy
          omega
  rw [key] at h3
  refine ⟨p, s, e, h1, fun y hy hn => ?_, fun hn => ?_, h3⟩
  · rw [← key] at hn
    cases s with
    | nil => cases hy
    | cons x t =>
      have hx := h2 x t rfl
      have hne : ¬ x = n := by simpa using hn
      rcases List.mem_cons.1 hy with hy | hy
      · omega
      · have := (List.pairwise_cons.1 q2).1 y hy
        omega
  · rw [← key] at hn
    cases s with
    | nil => cases hn
    | cons x t =>
      have : x = n := by simpa using hn
      exact ⟨t, by rw [this]⟩
theorem has_ev {l : List Int} {S : St} (h : Rep l S) (n : Int) : Ev (fun k => bourseref06_Set_Has.f k l n) (hasB S n) := by
  obtain ⟨p, s, _, _, _, _, h5⟩ := place_ev h n
  exact Ev.bind (f := fun (_ : Nat) (x : Int × Bool) => some x.2) h5 (Ev.now _)

theorem above_go {S : St} (t : Int) : ∀ (suf pre : List Int), Rep (pre ++ suf) S → (∀ y ∈ pre, y < t) →
    ∃ a is, AbR S t a is ∧ Ev (fun k => bourseref06_Set_Above.l0 k (pre ++ suf) t (pre.length : Int)) (a, is)
  | [], pre, h, hp => by
    refine ⟨0, false, ?_, ?_⟩
    · rw [List.append_nil] at h
      exact h.above_out hp
    · refine Ev.step (f := fun _ => some (0, false)) (fun k => ?_) (Ev.now _)
      simp only [bourseref06_Set_Above.l0]
      rw [if_neg (by simp)]
  | x :: u, pre, h, hp => by
    have hle := h.le
    simp only [List.length_append, List.length_cons] at hle
    by_cases hx : x ≥ t
    · refine ⟨x, true, h.above_in hp hx, ?_⟩
      refine Ev.step (f := fun _ => some (x, true)) (fun k => ?_) (Ev.now _)
      simp only [bourseref06_Set_Above.l0]
      rw [if_pos (by simp; omega), if_pos (by omega), rd_at, if_pos hx]
    · obtain ⟨a, is, h1, h2⟩ := above_go t u (pre ++ [x]) (by rw [List.append_assoc, List.singleton_append]; exact h) (fun y hy => by
        rcases List.mem_append.1 hy with hy | hy
        · exact hp y hy
        · rw [List.mem_singleton.1 hy]; omega)
      rw [List.append_assoc, List.singleton_append] at h2
      refine ⟨a, is, h1, Ev.step (fun k => ?_) h2⟩
      simp only [bourseref06_Set_Above.l0]
      rw [if_pos (by simp; omega), if_pos (by omega), rd_at, if_neg hx, w64 _ (by omega) (by omega), List.length_append]
      rfl
theorem above_ev {l : List Int} {S : St} (h : Rep l S) (t : Int) : ∃ a is, AbR S t a is ∧ Ev (fun k => bourseref06_Set_Above.f k l t) (a, is) := above_go t l [] h (by simp)

theorem below_go {l : List Int} {S : St} (h : Rep l S) (t : Int) : ∀ (n : Nat), n ≤ l.length → (∀ y ∈ l.drop n, t < y) →
    ∃ a is, BeR S t a is ∧ Ev (fun k => bourseref06_Set_Below.l0 k l t ((n : Int) - 1)) (a, is)
  | 0, _, hd => by
    refine ⟨0, false, h.below_out (by simpa using hd), ?_⟩
    refine Ev.step (f := fun _ => some (0, false)) (fun k => ?_) (Ev.now _)
    simp only [bourseref06_Set_Below.l0]
    rw [if_neg (by omega)]
  | n + 1, hn, hd => by
    have hle := h.le
    have e : l = l.take n ++ l[n] :: l.drop (n + 1) := by rw [← List.drop_eq_getElem_cons (by omega), List.take_append_drop]
    have hr : rd l (n : Int) = l[n] := by rw [rdn, List.getD_eq_getElem?_getD, List.getElem?_eq_getElem (by omega)]; rfl
    by_cases hx : l[n] ≤ t
    · refine ⟨l[n], true, ?_, ?_⟩
      · rw [e] at h
        exact h.below_in hd hx
      · refine Ev.step (f := fun _ => some (l[n], true)) (fun k => ?_) (Ev.now _)
        simp only [bourseref06_Set_Below.l0]
        rw [show ((n + 1 : Nat) : Int) - 1 = (n : Int) from by omega, if_pos (by omega), if_pos (by omega), if_pos (by omega), hr, if_pos hx]
    · obtain ⟨a, is, h1, h2⟩ := below_go h t n (by omega) (fun y hy => by
        rw [List.drop_eq_getElem_cons (by omega)] at hy
        rcases List.mem_cons.1 hy with hy | hy
        · omega
        · exact hd y hy)
      refine ⟨a, is, h1, Ev.step (fun k => ?_) h2⟩
      simp only [bourseref06_Set_Below.l0]
      rw [show ((n + 1 : Nat) : Int) - 1 = (n : Int) from by omega, if_pos (by omega), if_pos (by omega), if_pos (by omega), hr, if_neg hx, w64 _ (by omega) (by omega)]
theorem below_ev {l : List Int} {S : St} (h : Rep l S) (t : Int) : ∃ a is, BeR S t a is ∧ Ev (fun k => bourseref06_Set_Below.f k l t) (a, is) := by
  obtain ⟨a, is, h1, h2⟩ := below_go h t l.length (Nat.le_refl _) (by simp)
  refine ⟨a, is, h1, Ev.congr (fun k => ?_) h2⟩
  have := h.le
  unfold bourseref06_Set_Below.f
  rw [w64 _ (by omega) (by omega)]

theorem count_go (a b : Int) : ∀ (suf pre : List Int) (c : Nat), pre.length + suf.length ≤ 262144 → c ≤ pre.length →
    Ev (fun k => bourseref06_Set_Count.l0 k (pre ++ suf) a b (c : Int) (pre.length : Int)) ((c + (suf.filter fun x => decide (a ≤ x) && decide (x < b)).length : Nat) : Int)
  | [], pre, c, hl, hc => by
    refine Ev.step (f := fun _ => some ((c : Nat) : Int)) (fun k => ?_) (by simpa using Ev.now _)
    simp only [bourseref06_Set_Count.l0]
    rw [if_neg (by simp)]
  | x :: t, pre, c, hl, hc => by
    simp only [List.length_cons] at hl
    have ih := fun c' hc' => count_go a b t (pre ++ [x]) c' (by simp; omega) hc'
    rw [List.append_assoc, List.singleton_append, List.length_append] at ih
    by_cases h1 : x ≥ a
    · by_cases h2 : x < b
      · have e : ((x :: t).filter fun x => decide (a ≤ x) && decide (x < b)).length = 1 + (t.filter fun x => decide (a ≤ x) && decide (x < b)).length := by
          rw [List.filter_cons, if_pos (by simp; omega)]
          simp
          omega
        rw [e, show c + (1 + (t.filter fun x => decide (a ≤ x) && decide (x < b)).length) = c + 1 + (t.filter fun x => decide (a ≤ x) && decide (x < b)).length from by omega]
        refine Ev.step (fun k => ?_) (ih (c + 1) (by simp; omega))
        simp only [bourseref06_Set_Count.l0]
        rw [if_pos (by simp; omega), if_pos (by omega), rd_at, if_pos h1, if_pos h2, w64 ((c : Int) + 1) (by omega) (by omega), w64 _ (by omega) (by omega)]
        rfl
      · rw [List.filter_cons, if_neg (by simp; omega)]
        refine Ev.step (fun k => ?_) (ih c (by simp; omega))
        simp only [bourseref06_Set_Count.l0]
        rw [if_pos (by simp; omega), if_pos (by omega), rd_at, if_pos h1, if_neg h2, w64 _ (by omega) (by omega)]
        rfl
    · rw [List.filter_cons, if_neg (by simp; omega)]
      refine Ev.step (fun k => ?_) (ih c (by simp; omega))
      simp only [bourseref06_Set_Count.l0]
      rw [if_pos (by simp; omega), if_pos (by omega), rd_at, if_neg h1, w64 _ (by omega) (by omega)]
      rfl
theorem count_ev {l : List Int} {S : St} (h : Rep l S) (a b : Int) : Ev (fun k => bourseref06_Set_Count.f k l a b) ((count S a b : Nat) : Int) := by
  have := count_go a b l [] 0 (by simpa using h.le) (by simp)
  rw [List.nil_append, h.count, Nat.zero_add] at this
  exact this

theorem shl_one (b : Nat) (hb : b < 64) : shl .u64 1 (b : Int) = ((2 ^ b : Nat) : Int) := by
  have e : ∀ b : Fin 64, shl .u64 1 (b.val : Int) = ((2 ^ b.val : Nat) : Int) := by decide +kernel
  exact e ⟨b, hb⟩
theorem word_go {l : List Int} {S : St} (h : Rep l S) (x : Nat) (each : Int) (hx : x < 4096) (he0 : 0 ≤ each) (he : each ≤ 4096) (f : Nat → Bool)
    (hf : ∀ b : Nat, b < 64 → decide (0 < count S (((64 * (x : Int) + b) * each)) (((64 * (x : Int) + b) * each) + each)) = f b) :
    ∀ (d i : Nat), i + d = 64 → Ev (fun k => bourseref06_Set_word.l0 k l (x : Int) each ((wdn f i : Nat) : Int) (i : Int)) ((wd f : Nat) : Int)
  | 0, i, hi => by
    obtain rfl : i = 64 := by omega
    refine Ev.step (f := fun _ => some ((wd f : Nat) : Int)) (fun k => ?_) (Ev.now _)
    simp only [bourseref06_Set_word.l0]
    rw [if_neg (by omega)]
    rfl
  | d + 1, i, hi => by
    have ih := word_go h x each hx he0 he f hf d (i + 1) (by omega)
    have hm1 : (64 * (x : Int) + i) * each ≤ 262144 * 4096 := Int.mul_le_mul (by omega) (by omega) (by omega) (by omega)
    have hm0 : 0 ≤ (64 * (x : Int) + i) * each := Int.mul_nonneg (by omega) (by omega)
    have hc := count_ev h ((64 * (x : Int) + i) * each) (((64 * (x : Int) + i) * each) + each)
    have hb := hf i (by omega)
    obtain ⟨C, hC⟩ : ∃ C, C = count S ((64 * (x : Int) + i) * each) (((64 * (x : Int) + i) * each) + each) := ⟨_, rfl⟩
    rw [← hC] at hc hb
    refine Ev.step (f := fun k => (bourseref06_Set_Count.f k l ((64 * (x : Int) + i) * each) (((64 * (x : Int) + i) * each) + each)).bind fun t => if t > 0 then bourseref06_Set_word.l0 k l (x : Int) each (IntKind.u64.wrap (((wdn f i : Nat) : Int) + shl .u64 1 (i : Int))) ((i + 1 : Nat) : Int) else bourseref06_Set_word.l0 k l (x : Int) each ((wdn f i : Nat) : Int) ((i + 1 : Nat) : Int)) (fun k => ?_) ?_
    · simp only [bourseref06_Set_word.l0]
      rw [if_pos (by omega), w64 (64 * (x : Int)) (by omega) (by omega), w64 (64 * (x : Int) + i) (by omega) (by omega), w64 ((64 * (x : Int) + i) * each) (by omega) (by omega), w64 ((64 * (x : Int) + i) * each + each) (by omega) (by omega), w64 ((i : Int) + 1) (by omega) (by omega), if_pos (show (0 : Int) ≤ (i : Int) by omega)]
      rfl
    · refine Ev.bind (f := fun (k : Nat) (t : Int) => if t > 0 then bourseref06_Set_word.l0 k l (x : Int) each (IntKind.u64.wrap (((wdn f i : Nat) : Int) + shl .u64 1 (i : Int))) ((i + 1 : Nat) : Int) else bourseref06_Set_word.l0 k l (x : Int) each ((wdn f i : Nat) : Int) ((i + 1 : Nat) : Int)) hc ?_
      cases hfi : f i with
      | true =>
        rw [hfi] at hb
        have hp : 0 < C := by simpa using hb
        refine Ev.congr (fun k => if_pos (by omega)) ?_
        have e : IntKind.u64.wrap (((wdn f i : Nat) : Int) + shl .u64 1 (i : Int)) = ((wdn f (i + 1) : Nat) : Int) := by
          have h1 := wdn_lt f (i + 1)
          have h2 : 2 ^ (i + 1) ≤ 2 ^ 64 := Nat.pow_le_pow_right (by decide) (by omega)
          have h3 : wdn f (i + 1) = wdn f i + 2 ^ i := by simp [wdn, hfi]
          rw [shl_one i (by omega), ← Int.natCast_add, ← h3]
          exact u64_nat _ (by omega)
        rw [e]
        exact ih
      | false =>
        rw [hfi] at hb
        have hp : C = 0 := by simpa using hb
        refine Ev.congr (fun k => if_neg (by omega)) ?_
        have h3 : wdn f (i + 1) = wdn f i := by simp [wdn, hfi]
        rw [h3] at ih
        exact ih
theorem top_ev {l : List Int} {S : St} (h : Rep l S) : Ev (fun k => bourseref06_Set_Top.f k l) ((topW S : Nat) : Int) := by
  have := word_go h 0 4096 (by decide) (by decide) (by decide) (fun j => midW S j != 0) (fun b hb => by
    rw [show (64 * ((0 : Nat) : Int) + (b : Int)) * 4096 = (b : Int) * 4096 from by omega]
    exact top_bit S b hb) 64 0 rfl
  exact Ev.bind (f := fun (_ : Nat) (x : Int) => some x) this (Ev.now _)
def midV (S : St) (i : Int) : Nat := if 0 ≤ i ∧ i < 64 then midW S i.toNat else 0
def lowV (S : St) (i : Int) : Nat := if 0 ≤ i ∧ i < 4096 then lowW S i.toNat else 0
theorem middle_ev {l : List Int} {S : St} (h : Rep l S) (i : Int) : Ev (fun k => bourseref06_Set_Middle.f k l i) ((midV S i : Nat) : Int) := by
  unfold bourseref06_Set_Middle.f midV
  by_cases h1 : i < 0
  · rw [if_neg (by omega)]
    exact Ev.congr (fun k => if_pos h1) (Ev.now _)
  · by_cases h2 : i ≥ 64
    · rw [if_neg (by omega)]
      exact Ev.congr (fun k => by rw [if_neg h1, if_pos h2]; rfl) (Ev.now _)
    · obtain ⟨n, rfl⟩ : ∃ n : Nat, i = n := ⟨i.toNat, by omega⟩
      rw [if_pos (by omega), Int.toNat_natCast]
      refine Ev.congr (fun k => by rw [if_neg h1, if_neg h2]) ?_
      have := word_go h n 64 (by omega) (by decide) (by decide) (fun b => lowW S (64 * n + b) != 0) (fun b hb => mid_bit S n b (by omega) hb) 64 0 rfl
      exact Ev.bind (f := fun (_ : Nat) (x : Int) => some x) this (Ev.now _)
theorem low_ev {l : List Int} {S : St} (h : Rep l S) (i : Int) : Ev (fun k => bourseref06_Set_Low.f k l i) ((lowV S i : Nat) : Int) := by
  unfold bourseref06_Set_Low.f lowV
  by_cases h1 : i < 0
  · rw [if_neg (by omega)]
    exact Ev.congr (fun k => if_pos h1) (Ev.now _)
  · by_cases h2 : i ≥ 4096
    · rw [if_neg (by omega)]
      exact Ev.congr (fun k => by rw [if_neg h1, if_pos h2]; rfl) (Ev.now _)
    · obtain ⟨n, rfl⟩ : ∃ n : Nat, i = n := ⟨i.toNat, by omega⟩
      rw [if_pos (by omega), Int.toNat_natCast]
      refine Ev.congr (fun k => by rw [if_neg h1, if_neg h2]) ?_
      have := word_go h n 1 (by omega) (by decide) (by decide) (fun b => S (64 * n + b)) (fun b hb => by
        rw [show (64 * (n : Int) + (b : Int)) * 1 = 64 * (n : Int) + b from by omega]
        exact low_bit S n b (by omega) hb) 64 0 rfl
      exact Ev.bind (f := fun (_ : Nat) (x : Int) => some x) this (Ev.now _)

theorem at_f {l : List Int} {S : St} (h : Rep l S) (r : Int) : ∃ a is, AtR S r a is ∧ bourseref06_Set_At.f l r = some (a, is) := by
  unfold bourseref06_Set_At.f
  by_cases h1 : r < 0
  · exact ⟨0, false, h.at_out (.inl h1), by rw [if_pos h1]⟩
  · by_cases h2 : r ≥ (l.length : Int)
    · exact ⟨0, false, h.at_out (.inr h2), by rw [if_neg h1, if_pos h2]⟩
    · obtain ⟨n, rfl⟩ : ∃ n : Nat, r = n := ⟨r.toNat, by omega⟩
      have hn : n < l.length := by omega
      have e : l = l.take n ++ l[n] :: l.drop (n + 1) := by rw [← List.drop_eq_getElem_cons (by omega), List.take_append_drop]
      have hr : rd l (n : Int) = l[n] := by rw [rdn, List.getD_eq_getElem?_getD, List.getElem?_eq_getElem (by omega)]; rfl
      refine ⟨l[n], true, ?_, by rw [if_neg h1, if_neg h2, if_pos (by omega), if_pos (by omega), hr]⟩
      rw [e] at h
      have := h.at_in
      rw [List.length_take, Nat.min_eq_left (by omega)] at this
      exact this

theorem same_go (l m : List Int) (hl : l.length ≤ 262144) (he : m.length = l.length) : ∀ (d i : Nat), i + d = l.length → l.take i = m.take i →
    Ev (fun k => bourselaw06_same.l0 k l m (i : Int)) (decide (l = m))
  | 0, i, hi, h => by
    have e : l = m := by
      rw [List.take_of_length_le (by omega), List.take_of_length_le (by omega)] at h
      exact h
    refine Ev.step (f := fun _ => some (decide (l = m))) (fun k => ?_) (Ev.now _)
    simp only [bourselaw06_same.l0]
    rw [if_neg (by omega), decide_eq_true e]
  | d + 1, i, hi, h => by
    have e1 : rd l (i : Int) = l[i] := by rw [rdn, List.getD_eq_getElem?_getD, List.getElem?_eq_getElem (by omega)]; rfl
    have e2 : rd m (i : Int) = m[i] := by rw [rdn, List.getD_eq_getElem?_getD, List.getElem?_eq_getElem (by omega)]; rfl
    by_cases hx : l[i] = m[i]
    · have ih := same_go l m hl he d (i + 1) (by omega) (by rw [List.take_succ_eq_append_getElem (by omega), List.take_succ_eq_append_getElem (by omega), h, hx])
      refine Ev.step (fun k => ?_) ih
      simp only [bourselaw06_same.l0]
      rw [if_pos (by omega), if_pos (by omega), if_pos (by omega), e1, e2, if_pos hx, w64 _ (by omega) (by omega)]
      rfl
    · have hne : ¬ l = m := fun e => hx (by subst e; rfl)
      refine Ev.step (f := fun _ => some (decide (l = m))) (fun k => ?_) (Ev.now _)
      simp only [bourselaw06_same.l0]
      rw [if_pos (by omega), if_pos (by omega), if_pos (by omega), e1, e2, if_neg hx, decide_eq_false hne]
theorem same_ev {l m : List Int} {S T : St} (h : Rep l S) (k : Rep m T) : Ev (fun k => bourselaw06_same.f k l m) (decide (l = m)) := by
  unfold bourselaw06_same.f
  by_cases he : m.length = l.length
  · exact Ev.congr (fun k => if_pos (by omega)) (same_go l m h.le he l.length 0 (by omega) rfl)
  · refine Ev.congr (fun k => if_neg (by omega)) ?_
    rw [decide_eq_false (fun e => he (by rw [e]))]
    exact Ev.now _
end Go.Proofs.YtgcelkndgjjbdaaDoor.PBm
