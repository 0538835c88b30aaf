/- A set of ticks as a rising list of numbers: what the document's answer reckons. Plain lists. -/
import Derived.Test.YtgcelkndgjjbdaaDoorBmR
namespace Go.Proofs.YtgcelkndgjjbdaaDoor.PBm
set_option linter.unusedVariables false

/-- The rising list of a set's ticks. -/
structure Rep (l : List Int) (S : St) : Prop where
  srt : l.Pairwise (· < ·)
  mem : ∀ x : Int, x ∈ l ↔ hasB S x = true

theorem hasB_iff (S : St) (x : Int) : hasB S x = true ↔ 0 ≤ x ∧ x < 262144 ∧ S x.toNat = true := by
  unfold hasB tickB
  simp [and_assoc]

theorem srt_count : ∀ (l : List Int), l.Pairwise (· < ·) → ∀ a : Int, l.count a = if a ∈ l then 1 else 0
  | [], _, a => by simp
  | y :: t, h, a => by
    obtain ⟨h1, h2⟩ := List.pairwise_cons.1 h
    rw [List.count_cons, srt_count t h2 a]
    by_cases e : y = a
    · subst e
      have : y ∉ t := fun hm => by have := h1 y hm; omega
      simp [this]
    · have e' : ¬ a = y := fun h => e h.symm
      simp [e, e']
theorem countP_succ : ∀ (l : List Int) (n : Int), l.countP (fun x => decide (x < n + 1)) = l.countP (fun x => decide (x < n)) + l.count n
  | [], _ => by simp
  | y :: t, n => by
    rw [List.countP_cons, List.countP_cons, List.count_cons, countP_succ t n]
    by_cases h1 : y < n
    · have h2 : y < n + 1 := by omega
      have h3 : ¬ y = n := by omega
      simp [h1, h2, h3]
      omega
    · by_cases h3 : y = n
      · subst h3
        have h4 : y < y + 1 := by omega
        simp [h4]
        omega
      · have h2 : ¬ y < n + 1 := by omega
        simp [h1, h2, h3]
theorem srt_ext : ∀ (l m : List Int), l.Pairwise (· < ·) → m.Pairwise (· < ·) → (∀ x, x ∈ l ↔ x ∈ m) → l = m
  | [], [], _, _, _ => rfl
  | [], b :: m, _, _, h => by have := (h b).2 (by simp); simp at this
  | a :: l, [], _, _, h => by have := (h a).1 (by simp); simp at this
  | a :: l, b :: m, h1, h2, h => by
    obtain ⟨p1, p2⟩ := List.pairwise_cons.1 h1
    obtain ⟨q1, q2⟩ := List.pairwise_cons.1 h2
    have hab : a = b := by
      rcases List.mem_cons.1 ((h a).1 (by simp)) with e | e
      · exact e
      · rcases List.mem_cons.1 ((h b).2 (by simp)) with f | f
        · exact f.symm
        · have := q1 a e
          have := p1 b f
          omega
    subst hab
    rw [srt_ext l m p2 q2 fun x => ?_]
    constructor
    · intro hx
      rcases List.mem_cons.1 ((h x).1 (List.mem_cons_of_mem _ hx)) with e | e
      · subst e; have := p1 x hx; omega
      · exact e
    · intro hx
      rcases List.mem_cons.1 ((h x).2 (List.mem_cons_of_mem _ hx)) with e | e
      · subst e; have := q1 x hx; omega
      · exact e

namespace Rep
variable {l : List Int} {S : St}
theorem nil : Rep [] E0 := ⟨List.Pairwise.nil, fun x => by rw [hasB_iff]; simp [E0]⟩
theorem tick (h : Rep l S) {x : Int} (hx : x ∈ l) : 0 ≤ x ∧ x < 262144 ∧ S x.toNat = true := (hasB_iff S x).1 ((h.mem x).1 hx)
theorem has (h : Rep l S) {t : Nat} (ht : t < 262144) (hs : S t = true) : (t : Int) ∈ l := (h.mem _).2 ((hasB_iff S _).2 ⟨by omega, by omega, by simpa using hs⟩)
theorem filter (h : Rep l S) (p : Int → Bool) : Rep (l.filter p) (fun x => S x && p (x : Int)) := by
  refine ⟨h.srt.filter _, fun x => ?_⟩
  rw [List.mem_filter, h.mem, hasB_iff, hasB_iff]
  constructor
  · rintro ⟨⟨h1, h2, h3⟩, h4⟩
    refine ⟨h1, h2, ?_⟩
    rw [h3, Int.toNat_of_nonneg h1, h4]
    rfl
  · rintro ⟨h1, h2, h3⟩
    rw [Bool.and_eq_true, Int.toNat_of_nonneg h1] at h3
    exact ⟨⟨h1, h2, h3.1⟩, h3.2⟩
theorem cntP (h : Rep l S) : ∀ n : Nat, n ≤ 262144 → l.countP (fun x => decide (x < (n : Int))) = cnt S n
  | 0, _ => by
    rw [List.countP_eq_zero.2]
    · rfl
    · intro x hx
      have := (h.tick hx).1
      simp
      omega
  | n + 1, hn => by
    have e := countP_succ l (n : Int)
    rw [show ((n : Int) + 1) = ((n + 1 : Nat) : Int) from by omega] at e
    rw [e, h.cntP n (by omega), srt_count l h.srt]
    simp only [cnt]
    by_cases hs : S n = true
    · rw [if_pos (h.has (by omega) hs), if_pos hs]
    · rw [if_neg hs, if_neg]
      intro hm
      exact hs (by simpa using (h.tick hm).2.2)
theorem len (h : Rep l S) : l.length = PBm.len S := by
  have e := h.cntP 262144 (Nat.le_refl _)
  rw [List.countP_eq_length.2 (fun x hx => by have := (h.tick hx).2.1; simp; omega)] at e
  exact e
theorem le (h : Rep l S) : l.length ≤ 262144 := by rw [h.len]; exact cnt_le S 262144
theorem cut {pre suf : List Int} {x : Int} (h : Rep (pre ++ x :: suf) S) : (∀ y ∈ pre, y < x) ∧ (∀ y ∈ suf, x < y) := by
  obtain ⟨h1, h2, h3⟩ := List.pairwise_append.1 h.srt
  exact ⟨fun y hy => h3 y hy x (by simp), fun y hy => (List.pairwise_cons.1 h2).1 y hy⟩
theorem above_in {pre suf : List Int} {x t : Int} (h : Rep (pre ++ x :: suf) S) (h1 : ∀ y ∈ pre, y < t) (h2 : t ≤ x) : AbR S t x true := by
  obtain ⟨k1, k2⟩ := h.cut
  obtain ⟨t0, t1, t2⟩ := h.tick (x := x) (by simp)
  refine .inl ⟨rfl, x.toNat, by omega, by omega, by omega, t2, fun y hy1 hy2 => ?_⟩
  cases hs : S y with
  | false => rfl
  | true =>
    have hm := h.has (t := y) (by omega) hs
    rcases List.mem_append.1 hm with hm | hm
    · have := h1 _ hm; omega
    · rcases List.mem_cons.1 hm with hm | hm
      · omega
      · have := k2 _ hm; omega
theorem above_out {t : Int} (h : Rep l S) (h1 : ∀ y ∈ l, y < t) : AbR S t 0 false := by
  refine .inr ⟨rfl, rfl, fun x hx hx2 => ?_⟩
  cases hs : S x with
  | false => rfl
  | true => have := h1 _ (h.has hx2 hs); omega
theorem below_in {pre suf : List Int} {x t : Int} (h : Rep (pre ++ x :: suf) S) (h1 : ∀ y ∈ suf, t < y) (h2 : x ≤ t) : BeR S t x true := by
  obtain ⟨k1, k2⟩ := h.cut
  obtain ⟨t0, t1, t2⟩ := h.tick (x := x) (by simp)
  refine .inl ⟨rfl, x.toNat, min t.toNat 262143, by omega, by omega, by omega, fun y hy1 hy2 => by omega, by omega, t2, fun y hy1 hy2 => ?_⟩
  cases hs : S y with
  | false => rfl
  | true =>
    have hm := h.has (t := y) (by omega) hs
    rcases List.mem_append.1 hm with hm | hm
    · have := k1 _ hm; omega
    · rcases List.mem_cons.1 hm with hm | hm
      · omega
      · have := h1 _ hm; omega
theorem below_out {t : Int} (h : Rep l S) (h1 : ∀ y ∈ l, t < y) : BeR S t 0 false := by
  refine .inr ⟨rfl, rfl, fun x hx hx2 => ?_⟩
  cases hs : S x with
  | false => rfl
  | true => have := h1 _ (h.has hx2 hs); omega
theorem at_in {pre suf : List Int} {x : Int} (h : Rep (pre ++ x :: suf) S) : AtR S (pre.length : Int) x true := by
  obtain ⟨k1, k2⟩ := h.cut
  obtain ⟨t0, t1, t2⟩ := h.tick (x := x) (by simp)
  refine .inl ⟨rfl, x.toNat, by omega, by omega, t2, ?_⟩
  have hx : ((x.toNat : Nat) : Int) = x := Int.toNat_of_nonneg t0
  rw [← h.cntP x.toNat (by omega), hx, List.countP_append, List.countP_cons, List.countP_eq_length.2, List.countP_eq_zero.2]
  · simp
  · intro y hy
    have := k2 y hy
    simp
    omega
  · intro y hy
    have := k1 y hy
    simp
    omega
theorem at_out {r : Int} (h : Rep l S) (hr : r < 0 ∨ (l.length : Int) ≤ r) : AtR S r 0 false := .inr ⟨rfl, rfl, by rw [← h.len]; exact hr⟩
theorem count (h : Rep l S) (a b : Int) : (l.filter fun x => decide (a ≤ x) && decide (x < b)).length = PBm.count S a b := by
  rw [(h.filter _).len]
  unfold PBm.len PBm.count
  exact cnt_ext fun x hx => by unfold inR; rw [Bool.and_comm]
theorem put {pre suf : List Int} {n : Int} (h : Rep (pre ++ suf) S) (h1 : ∀ y ∈ pre, y < n) (h2 : ∀ y ∈ suf, n < y) (ht : tickB n = true) : Rep (pre ++ n :: suf) (up S n.toNat true) := by
  obtain ⟨p1, p2, p3⟩ := List.pairwise_append.1 h.srt
  have ht' : 0 ≤ n ∧ n < 262144 := by simpa [tickB] using ht
  refine ⟨List.pairwise_append.2 ⟨p1, List.pairwise_cons.2 ⟨h2, p2⟩, fun a ha b hb => ?_⟩, fun x => ?_⟩
  · rcases List.mem_cons.1 hb with rfl | hb
    · exact h1 a ha
    · exact p3 a ha b hb
  · have hm := h.mem x
    rw [hasB_iff] at hm ⊢
    rw [List.mem_append] at hm
    rw [List.mem_append, List.mem_cons]
    by_cases e : x = n
    · subst e
      simp [up_self, ht']
    · constructor
      · intro hx
        obtain ⟨a, b, c⟩ := hm.1 (by rcases hx with hx | hx | hx; exact .inl hx; exact (e hx).elim; exact .inr hx)
        exact ⟨a, b, by rw [up_ne S true (by omega)]; exact c⟩
      · rintro ⟨a, b, c⟩
        rw [up_ne S true (by omega)] at c
        rcases hm.2 ⟨a, b, c⟩ with hx | hx
        · exact .inl hx
        · exact .inr (.inr hx)
theorem del {pre suf : List Int} {n : Int} (h : Rep (pre ++ n :: suf) S) : Rep (pre ++ suf) (up S n.toNat false) := by
  obtain ⟨k1, k2⟩ := h.cut
  obtain ⟨t0, t1, t2⟩ := h.tick (x := n) (by simp)
  obtain ⟨p1, p2, p3⟩ := List.pairwise_append.1 h.srt
  refine ⟨List.pairwise_append.2 ⟨p1, (List.pairwise_cons.1 p2).2, fun a ha b hb => p3 a ha b (List.mem_cons_of_mem _ hb)⟩, fun x => ?_⟩
  have hm := h.mem x
  rw [hasB_iff] at hm ⊢
  rw [List.mem_append, List.mem_cons] at hm
  rw [List.mem_append]
  by_cases e : x = n
  · subst e
    constructor
    · intro hx
      rcases hx with hx | hx
      · have := k1 x hx; omega
      · have := k2 x hx; omega
    · rintro ⟨a, b, c⟩
      rw [up_self] at c
      cases c
  · constructor
    · intro hx
      obtain ⟨a, b, c⟩ := hm.1 (by rcases hx with hx | hx; exact .inl hx; exact .inr (.inr hx))
      exact ⟨a, b, by rw [up_ne S false (by omega)]; exact c⟩
    · rintro ⟨a, b, c⟩
      rw [up_ne S false (by omega)] at c
      rcases hm.2 ⟨a, b, c⟩ with hx | hx | hx
      · exact .inl hx
      · exact (e hx).elim
      · exact .inr hx
theorem eq_iff {m : List Int} {T : St} (h : Rep l S) (k : Rep m T) : l = m ↔ ∀ t, t < 262144 → S t = T t := by
  constructor
  · intro e t ht
    subst e
    rw [Bool.eq_iff_iff]
    exact ⟨fun hs => by simpa using (k.tick (h.has ht hs)).2.2, fun hs => by simpa using (h.tick (k.has ht hs)).2.2⟩
  · intro e
    refine srt_ext l m h.srt k.srt fun x => ?_
    rw [h.mem, k.mem, hasB_iff, hasB_iff]
    constructor
    · rintro ⟨a, b, c⟩; exact ⟨a, b, by rw [← e _ (by omega)]; exact c⟩
    · rintro ⟨a, b, c⟩; exact ⟨a, b, by rw [e _ (by omega)]; exact c⟩
theorem ext {T : St} (h : Rep l S) (e : ∀ t, t < 262144 → S t = T t) : Rep l T := by
  refine ⟨h.srt, fun x => ?_⟩
  rw [h.mem, hasB_iff, hasB_iff]
  constructor
  · rintro ⟨a, b, c⟩; exact ⟨a, b, by rw [← e _ (by omega)]; exact c⟩
  · rintro ⟨a, b, c⟩; exact ⟨a, b, by rw [e _ (by omega)]; exact c⟩
end Rep

/-! ## The words -/
theorem count_pos (S : St) (a b : Int) : 0 < count S a b ↔ ∃ x : Nat, x < 262144 ∧ a ≤ x ∧ (x : Int) < b ∧ S x = true := by
  constructor
  · intro h
    refine Classical.byContradiction fun hn => ?_
    have : count S a b = 0 := cnt_zero fun x hx => by
      unfold inR
      cases hs : S x with
      | false => simp
      | true =>
        by_cases h1 : a ≤ (x : Int)
        · by_cases h2 : (x : Int) < b
          · exact (hn ⟨x, hx, h1, h2, hs⟩).elim
          · simp [h2]
        · simp [h1]
    omega
  · rintro ⟨x, h0, h1, h2, h3⟩
    exact cnt_pos h0 (by unfold inR; simp [h1, h2, h3])
theorem low_bit (S : St) (i b : Nat) (hi : i < 4096) (hb : b < 64) : decide (0 < count S (64 * i + b) (64 * i + b + 1)) = S (64 * i + b) := by
  rw [Bool.eq_iff_iff, decide_eq_true_iff, count_pos]
  constructor
  · rintro ⟨x, h0, h1, h2, h3⟩
    rw [show 64 * i + b = x from by omega]
    exact h3
  · intro h
    exact ⟨64 * i + b, by omega, by omega, by omega, h⟩
theorem mid_bit (S : St) (j b : Nat) (hj : j < 64) (hb : b < 64) : decide (0 < count S ((64 * j + b) * 64) ((64 * j + b) * 64 + 64)) = (lowW S (64 * j + b) != 0) := by
  rw [Bool.eq_iff_iff, decide_eq_true_iff, count_pos, bne_iff_ne]
  constructor
  · rintro ⟨x, h0, h1, h2, h3⟩
    have := low_ne h3
    rw [show x / 64 = 64 * j + b from by omega] at this
    exact this
  · intro h
    refine Classical.byContradiction fun hn => h ?_
    unfold lowW
    rw [wd_zero]
    intro c hc
    cases hs : S (64 * (64 * j + b) + c) with
    | false => rfl
    | true => exact (hn ⟨64 * (64 * j + b) + c, by omega, by omega, by omega, hs⟩).elim
theorem top_bit (S : St) (j : Nat) (hj : j < 64) : decide (0 < count S ((j : Int) * 4096) ((j : Int) * 4096 + 4096)) = (midW S j != 0) := by
  rw [Bool.eq_iff_iff, decide_eq_true_iff, count_pos, bne_iff_ne]
  constructor
  · rintro ⟨x, h0, h1, h2, h3⟩
    have := mid_ne h3
    rw [show x / 64 / 64 = j from by omega] at this
    exact this
  · intro h
    refine Classical.byContradiction fun hn => h ?_
    unfold midW
    rw [wd_zero]
    intro b hb
    have e : lowW S (64 * j + b) = 0 := by
      unfold lowW
      rw [wd_zero]
      intro c hc
      cases hs : S (64 * (64 * j + b) + c) with
      | false => rfl
      | true => exact (hn ⟨64 * (64 * j + b) + c, by omega, by omega, by omega, hs⟩).elim
    rw [e]
    rfl

/-! ## One answer -/
theorem below_uniq {S : St} {t a a' : Int} {is is' : Bool} (h : BeR S t a is) (h' : BeR S t a' is') : a = a' ∧ is = is' := by
  rcases h with ⟨e, n, T, h1, h2, h3, h4, h5, h6, h7⟩ | ⟨e, h1, h2⟩ <;> rcases h' with ⟨e', n', T', k1, k2, k3, k4, k5, k6, k7⟩ | ⟨e', k1, k2⟩
  · subst e e'
    refine ⟨?_, rfl⟩
    have hT : T = T' := by have := h4 T' k2 k3; have := k4 T h2 h3; omega
    subst hT
    have : ¬ n < n' := fun hl => by have := h7 n' hl k5; rw [k6] at this; cases this
    have : ¬ n' < n := fun hl => by have := k7 n hl h5; rw [h6] at this; cases this
    omega
  · have := k2 n (by omega) (by omega)
    rw [h6] at this
    cases this
  · have := h2 n' (by omega) (by omega)
    rw [k6] at this
    cases this
  · exact ⟨by rw [h1, k1], by rw [e, e']⟩
theorem at_uniq {S : St} {t a a' : Int} {is is' : Bool} (h : AtR S t a is) (h' : AtR S t a' is') : a = a' ∧ is = is' := by
  have key : ∀ {n m : Nat}, S n = true → n < m → cnt S n < cnt S m := fun {n m} hn hl => by
    have h1 := cnt_succ_of hn
    have h2 := cnt_mono (f := S) (a := n + 1) (b := m) hl
    omega
  rcases h with ⟨e, n, h1, h2, h3, h4⟩ | ⟨e, h1, h2⟩ <;> rcases h' with ⟨e', n', k1, k2, k3, k4⟩ | ⟨e', k1, k2⟩
  · subst e e'
    refine ⟨?_, rfl⟩
    have : ¬ n < n' := fun hl => by have := key h3 hl; omega
    have : ¬ n' < n := fun hl => by have := key k3 hl; omega
    omega
  · have := key h3 h2
    unfold len at k2
    omega
  · have := key k3 k2
    unfold len at h2
    omega
  · exact ⟨by rw [h1, k1], by rw [e, e']⟩
end Go.Proofs.YtgcelkndgjjbdaaDoor.PBm
