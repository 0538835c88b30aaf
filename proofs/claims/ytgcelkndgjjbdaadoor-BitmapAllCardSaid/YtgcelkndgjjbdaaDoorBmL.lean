/- Above, Below. -/
import Derived.Test.YtgcelkndgjjbdaaDoorBmK
namespace Go.Proofs.YtgcelkndgjjbdaaDoor.PBm
open Go.RowKit Go.Proofs.YtgcelkndgjjbdaaDoorW.PrintWords Go.Proofs.YtgcelkndgjjbdaaDoorW.PrintLast Go.Proofs.YtgcelkndgjjbdaaDoorW.PrintMore
attribute [local go_sem] max_two min_two
set_option linter.unusedVariables false
set_option linter.unusedSimpArgs false

theorem low_zero {S : St} {i : Nat} (h : lowW S i = 0) (x : Nat) (hx : x / 64 = i) : S x = false := by
  have := wd_zero.mp h (x % 64) (Nat.mod_lt _ (by decide))
  rwa [← hx, show 64 * (x / 64) + x % 64 = x by omega] at this
theorem mid_zero {S : St} {j : Nat} (h : midW S j = 0) (x : Nat) (hx : x / 4096 = j) : S x = false := by
  have := wd_zero.mp h (x / 64 % 64) (Nat.mod_lt _ (by decide))
  have h2 : lowW S (64 * j + x / 64 % 64) = 0 := by simpa using this
  exact low_zero h2 x (by omega)

/-- n is the least tick at or above T; the greatest at or below. -/
def AbN (S : St) (T n : Nat) : Prop := n < 262144 ∧ T ≤ n ∧ S n = true ∧ ∀ x, T ≤ x → x < n → S x = false
def BeN (S : St) (T n : Nat) : Prop := n ≤ T ∧ S n = true ∧ ∀ x, n < x → x ≤ T → S x = false
/-- k is the least, the greatest bit of word w. -/
def FiR (S : St) (w k : Nat) : Prop := k < 64 ∧ S (64 * w + k) = true ∧ ∀ x, x < k → S (64 * w + x) = false
def LaR (S : St) (w k : Nat) : Prop := k < 64 ∧ S (64 * w + k) = true ∧ ∀ x, k < x → x < 64 → S (64 * w + x) = false

theorem up_in {f : Nat → Bool} {b k : Nat} (h : UpR f b k true) : k < 64 ∧ b ≤ k ∧ f k = true ∧ ∀ x, b ≤ x → x < k → f x = false := by
  rcases h with h | h
  · exact h.2
  · exact absurd h.1 (by simp)
theorem up_out {f : Nat → Bool} {b k : Nat} (h : UpR f b k false) : ∀ x, b ≤ x → x < 64 → f x = false := by
  rcases h with h | h
  · exact absurd h.1 (by simp)
  · exact h.2
theorem dn_in {f : Nat → Bool} {b k : Int} (h : DnR f b k true) : ∃ n : Nat, k = n ∧ n < 64 ∧ (n : Int) ≤ b ∧ f n = true ∧ ∀ x : Nat, n < x → (x : Int) ≤ b → x < 64 → f x = false := by
  rcases h with ⟨_, h1, h2, h3, h4, h5⟩ | h
  · exact ⟨k.toNat, by omega, by omega, by omega, h4, fun x hx => h5 x (by omega)⟩
  · exact absurd h.1 (by simp)
theorem dn_out {f : Nat → Bool} {b k : Int} (h : DnR f b k false) : ∀ x : Nat, (x : Int) ≤ b → x < 64 → f x = false := by
  rcases h with h | h
  · exact absurd h.1 (by simp)
  · exact h.2

theorem same_word {S : St} {T : Nat} (h : ∀ x, T % 64 ≤ x → x < 64 → S (64 * (T / 64) + x) = false) (x : Nat) (h1 : T ≤ x) (h2 : x / 64 = T / 64) : S x = false := by
  have := h (x % 64) (by omega) (by omega)
  rwa [← h2, show 64 * (x / 64) + x % 64 = x by omega] at this

theorem ab1 {S : St} {T k : Nat} (hT : T < 262144) (h : UpR (fun b => S (64 * (T / 64) + b)) (T % 64) k true) : AbN S T (64 * (T / 64) + k) := by
  obtain ⟨h1, h2, h3, h4⟩ := up_in h
  refine ⟨by omega, by omega, h3, fun x hx1 hx2 => ?_⟩
  have := h4 (x - 64 * (T / 64)) (by omega) (by omega)
  rwa [show 64 * (T / 64) + (x - 64 * (T / 64)) = x by omega] at this

theorem ab2 {S : St} {T k0 k c : Nat} (hT : T < 262144) (h0 : UpR (fun b => S (64 * (T / 64) + b)) (T % 64) k0 false) (h : UpR (fun b => lowW S (64 * (T / 64 / 64) + b) != 0) (T / 64 % 64 + 1) k true)
    (hf : FiR S (64 * (T / 64 / 64) + k) c) : AbN S T (64 * (64 * (T / 64 / 64) + k) + c) := by
  obtain ⟨h1, h2, h3, h4⟩ := up_in h
  have h5 := same_word (up_out h0)
  obtain ⟨f1, f2, f3⟩ := hf
  refine ⟨by omega, by omega, f2, fun x hx1 hx2 => ?_⟩
  by_cases e1 : x / 64 = T / 64
  · exact h5 x hx1 e1
  · by_cases e2 : x / 64 = 64 * (T / 64 / 64) + k
    · have := f3 (x % 64) (by omega)
      rwa [← e2, show 64 * (x / 64) + x % 64 = x by omega] at this
    · have := h4 (x / 64 - 64 * (T / 64 / 64)) (by omega) (by omega)
      rw [show 64 * (T / 64 / 64) + (x / 64 - 64 * (T / 64 / 64)) = x / 64 by omega] at this
      exact low_zero (by simpa using this) x rfl

theorem ab3 {S : St} {T k0 k1 k m c : Nat} (hT : T < 262144) (h0 : UpR (fun b => S (64 * (T / 64) + b)) (T % 64) k0 false) (h1 : UpR (fun b => lowW S (64 * (T / 64 / 64) + b) != 0) (T / 64 % 64 + 1) k1 false)
    (h : UpR (fun j => midW S j != 0) (T / 64 / 64 + 1) k true) (hm : m < 64 ∧ (∀ x, x < m → lowW S (64 * k + x) = 0)) (hf : FiR S (64 * k + m) c) : AbN S T (64 * (64 * k + m) + c) := by
  obtain ⟨g1, g2, g3, g4⟩ := up_in h
  have h5 := same_word (up_out h0)
  have h6 := up_out h1
  obtain ⟨f1, f2, f3⟩ := hf
  refine ⟨by omega, by omega, f2, fun x hx1 hx2 => ?_⟩
  by_cases e1 : x / 64 = T / 64
  · exact h5 x hx1 e1
  · by_cases e2 : x / 64 / 64 = T / 64 / 64
    · have := h6 (x / 64 % 64) (by omega) (by omega)
      rw [show 64 * (T / 64 / 64) + x / 64 % 64 = x / 64 by omega] at this
      exact low_zero (by simpa using this) x rfl
    · by_cases e3 : x / 64 / 64 = k
      · by_cases e4 : x / 64 = 64 * k + m
        · have := f3 (x % 64) (by omega)
          rwa [← e4, show 64 * (x / 64) + x % 64 = x by omega] at this
        · have := hm.2 (x / 64 % 64) (by omega)
          exact low_zero this x (by omega)
      · have := g4 (x / 64 / 64) (by omega) (by omega)
        exact mid_zero (by simpa using this) x (by omega)

theorem ab4 {S : St} {T k0 k1 k : Nat} (h0 : UpR (fun b => S (64 * (T / 64) + b)) (T % 64) k0 false) (h1 : UpR (fun b => lowW S (64 * (T / 64 / 64) + b) != 0) (T / 64 % 64 + 1) k1 false)
    (h : UpR (fun j => midW S j != 0) (T / 64 / 64 + 1) k false) (x : Nat) (hx1 : T ≤ x) (hx2 : x < 262144) : S x = false := by
  have h5 := same_word (up_out h0)
  by_cases e1 : x / 64 = T / 64
  · exact h5 x hx1 e1
  · by_cases e2 : x / 64 / 64 = T / 64 / 64
    · have := up_out h1 (x / 64 % 64) (by omega) (by omega)
      rw [show 64 * (T / 64 / 64) + x / 64 % 64 = x / 64 by omega] at this
      exact low_zero (by simpa using this) x rfl
    · have := up_out h (x / 64 / 64) (by omega) (by omega)
      exact mid_zero (by simpa using this) x (by omega)

theorem same_word' {S : St} {T : Nat} (h : ∀ x : Nat, (x : Int) ≤ ((T % 64 : Nat) : Int) → x < 64 → S (64 * (T / 64) + x) = false) (x : Nat) (h1 : x ≤ T) (h2 : x / 64 = T / 64) : S x = false := by
  have := h (x % 64) (by omega) (by omega)
  rwa [← h2, show 64 * (x / 64) + x % 64 = x by omega] at this

theorem be1 {S : St} {T k : Nat} (h1 : k < 64) (h2 : (k : Int) ≤ ((T % 64 : Nat) : Int)) (h3 : S (64 * (T / 64) + k) = true) (h4 : ∀ x : Nat, k < x → (x : Int) ≤ ((T % 64 : Nat) : Int) → x < 64 → S (64 * (T / 64) + x) = false) : BeN S T (64 * (T / 64) + k) := by
  refine ⟨by omega, h3, fun x hx1 hx2 => ?_⟩
  have := h4 (x - 64 * (T / 64)) (by omega) (by omega) (by omega)
  rwa [show 64 * (T / 64) + (x - 64 * (T / 64)) = x by omega] at this

theorem be2 {S : St} {T k c : Nat} (h5 : ∀ x : Nat, (x : Int) ≤ ((T % 64 : Nat) : Int) → x < 64 → S (64 * (T / 64) + x) = false) (h1 : k < 64) (h2 : (k : Int) ≤ ((T / 64 % 64 : Nat) : Int) - 1)
    (h4 : ∀ x : Nat, k < x → (x : Int) ≤ ((T / 64 % 64 : Nat) : Int) - 1 → x < 64 → (lowW S (64 * (T / 64 / 64) + x) != 0) = false) (hf : LaR S (64 * (T / 64 / 64) + k) c) : BeN S T (64 * (64 * (T / 64 / 64) + k) + c) := by
  have h6 := same_word' h5
  obtain ⟨f1, f2, f3⟩ := hf
  refine ⟨by omega, f2, fun x hx1 hx2 => ?_⟩
  by_cases e1 : x / 64 = T / 64
  · exact h6 x hx2 e1
  · by_cases e2 : x / 64 = 64 * (T / 64 / 64) + k
    · have := f3 (x % 64) (by omega) (by omega)
      rwa [← e2, show 64 * (x / 64) + x % 64 = x by omega] at this
    · have := h4 (x / 64 - 64 * (T / 64 / 64)) (by omega) (by omega) (by omega)
      rw [show 64 * (T / 64 / 64) + (x / 64 - 64 * (T / 64 / 64)) = x / 64 by omega] at this
      exact low_zero (by simpa using this) x rfl

theorem be3 {S : St} {T k m c : Nat} (h5 : ∀ x : Nat, (x : Int) ≤ ((T % 64 : Nat) : Int) → x < 64 → S (64 * (T / 64) + x) = false) (h6 : ∀ x : Nat, (x : Int) ≤ ((T / 64 % 64 : Nat) : Int) - 1 → x < 64 → (lowW S (64 * (T / 64 / 64) + x) != 0) = false)
    (h1 : k < 64) (h2 : (k : Int) ≤ ((T / 64 / 64 : Nat) : Int) - 1) (h4 : ∀ x : Nat, k < x → (x : Int) ≤ ((T / 64 / 64 : Nat) : Int) - 1 → x < 64 → (midW S x != 0) = false) (hT : T < 262144)
    (hm : m < 64 ∧ (∀ x, m < x → x < 64 → lowW S (64 * k + x) = 0)) (hf : LaR S (64 * k + m) c) : BeN S T (64 * (64 * k + m) + c) := by
  have h7 := same_word' h5
  obtain ⟨f1, f2, f3⟩ := hf
  refine ⟨by omega, f2, fun x hx1 hx2 => ?_⟩
  by_cases e1 : x / 64 = T / 64
  · exact h7 x hx2 e1
  · by_cases e2 : x / 64 / 64 = T / 64 / 64
    · have := h6 (x / 64 % 64) (by omega) (by omega)
      rw [show 64 * (T / 64 / 64) + x / 64 % 64 = x / 64 by omega] at this
      exact low_zero (by simpa using this) x rfl
    · by_cases e3 : x / 64 / 64 = k
      · by_cases e4 : x / 64 = 64 * k + m
        · have := f3 (x % 64) (by omega) (by omega)
          rwa [← e4, show 64 * (x / 64) + x % 64 = x by omega] at this
        · have := hm.2 (x / 64 % 64) (by omega) (by omega)
          exact low_zero this x (by omega)
      · have := h4 (x / 64 / 64) (by omega) (by omega) (by omega)
        exact mid_zero (by simpa using this) x (by omega)

theorem be4 {S : St} {T : Nat} (h5 : ∀ x : Nat, (x : Int) ≤ ((T % 64 : Nat) : Int) → x < 64 → S (64 * (T / 64) + x) = false) (h6 : ∀ x : Nat, (x : Int) ≤ ((T / 64 % 64 : Nat) : Int) - 1 → x < 64 → (lowW S (64 * (T / 64 / 64) + x) != 0) = false)
    (h4 : ∀ x : Nat, (x : Int) ≤ ((T / 64 / 64 : Nat) : Int) - 1 → x < 64 → (midW S x != 0) = false) (hT : T < 262144) (x : Nat) (hx2 : x ≤ T) : S x = false := by
  have h7 := same_word' h5
  by_cases e1 : x / 64 = T / 64
  · exact h7 x hx2 e1
  · by_cases e2 : x / 64 / 64 = T / 64 / 64
    · have := h6 (x / 64 % 64) (by omega) (by omega)
      rw [show 64 * (T / 64 / 64) + x / 64 % 64 = x / 64 by omega] at this
      exact low_zero (by simpa using this) x rfl
    · have := h4 (x / 64 / 64) (by omega) (by omega)
      exact mid_zero (by simpa using this) x (by omega)

set_option maxHeartbeats 8000000 in
set_option maxRecDepth 100000 in
theorem first_calls (S : St) (i : Nat) (hi : i < 4096) (h : lowW S i ≠ 0) : ∃ c, FiR S i c ∧ ∀ W g (X : Int), X = (i : Int) → Bm W g S → Tz W →
    Calls Tryd.prog 29 #[.pointer (some ⟨g, 0, none⟩), .int .i64 X] W fun e w' => e = .returned (.int .i64 (((64 * i + c : Nat)) : Int)) ∧ w' = W := by
  obtain ⟨c1, c2, c3⟩ := ctz_spec h
  refine ⟨_, ⟨c1, c2, c3⟩, fun W g X hX hM hT => ?_⟩
  subst hX
  have hc0 := hM.low i hi
  have TZ := Aside0.mk (tz_calls (lowW S i) (lowW_lt S i) h W hT)
  obtain ⟨v, hv⟩ : ∃ v, v = lowW S i := ⟨_, rfl⟩
  have e : Lib.ctz 64 (wd fun b => S (64 * i + b)) = Lib.ctz 64 v := by rw [hv]; rfl
  rw [e] at c1 ⊢
  rw [← hv] at hc0 TZ
  obtain ⟨k, hk⟩ : ∃ k, k = Lib.ctz 64 v := ⟨_, rfl⟩
  rw [← hk] at TZ c1 ⊢
  clear h c2 c3 hM hT hv e hk
  go_enter Tryd.func29, Tryd.ntmps29
  go_wp2_with (first | (go_at_call 27; (with_reducible refine (TZ.out).mono ?_); rintro e w4 ⟨rfl, h4⟩; subst w4))
  go_ret
  refine ⟨?_, rfl⟩
  rw [show ((64 * i + k : Nat) : Int) = 64 * (i : Int) + (k : Int) by omega]
  rfl

set_option maxHeartbeats 8000000 in
set_option maxRecDepth 100000 in
theorem last_calls (S : St) (i : Nat) (hi : i < 4096) (h : lowW S i ≠ 0) : ∃ c, LaR S i c ∧ ∀ W g (X : Int), X = (i : Int) → Bm W g S →
    Calls Tryd.prog 31 #[.pointer (some ⟨g, 0, none⟩), .int .i64 X] W fun e w' => e = .returned (.int .i64 (((64 * i + c : Nat)) : Int)) ∧ w' = W := by
  obtain ⟨c1, c2, c3, c4⟩ := len_spec h
  obtain ⟨k, hk⟩ : ∃ k, Lib.bitLen (lowW S i) = k + 1 := ⟨Lib.bitLen (lowW S i) - 1, by have := c1; unfold lowW; omega⟩
  have hk' : Lib.bitLen (wd fun b => S (64 * i + b)) = k + 1 := hk
  rw [hk'] at c2 c3 c4
  refine ⟨k, ⟨by omega, c3, fun x h1 h2 => c4 x (by omega) h2⟩, fun W g X hX hM => ?_⟩
  subst hX
  have hc0 := hM.low i hi
  have TZ := Aside0.mk (len64_calls (lowW S i) (lowW_lt S i) W)
  rw [hk] at TZ
  obtain ⟨v, hv⟩ : ∃ v, v = lowW S i := ⟨_, rfl⟩
  rw [← hv] at hc0 TZ
  have hk6 : k ≤ 63 := by omega
  clear h c1 c2 c3 c4 hM hv hk hk'
  go_enter Tryd.func31, Tryd.ntmps31
  go_wp2_with (first | (go_at_call 32; (with_reducible refine (TZ.out).mono ?_); rintro e w4 ⟨rfl, h4⟩; subst w4))
  go_ret
  refine ⟨?_, rfl⟩
  rw [show ((64 * i + k : Nat) : Int) = 64 * (i : Int) + (k : Int) by omega]
  first
    | rfl
    | (show Ending.returned (Value.int .i64 (64 * (i : Int) + ((k + 1 : Nat) : Int) - 1)) = _
       rw [show 64 * (i : Int) + ((k + 1 : Nat) : Int) - 1 = 64 * (i : Int) + (k : Int) by omega])
    | (show Ending.returned (Value.int .i64 (64 * (i : Int) + ((k : Int) + 1) - 1)) = _
       rw [show 64 * (i : Int) + ((k : Int) + 1) - 1 = 64 * (i : Int) + (k : Int) by omega])

theorem mid_low {S : St} {j : Nat} (h : midW S j ≠ 0) : ∃ m, m = Lib.ctz 64 (midW S j) ∧ m < 64 ∧ lowW S (64 * j + m) ≠ 0 ∧ ∀ x, x < m → lowW S (64 * j + x) = 0 := by
  obtain ⟨c1, c2, c3⟩ := ctz_spec h
  exact ⟨_, rfl, c1, bne_iff_ne.mp c2, fun x hx => by have := c3 x hx; simpa using this⟩
theorem mid_high {S : St} {j : Nat} (h : midW S j ≠ 0) : ∃ m, Lib.bitLen (midW S j) = m + 1 ∧ m < 64 ∧ lowW S (64 * j + m) ≠ 0 ∧ ∀ x, m < x → x < 64 → lowW S (64 * j + x) = 0 := by
  obtain ⟨c1, c2, c3, c4⟩ := len_spec h
  obtain ⟨k, hk⟩ : ∃ k, Lib.bitLen (midW S j) = k + 1 := ⟨Lib.bitLen (midW S j) - 1, by have := c1; unfold midW; omega⟩
  have hk' : Lib.bitLen (wd fun b => lowW S (64 * j + b) != 0) = k + 1 := hk
  rw [hk'] at c2 c3 c4
  exact ⟨k, hk, by omega, by simpa using c3, fun x h1 h2 => by simpa using c4 x (by omega) h2⟩
end Go.Proofs.YtgcelkndgjjbdaaDoor.PBm
