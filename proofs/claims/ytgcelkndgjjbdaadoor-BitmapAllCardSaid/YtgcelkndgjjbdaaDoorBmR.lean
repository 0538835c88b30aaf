/- BitmapCounts. -/
import Derived.Test.YtgcelkndgjjbdaaDoorBmQ
import Derived.Test.YtgcelkndgjjbdaaDoorWGuard
namespace Go.Proofs.YtgcelkndgjjbdaaDoor.PBm
open Go.RowKit Go.Proofs.YtgcelkndgjjbdaaDoorW.PrintWords Go.Proofs.YtgcelkndgjjbdaaDoorW.PrintLast Go.Proofs.YtgcelkndgjjbdaaDoorW.PrintMore
set_option linter.unusedVariables false
set_option linter.unusedSimpArgs false

theorem count_split (S : St) {a b c : Int} (h1 : a ≤ b) (h2 : b ≤ c) : count S a b + count S b c = count S a c := by
  unfold count
  generalize 262144 = n
  induction n with
  | zero => rfl
  | succ n ih =>
    simp only [cnt]
    have e : (if inR S a c n then 1 else 0) = (if inR S a b n then 1 else 0) + (if inR S b c n then 1 else 0) := by
      unfold inR
      cases S n
      · simp
      · by_cases x1 : a ≤ (n : Int)
        · by_cases x2 : (n : Int) < b
          · have x3 : (n : Int) < c := by omega
            have x4 : ¬ b ≤ (n : Int) := by omega
            simp [x1, x2, x3, x4]
          · have x4 : b ≤ (n : Int) := by omega
            by_cases x3 : (n : Int) < c <;> simp [x1, x2, x3, x4]
        · have x2 : ¬ b ≤ (n : Int) := by omega
          simp [x1, x2]
    omega
theorem count_empty (S : St) {a b : Int} (h : ¬ a ≤ b) : count S a b = 0 := count_none fun x hx h2 => by omega
theorem count_le (S : St) (a b : Int) : count S a b ≤ 262144 := cnt_le _ _
theorem count_upto (S : St) (n : Nat) (hn : n ≤ 262144) : count S 0 (n : Int) = cnt S n := by
  unfold count
  obtain ⟨d, hd⟩ : ∃ d, 262144 = n + d := ⟨262144 - n, by omega⟩
  rw [hd, cnt_add, cnt_zero (f := fun b => inR S 0 (n : Int) (n + b)) (fun b hb => by
    unfold inR
    have : decide (((n + b : Nat) : Int) < (n : Int)) = false := decide_eq_false (by omega)
    rw [this]
    simp), Nat.add_zero]
  refine cnt_ext fun b hb => ?_
  unfold inR
  have h1 : ((b : Nat) : Int) < (n : Int) := by omega
  simp [h1]

/-- At the count below a tick is the next one above. -/
theorem at_above {S : St} {t : Nat} (ht : t < 262144) {a a' : Int} {is is' : Bool} (h : AtR S ((count S 0 (t : Int) : Nat) : Int) a is) (h' : AbR S (t : Int) a' is') : a = a' ∧ is = is' := by
  rw [count_upto S t (by omega)] at h
  rcases h' with ⟨rfl, n, rfl, h1, h2, h3, h4⟩ | ⟨rfl, rfl, h4⟩
  · rw [Int.toNat_natCast] at h2 h4
    have e : cnt S n = cnt S t := cnt_none h2 h4
    rcases h with ⟨rfl, m, rfl, g1, g2, g3⟩ | ⟨rfl, rfl, g⟩
    · refine ⟨?_, rfl⟩
      have e2 : cnt S m = cnt S n := by omega
      have e3 := cnt_succ_of g2
      have e4 := cnt_succ_of h3
      rcases Nat.lt_trichotomy m n with l | l | l
      · have := cnt_mono (f := S) (show m + 1 ≤ n by omega)
        omega
      · omega
      · have := cnt_mono (f := S) (show n + 1 ≤ m by omega)
        omega
    · have e4 := cnt_succ_of h3
      have := cnt_mono (f := S) (show n + 1 ≤ 262144 by omega)
      unfold len at g
      omega
  · rcases h with ⟨rfl, m, rfl, g1, g2, g3⟩ | ⟨rfl, rfl, g⟩
    · have e4 := cnt_succ_of g2
      have e5 : cnt S 262144 = cnt S t := cnt_none (by omega) (fun x h1 h2 => h4 x (by omega) h2)
      have := cnt_mono (f := S) (show m + 1 ≤ 262144 by omega)
      omega
    · exact ⟨rfl, rfl⟩

theorem above_uniq {S : St} {t a a' : Int} {is is' : Bool} (h : AbR S t a is) (h' : AbR S t a' is') : a = a' ∧ is = is' := by
  rcases h with ⟨rfl, n, rfl, h1, h2, h3, h4⟩ | ⟨rfl, rfl, h4⟩ <;> rcases h' with ⟨rfl, m, rfl, g1, g2, g3, g4⟩ | ⟨rfl, rfl, g4⟩
  · refine ⟨?_, rfl⟩
    rcases Nat.lt_trichotomy n m with l | l | l
    · have := g4 n h2 l
      rw [h3] at this
      cases this
    · omega
    · have := h4 m g2 l
      rw [g3] at this
      cases this
  · have := g4 n (by omega) h1
    rw [h3] at this
    cases this
  · have := h4 m (by omega) g1
    rw [g3] at this
    cases this
  · exact ⟨rfl, rfl⟩

set_option maxHeartbeats 16000000 in
set_option maxRecDepth 100000 in
theorem counts_calls {W : World} {A : Option Addr} {n cap : Nat} {f : Nat → Int} (a b c : Int) (hl : Ints W A n f) (hn : n ≤ 9223372036854775807) (hT : Tz W) :
    Calls Tryd.prog 3 #[.slice A n cap, .int .i64 a, .int .i64 b, .int .i64 c] W fun e w' => e = .returned (.bool true) ∧ Below W.heap.size W w' := by
  have HL := Aside0.mk (filled_calls (cap := cap) hl hn)
  have HTW := Aside0.mk hT
  clear hl hT
  by_cases h1 : a ≤ b
  · have h1d : decide (a ≤ b) = true := decide_eq_true h1
    have h1e : ¬ b < a := by omega
    have h1f : decide (b < a) = false := decide_eq_false h1e
    by_cases h2 : b ≤ c
    · have h2d : decide (b ≤ c) = true := decide_eq_true h2
      by_cases ra : a < 0
      · have rad : decide (a < 0) = true := decide_eq_true ra
        go_enter Tryd.func3, Tryd.ntmps3
        go_wp2_with (go_at_call 7; (with_reducible refine (HL.out).mono ?_); rintro e w1 ⟨rfl, h1, f1⟩; have H1 := Aside0.mk h1; have G1 := Aside0.mk f1; clear h1 f1)
        obtain ⟨S, hS⟩ : ∃ S, S = fillN f n := ⟨_, rfl⟩
        rw [← hS] at H1
        clear hS HL
        have HT1 : Aside0 (Tz w1) := ⟨HTW.out.below G1.out HTW.out.lt⟩
        have CA := Aside0.mk (fun x y => count_calls H1.out x y)
        have LE := Aside0.mk (len_calls H1.out)
        obtain ⟨N, hN⟩ : ∃ N, N = count S 0 262144 := ⟨_, rfl⟩
        have C0 := Aside0.mk (CA.out 0 262144)
        rw [← hN] at C0 LE
        have hne : (((N : Nat) : Int) != (N : Int)) = false := by simp
        clear hN HTW
        have hs := count_split S (a := a) (b := b) (c := c) (by omega) (by omega)
        have q1 := count_le S a b
        have q2 := count_le S b c
        have E1 := Aside0.mk (CA.out a b)
        have E2 := Aside0.mk (CA.out b c)
        have E3 := Aside0.mk (CA.out a c)
        obtain ⟨x, hx⟩ : ∃ x, x = count S a b := ⟨_, rfl⟩
        obtain ⟨y, hy⟩ : ∃ y, y = count S b c := ⟨_, rfl⟩
        obtain ⟨z9, hz9⟩ : ∃ z9, z9 = count S a c := ⟨_, rfl⟩
        rw [← hx] at E1 hs q1
        rw [← hy] at E2 hs q2
        rw [← hz9] at E3 hs
        have hne2 : (((x : Nat) : Int) + (y : Int) != (z9 : Int)) = false := by
          have : ((x : Int) + (y : Int)) = (z9 : Int) := by omega
          rw [this]; simp
        clear hx hy hz9 hs
        go_wp2_with (first
          | (go_at_call 8; (with_reducible refine (E1.out).mono ?_); rintro e w4 ⟨rfl, h4⟩; subst w4)
          | (go_at_call 8; (with_reducible refine (E2.out).mono ?_); rintro e w4 ⟨rfl, h4⟩; subst w4)
          | (go_at_call 8; (with_reducible refine (E3.out).mono ?_); rintro e w4 ⟨rfl, h4⟩; subst w4)
          | (go_at_call 8; (with_reducible refine (C0.out).mono ?_); rintro e w4 ⟨rfl, h4⟩; subst w4)
          | (go_at_call 9; (with_reducible refine (LE.out).mono ?_); rintro e w4 ⟨rfl, h4⟩; subst w4))
        go_ret
        exact ⟨rfl, G1.out⟩
      · have rad : decide (a < 0) = false := decide_eq_false ra
        by_cases rb : 262144 ≤ a
        · have rbd : decide (262144 ≤ a) = true := decide_eq_true rb
          go_enter Tryd.func3, Tryd.ntmps3
          go_wp2_with (go_at_call 7; (with_reducible refine (HL.out).mono ?_); rintro e w1 ⟨rfl, h1, f1⟩; have H1 := Aside0.mk h1; have G1 := Aside0.mk f1; clear h1 f1)
          obtain ⟨S, hS⟩ : ∃ S, S = fillN f n := ⟨_, rfl⟩
          rw [← hS] at H1
          clear hS HL
          have HT1 : Aside0 (Tz w1) := ⟨HTW.out.below G1.out HTW.out.lt⟩
          have CA := Aside0.mk (fun x y => count_calls H1.out x y)
          have LE := Aside0.mk (len_calls H1.out)
          obtain ⟨N, hN⟩ : ∃ N, N = count S 0 262144 := ⟨_, rfl⟩
          have C0 := Aside0.mk (CA.out 0 262144)
          rw [← hN] at C0 LE
          have hne : (((N : Nat) : Int) != (N : Int)) = false := by simp
          clear hN HTW
          have hs := count_split S (a := a) (b := b) (c := c) (by omega) (by omega)
          have q1 := count_le S a b
          have q2 := count_le S b c
          have E1 := Aside0.mk (CA.out a b)
          have E2 := Aside0.mk (CA.out b c)
          have E3 := Aside0.mk (CA.out a c)
          obtain ⟨x, hx⟩ : ∃ x, x = count S a b := ⟨_, rfl⟩
          obtain ⟨y, hy⟩ : ∃ y, y = count S b c := ⟨_, rfl⟩
          obtain ⟨z9, hz9⟩ : ∃ z9, z9 = count S a c := ⟨_, rfl⟩
          rw [← hx] at E1 hs q1
          rw [← hy] at E2 hs q2
          rw [← hz9] at E3 hs
          have hne2 : (((x : Nat) : Int) + (y : Int) != (z9 : Int)) = false := by
            have : ((x : Int) + (y : Int)) = (z9 : Int) := by omega
            rw [this]; simp
          clear hx hy hz9 hs
          go_wp2_with (first
            | (go_at_call 8; (with_reducible refine (E1.out).mono ?_); rintro e w4 ⟨rfl, h4⟩; subst w4)
            | (go_at_call 8; (with_reducible refine (E2.out).mono ?_); rintro e w4 ⟨rfl, h4⟩; subst w4)
            | (go_at_call 8; (with_reducible refine (E3.out).mono ?_); rintro e w4 ⟨rfl, h4⟩; subst w4)
            | (go_at_call 8; (with_reducible refine (C0.out).mono ?_); rintro e w4 ⟨rfl, h4⟩; subst w4)
            | (go_at_call 9; (with_reducible refine (LE.out).mono ?_); rintro e w4 ⟨rfl, h4⟩; subst w4))
          go_ret
          exact ⟨rfl, G1.out⟩
        · have rbd : decide (262144 ≤ a) = false := decide_eq_false rb
          obtain ⟨t, rfl⟩ : ∃ t : Nat, a = t := ⟨a.toNat, by omega⟩
          go_enter Tryd.func3, Tryd.ntmps3
          go_wp2_with (go_at_call 7; (with_reducible refine (HL.out).mono ?_); rintro e w1 ⟨rfl, h1, f1⟩; have H1 := Aside0.mk h1; have G1 := Aside0.mk f1; clear h1 f1)
          obtain ⟨S, hS⟩ : ∃ S, S = fillN f n := ⟨_, rfl⟩
          rw [← hS] at H1
          clear hS HL
          have HT1 : Aside0 (Tz w1) := ⟨HTW.out.below G1.out HTW.out.lt⟩
          have CA := Aside0.mk (fun x y => count_calls H1.out x y)
          have LE := Aside0.mk (len_calls H1.out)
          obtain ⟨N, hN⟩ : ∃ N, N = count S 0 262144 := ⟨_, rfl⟩
          have C0 := Aside0.mk (CA.out 0 262144)
          rw [← hN] at C0 LE
          have hne : (((N : Nat) : Int) != (N : Int)) = false := by simp
          clear hN HTW
          have hs := count_split S (a := (t : Int)) (b := b) (c := c) (by omega) (by omega)
          have q1 := count_le S (t : Int) b
          have q2 := count_le S b c
          have E1 := Aside0.mk (CA.out (t : Int) b)
          have E2 := Aside0.mk (CA.out b c)
          have E3 := Aside0.mk (CA.out (t : Int) c)
          obtain ⟨x, hx⟩ : ∃ x, x = count S (t : Int) b := ⟨_, rfl⟩
          obtain ⟨y, hy⟩ : ∃ y, y = count S b c := ⟨_, rfl⟩
          obtain ⟨z9, hz9⟩ : ∃ z9, z9 = count S (t : Int) c := ⟨_, rfl⟩
          rw [← hx] at E1 hs q1
          rw [← hy] at E2 hs q2
          rw [← hz9] at E3 hs
          have hne2 : (((x : Nat) : Int) + (y : Int) != (z9 : Int)) = false := by
            have : ((x : Int) + (y : Int)) = (z9 : Int) := by omega
            rw [this]; simp
          clear hx hy hz9 hs
          have ht : t < 262144 := by omega
          obtain ⟨a2, is2, hA2, C2⟩ := above_calls H1.out HT1.out (t : Int)
          have XA2 : Aside0 (∀ m, Calls Tryd.prog 11 #[.pointer (some ⟨W.heap.size, 0, none⟩), .int .i64 (t : Int)] (w1.drewN m) fun e w' => e = .returned (.tuple #[.int .i64 a2, .bool is2]) ∧ w' = w1.drewN m) := ⟨fun m => by
            obtain ⟨a3, is3, hA3, C3⟩ := above_calls (H1.out.drewN m) (HT1.out.drewN m) (t : Int)
            obtain ⟨rfl, rfl⟩ := above_uniq hA2 hA3
            exact C3⟩
          have YA := Aside0.mk hA2
          have CT := Aside0.mk (CA.out 0 (t : Int))
          have UQ : Aside0 (∀ x is, AtR S ((count S 0 (t : Int) : Nat) : Int) x is → x = a2 ∧ is = is2) := ⟨fun x is h => at_above ht h hA2⟩
          have hz0 := count_le S 0 (t : Int)
          obtain ⟨z, hz⟩ : ∃ z, z = count S 0 (t : Int) := ⟨_, rfl⟩
          rw [← hz] at CT UQ hz0
          have AT := Aside0.mk (at_calls H1.out HT1.out (z : Int) (by omega))
          have s1 : (a2 == a2) = true := by simp
          have s2 : (is2 == is2) = true := by simp
          clear hA2 C2 hz
          go_wp2_with (first
            | (go_at_call 8; (with_reducible refine (E1.out).mono ?_); rintro e w4 ⟨rfl, h4⟩; subst w4)
            | (go_at_call 8; (with_reducible refine (E2.out).mono ?_); rintro e w4 ⟨rfl, h4⟩; subst w4)
            | (go_at_call 8; (with_reducible refine (E3.out).mono ?_); rintro e w4 ⟨rfl, h4⟩; subst w4)
            | (go_at_call 8; (with_reducible refine (C0.out).mono ?_); rintro e w4 ⟨rfl, h4⟩; subst w4)
            | (go_at_call 9; (with_reducible refine (LE.out).mono ?_); rintro e w4 ⟨rfl, h4⟩; subst w4)
            | (go_at_call 8; (with_reducible refine (CT.out).mono ?_); rintro e w4 ⟨rfl, h4⟩; subst w4)
            | (go_at_call 10; (with_reducible refine (AT.out).mono ?_); rintro e w4 ⟨x, is, rfl, hx, m, rfl⟩; obtain ⟨rfl, rfl⟩ := UQ.out _ _ hx; clear hx)
            | (go_at_call 11; (with_reducible refine (XA2.out _).mono ?_); rintro e w4 ⟨rfl, h4⟩; subst w4))
          go_ret
          exact ⟨rfl, pw_below_drewN G1.out _⟩
    · have h2d : decide (b ≤ c) = false := decide_eq_false h2
      have h2e : c < b := by omega
      by_cases ra : a < 0
      · have rad : decide (a < 0) = true := decide_eq_true ra
        go_enter Tryd.func3, Tryd.ntmps3
        go_wp2_with (go_at_call 7; (with_reducible refine (HL.out).mono ?_); rintro e w1 ⟨rfl, h1, f1⟩; have H1 := Aside0.mk h1; have G1 := Aside0.mk f1; clear h1 f1)
        obtain ⟨S, hS⟩ : ∃ S, S = fillN f n := ⟨_, rfl⟩
        rw [← hS] at H1
        clear hS HL
        have HT1 : Aside0 (Tz w1) := ⟨HTW.out.below G1.out HTW.out.lt⟩
        have CA := Aside0.mk (fun x y => count_calls H1.out x y)
        have LE := Aside0.mk (len_calls H1.out)
        obtain ⟨N, hN⟩ : ∃ N, N = count S 0 262144 := ⟨_, rfl⟩
        have C0 := Aside0.mk (CA.out 0 262144)
        rw [← hN] at C0 LE
        have hne : (((N : Nat) : Int) != (N : Int)) = false := by simp
        clear hN HTW
        go_wp2_with (first
          | (go_at_call 8; (with_reducible refine (C0.out).mono ?_); rintro e w4 ⟨rfl, h4⟩; subst w4)
          | (go_at_call 9; (with_reducible refine (LE.out).mono ?_); rintro e w4 ⟨rfl, h4⟩; subst w4))
        go_ret
        exact ⟨rfl, G1.out⟩
      · have rad : decide (a < 0) = false := decide_eq_false ra
        by_cases rb : 262144 ≤ a
        · have rbd : decide (262144 ≤ a) = true := decide_eq_true rb
          go_enter Tryd.func3, Tryd.ntmps3
          go_wp2_with (go_at_call 7; (with_reducible refine (HL.out).mono ?_); rintro e w1 ⟨rfl, h1, f1⟩; have H1 := Aside0.mk h1; have G1 := Aside0.mk f1; clear h1 f1)
          obtain ⟨S, hS⟩ : ∃ S, S = fillN f n := ⟨_, rfl⟩
          rw [← hS] at H1
          clear hS HL
          have HT1 : Aside0 (Tz w1) := ⟨HTW.out.below G1.out HTW.out.lt⟩
          have CA := Aside0.mk (fun x y => count_calls H1.out x y)
          have LE := Aside0.mk (len_calls H1.out)
          obtain ⟨N, hN⟩ : ∃ N, N = count S 0 262144 := ⟨_, rfl⟩
          have C0 := Aside0.mk (CA.out 0 262144)
          rw [← hN] at C0 LE
          have hne : (((N : Nat) : Int) != (N : Int)) = false := by simp
          clear hN HTW
          go_wp2_with (first
            | (go_at_call 8; (with_reducible refine (C0.out).mono ?_); rintro e w4 ⟨rfl, h4⟩; subst w4)
            | (go_at_call 9; (with_reducible refine (LE.out).mono ?_); rintro e w4 ⟨rfl, h4⟩; subst w4))
          go_ret
          exact ⟨rfl, G1.out⟩
        · have rbd : decide (262144 ≤ a) = false := decide_eq_false rb
          obtain ⟨t, rfl⟩ : ∃ t : Nat, a = t := ⟨a.toNat, by omega⟩
          go_enter Tryd.func3, Tryd.ntmps3
          go_wp2_with (go_at_call 7; (with_reducible refine (HL.out).mono ?_); rintro e w1 ⟨rfl, h1, f1⟩; have H1 := Aside0.mk h1; have G1 := Aside0.mk f1; clear h1 f1)
          obtain ⟨S, hS⟩ : ∃ S, S = fillN f n := ⟨_, rfl⟩
          rw [← hS] at H1
          clear hS HL
          have HT1 : Aside0 (Tz w1) := ⟨HTW.out.below G1.out HTW.out.lt⟩
          have CA := Aside0.mk (fun x y => count_calls H1.out x y)
          have LE := Aside0.mk (len_calls H1.out)
          obtain ⟨N, hN⟩ : ∃ N, N = count S 0 262144 := ⟨_, rfl⟩
          have C0 := Aside0.mk (CA.out 0 262144)
          rw [← hN] at C0 LE
          have hne : (((N : Nat) : Int) != (N : Int)) = false := by simp
          clear hN HTW
          have ht : t < 262144 := by omega
          obtain ⟨a2, is2, hA2, C2⟩ := above_calls H1.out HT1.out (t : Int)
          have XA2 : Aside0 (∀ m, Calls Tryd.prog 11 #[.pointer (some ⟨W.heap.size, 0, none⟩), .int .i64 (t : Int)] (w1.drewN m) fun e w' => e = .returned (.tuple #[.int .i64 a2, .bool is2]) ∧ w' = w1.drewN m) := ⟨fun m => by
            obtain ⟨a3, is3, hA3, C3⟩ := above_calls (H1.out.drewN m) (HT1.out.drewN m) (t : Int)
            obtain ⟨rfl, rfl⟩ := above_uniq hA2 hA3
            exact C3⟩
          have YA := Aside0.mk hA2
          have CT := Aside0.mk (CA.out 0 (t : Int))
          have UQ : Aside0 (∀ x is, AtR S ((count S 0 (t : Int) : Nat) : Int) x is → x = a2 ∧ is = is2) := ⟨fun x is h => at_above ht h hA2⟩
          have hz0 := count_le S 0 (t : Int)
          obtain ⟨z, hz⟩ : ∃ z, z = count S 0 (t : Int) := ⟨_, rfl⟩
          rw [← hz] at CT UQ hz0
          have AT := Aside0.mk (at_calls H1.out HT1.out (z : Int) (by omega))
          have s1 : (a2 == a2) = true := by simp
          have s2 : (is2 == is2) = true := by simp
          clear hA2 C2 hz
          go_wp2_with (first
            | (go_at_call 8; (with_reducible refine (C0.out).mono ?_); rintro e w4 ⟨rfl, h4⟩; subst w4)
            | (go_at_call 9; (with_reducible refine (LE.out).mono ?_); rintro e w4 ⟨rfl, h4⟩; subst w4)
            | (go_at_call 8; (with_reducible refine (CT.out).mono ?_); rintro e w4 ⟨rfl, h4⟩; subst w4)
            | (go_at_call 10; (with_reducible refine (AT.out).mono ?_); rintro e w4 ⟨x, is, rfl, hx, m, rfl⟩; obtain ⟨rfl, rfl⟩ := UQ.out _ _ hx; clear hx)
            | (go_at_call 11; (with_reducible refine (XA2.out _).mono ?_); rintro e w4 ⟨rfl, h4⟩; subst w4))
          go_ret
          exact ⟨rfl, pw_below_drewN G1.out _⟩
  · have h1d : decide (a ≤ b) = false := decide_eq_false h1
    have h1e : b < a := by omega
    have h1f : decide (b < a) = true := decide_eq_true h1e
    by_cases ra : a < 0
    · have rad : decide (a < 0) = true := decide_eq_true ra
      go_enter Tryd.func3, Tryd.ntmps3
      go_wp2_with (go_at_call 7; (with_reducible refine (HL.out).mono ?_); rintro e w1 ⟨rfl, h1, f1⟩; have H1 := Aside0.mk h1; have G1 := Aside0.mk f1; clear h1 f1)
      obtain ⟨S, hS⟩ : ∃ S, S = fillN f n := ⟨_, rfl⟩
      rw [← hS] at H1
      clear hS HL
      have HT1 : Aside0 (Tz w1) := ⟨HTW.out.below G1.out HTW.out.lt⟩
      have CA := Aside0.mk (fun x y => count_calls H1.out x y)
      have LE := Aside0.mk (len_calls H1.out)
      obtain ⟨N, hN⟩ : ∃ N, N = count S 0 262144 := ⟨_, rfl⟩
      have C0 := Aside0.mk (CA.out 0 262144)
      rw [← hN] at C0 LE
      have hne : (((N : Nat) : Int) != (N : Int)) = false := by simp
      clear hN HTW
      have E1 := Aside0.mk (CA.out a b)
      rw [count_empty S (a := a) (b := b) (by omega)] at E1
      have E2 : Aside0 (Calls Tryd.prog 8 #[.pointer (some ⟨W.heap.size, 0, none⟩), .int .i64 a, .int .i64 b] w1 fun e w' => e = .returned (.int .i64 0) ∧ w' = w1) := ⟨E1.out⟩
      clear E1
      go_wp2_with (first
        | (go_at_call 8; (with_reducible refine (E2.out).mono ?_); rintro e w4 ⟨rfl, h4⟩; subst w4)
        | (go_at_call 8; (with_reducible refine (C0.out).mono ?_); rintro e w4 ⟨rfl, h4⟩; subst w4)
        | (go_at_call 9; (with_reducible refine (LE.out).mono ?_); rintro e w4 ⟨rfl, h4⟩; subst w4))
      go_ret
      exact ⟨rfl, G1.out⟩
    · have rad : decide (a < 0) = false := decide_eq_false ra
      by_cases rb : 262144 ≤ a
      · have rbd : decide (262144 ≤ a) = true := decide_eq_true rb
        go_enter Tryd.func3, Tryd.ntmps3
        go_wp2_with (go_at_call 7; (with_reducible refine (HL.out).mono ?_); rintro e w1 ⟨rfl, h1, f1⟩; have H1 := Aside0.mk h1; have G1 := Aside0.mk f1; clear h1 f1)
        obtain ⟨S, hS⟩ : ∃ S, S = fillN f n := ⟨_, rfl⟩
        rw [← hS] at H1
        clear hS HL
        have HT1 : Aside0 (Tz w1) := ⟨HTW.out.below G1.out HTW.out.lt⟩
        have CA := Aside0.mk (fun x y => count_calls H1.out x y)
        have LE := Aside0.mk (len_calls H1.out)
        obtain ⟨N, hN⟩ : ∃ N, N = count S 0 262144 := ⟨_, rfl⟩
        have C0 := Aside0.mk (CA.out 0 262144)
        rw [← hN] at C0 LE
        have hne : (((N : Nat) : Int) != (N : Int)) = false := by simp
        clear hN HTW
        have E1 := Aside0.mk (CA.out a b)
        rw [count_empty S (a := a) (b := b) (by omega)] at E1
        have E2 : Aside0 (Calls Tryd.prog 8 #[.pointer (some ⟨W.heap.size, 0, none⟩), .int .i64 a, .int .i64 b] w1 fun e w' => e = .returned (.int .i64 0) ∧ w' = w1) := ⟨E1.out⟩
        clear E1
        go_wp2_with (first
          | (go_at_call 8; (with_reducible refine (E2.out).mono ?_); rintro e w4 ⟨rfl, h4⟩; subst w4)
          | (go_at_call 8; (with_reducible refine (C0.out).mono ?_); rintro e w4 ⟨rfl, h4⟩; subst w4)
          | (go_at_call 9; (with_reducible refine (LE.out).mono ?_); rintro e w4 ⟨rfl, h4⟩; subst w4))
        go_ret
        exact ⟨rfl, G1.out⟩
      · have rbd : decide (262144 ≤ a) = false := decide_eq_false rb
        obtain ⟨t, rfl⟩ : ∃ t : Nat, a = t := ⟨a.toNat, by omega⟩
        go_enter Tryd.func3, Tryd.ntmps3
        go_wp2_with (go_at_call 7; (with_reducible refine (HL.out).mono ?_); rintro e w1 ⟨rfl, h1, f1⟩; have H1 := Aside0.mk h1; have G1 := Aside0.mk f1; clear h1 f1)
        obtain ⟨S, hS⟩ : ∃ S, S = fillN f n := ⟨_, rfl⟩
        rw [← hS] at H1
        clear hS HL
        have HT1 : Aside0 (Tz w1) := ⟨HTW.out.below G1.out HTW.out.lt⟩
        have CA := Aside0.mk (fun x y => count_calls H1.out x y)
        have LE := Aside0.mk (len_calls H1.out)
        obtain ⟨N, hN⟩ : ∃ N, N = count S 0 262144 := ⟨_, rfl⟩
        have C0 := Aside0.mk (CA.out 0 262144)
        rw [← hN] at C0 LE
        have hne : (((N : Nat) : Int) != (N : Int)) = false := by simp
        clear hN HTW
        have E1 := Aside0.mk (CA.out (t : Int) b)
        rw [count_empty S (a := (t : Int)) (b := b) (by omega)] at E1
        have E2 : Aside0 (Calls Tryd.prog 8 #[.pointer (some ⟨W.heap.size, 0, none⟩), .int .i64 (t : Int), .int .i64 b] w1 fun e w' => e = .returned (.int .i64 0) ∧ w' = w1) := ⟨E1.out⟩
        clear E1
        have ht : t < 262144 := by omega
        obtain ⟨a2, is2, hA2, C2⟩ := above_calls H1.out HT1.out (t : Int)
        have XA2 : Aside0 (∀ m, Calls Tryd.prog 11 #[.pointer (some ⟨W.heap.size, 0, none⟩), .int .i64 (t : Int)] (w1.drewN m) fun e w' => e = .returned (.tuple #[.int .i64 a2, .bool is2]) ∧ w' = w1.drewN m) := ⟨fun m => by
          obtain ⟨a3, is3, hA3, C3⟩ := above_calls (H1.out.drewN m) (HT1.out.drewN m) (t : Int)
          obtain ⟨rfl, rfl⟩ := above_uniq hA2 hA3
          exact C3⟩
        have YA := Aside0.mk hA2
        have CT := Aside0.mk (CA.out 0 (t : Int))
        have UQ : Aside0 (∀ x is, AtR S ((count S 0 (t : Int) : Nat) : Int) x is → x = a2 ∧ is = is2) := ⟨fun x is h => at_above ht h hA2⟩
        have hz0 := count_le S 0 (t : Int)
        obtain ⟨z, hz⟩ : ∃ z, z = count S 0 (t : Int) := ⟨_, rfl⟩
        rw [← hz] at CT UQ hz0
        have AT := Aside0.mk (at_calls H1.out HT1.out (z : Int) (by omega))
        have s1 : (a2 == a2) = true := by simp
        have s2 : (is2 == is2) = true := by simp
        clear hA2 C2 hz
        go_wp2_with (first
          | (go_at_call 8; (with_reducible refine (E2.out).mono ?_); rintro e w4 ⟨rfl, h4⟩; subst w4)
          | (go_at_call 8; (with_reducible refine (C0.out).mono ?_); rintro e w4 ⟨rfl, h4⟩; subst w4)
          | (go_at_call 9; (with_reducible refine (LE.out).mono ?_); rintro e w4 ⟨rfl, h4⟩; subst w4)
          | (go_at_call 8; (with_reducible refine (CT.out).mono ?_); rintro e w4 ⟨rfl, h4⟩; subst w4)
          | (go_at_call 10; (with_reducible refine (AT.out).mono ?_); rintro e w4 ⟨x, is, rfl, hx, m, rfl⟩; obtain ⟨rfl, rfl⟩ := UQ.out _ _ hx; clear hx)
          | (go_at_call 11; (with_reducible refine (XA2.out _).mono ?_); rintro e w4 ⟨rfl, h4⟩; subst w4))
        go_ret
        exact ⟨rfl, pw_below_drewN G1.out _⟩
end Go.Proofs.YtgcelkndgjjbdaaDoor.PBm
