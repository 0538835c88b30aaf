/- Above's and Below's walks. -/
import Derived.Test.YtgcelkndgjjbdaaDoorBmL
namespace Go.Proofs.YtgcelkndgjjbdaaDoor.PBm
open Go.RowKit Go.Proofs.YtgcelkndgjjbdaaDoorW.PrintWords Go.Proofs.YtgcelkndgjjbdaaDoorW.PrintLast Go.Proofs.YtgcelkndgjjbdaaDoorW.PrintMore
attribute [local go_sem] max_two min_two
set_option linter.unusedVariables false
set_option linter.unusedSimpArgs false

def AbR (S : St) (t a : Int) (is : Bool) : Prop := (is = true ∧ ∃ n : Nat, a = n ∧ AbN S t.toNat n) ∨ (is = false ∧ a = 0 ∧ ∀ x : Nat, t ≤ x → x < 262144 → S x = false)
def BeR (S : St) (t a : Int) (is : Bool) : Prop := (is = true ∧ ∃ n T : Nat, a = n ∧ (T : Int) ≤ t ∧ T < 262144 ∧ (∀ x : Nat, (x : Int) ≤ t → x < 262144 → x ≤ T) ∧ BeN S T n) ∨ (is = false ∧ a = 0 ∧ ∀ x : Nat, (x : Int) ≤ t → x < 262144 → S x = false)

set_option maxHeartbeats 8000000 in
set_option maxRecDepth 100000 in
theorem above_in {W : World} {g : Nat} {S : St} (h : Bm W g S) (hT : Tz W) (t : Int) (T : Nat) (ht : (if t < 0 then 0 else t) = (T : Int)) (hT2 : T < 262144) :
    ∃ (a : Int) (is : Bool), ((is = true ∧ ∃ n : Nat, a = n ∧ AbN S T n) ∨ (is = false ∧ a = 0 ∧ ∀ x : Nat, T ≤ x → x < 262144 → S x = false)) ∧ Calls Tryd.prog 11 #[.pointer (some ⟨g, 0, none⟩), .int .i64 t] W fun e w' => e = .returned (.tuple #[.int .i64 a, .bool is]) ∧ w' = W := by
  have hmx : Builtin.max2 (.int .i64 t) (.int .i64 0) = pure (.int .i64 (T : Int)) := by rw [max2_int, ht]
  have hTI : (T : Int) < 262144 := by omega
  have hTD : decide ((262144 : Int) ≤ (T : Int)) = false := decide_eq_false (by omega)
  have hc1 := h.low (T / 64) (by omega)
  have hc2 := h.mid (T / 64 / 64) (by omega)
  have hc3 := h.top
  obtain ⟨k1, is1, u1, C1⟩ := up_calls (fun b => S (64 * (T / 64) + b)) (T % 64) (by omega)
  obtain ⟨k2, is2, u2, C2⟩ := up_calls (fun b => lowW S (64 * (T / 64 / 64) + b) != 0) (T / 64 % 64 + 1) (by omega)
  obtain ⟨k3, is3, u3, C3⟩ := up_calls (fun j => midW S j != 0) (T / 64 / 64 + 1) (by omega)
  have D1 : Aside0 (Calls Tryd.prog 28 #[.int .u64 (lowW S (T / 64) : Nat), .int .i64 ((T : Int) % 64)] W fun e w' => e = .returned (.tuple #[.int .i64 (k1 : Int), .bool is1]) ∧ w' = W) := ⟨C1 W hT⟩
  have D2 : Aside0 (Calls Tryd.prog 28 #[.int .u64 (midW S (T / 64 / 64) : Nat), .int .i64 ((T : Int) / 64 % 64 + 1)] W fun e w' => e = .returned (.tuple #[.int .i64 (k2 : Int), .bool is2]) ∧ w' = W) := ⟨C2 W hT⟩
  have D3 : Aside0 (Calls Tryd.prog 28 #[.int .u64 (topW S : Nat), .int .i64 ((T : Int) / 64 / 64 + 1)] W fun e w' => e = .returned (.tuple #[.int .i64 (k3 : Int), .bool is3]) ∧ w' = W) := ⟨C3 W hT⟩
  clear C1 C2 C3
  have HM := Aside0.mk h
  have HT := Aside0.mk hT
  cases is1 with
  | true =>
    refine ⟨((64 * (T / 64) + k1 : Nat) : Int), true, .inl ⟨rfl, _, rfl, ab1 hT2 u1⟩, ?_⟩
    obtain ⟨b1, _⟩ := up_in u1
    rw [show ((64 * (T / 64) + k1 : Nat) : Int) = 64 * ((T : Int) / 64) + (k1 : Int) by omega]
    clear u1 u2 u3 h hT ht
    go_enter Tryd.func11, Tryd.ntmps11
    go_wp2_with (first | (go_at_call 28; (with_reducible refine (D1.out).mono ?_); rintro e w4 ⟨rfl, h4⟩; subst w4))
    go_ret2
    exact ⟨rfl, rfl⟩
  | false =>
    cases is2 with
    | true =>
      obtain ⟨b1, b2, b3, b4⟩ := up_in u2
      obtain ⟨c, hc, CF⟩ := first_calls S (64 * (T / 64 / 64) + k2) (by omega) (by simpa using b3)
      refine ⟨((64 * (64 * (T / 64 / 64) + k2) + c : Nat) : Int), true, .inl ⟨rfl, _, rfl, ab2 hT2 u1 u2 hc⟩, ?_⟩
      have DF := Aside0.mk (CF W g (64 * ((T : Int) / 64 / 64) + (k2 : Int)) (by omega) h hT)
      generalize ((64 * (64 * (T / 64 / 64) + k2) + c : Nat) : Int) = R at DF ⊢
      clear u1 u2 u3 h hT ht b2 b3 b4 hc CF
      go_enter Tryd.func11, Tryd.ntmps11
      go_wp2_with (first
        | (go_at_call 28; (with_reducible refine (D1.out).mono ?_); rintro e w4 ⟨rfl, h4⟩; subst w4)
        | (go_at_call 28; (with_reducible refine (D2.out).mono ?_); rintro e w4 ⟨rfl, h4⟩; subst w4)
        | (go_at_call 29; (with_reducible refine (DF.out).mono ?_); rintro e w4 ⟨rfl, h4⟩; subst w4))
      go_ret2
      exact ⟨rfl, rfl⟩
    | false =>
      cases is3 with
      | true =>
        obtain ⟨b1, b2, b3, b4⟩ := up_in u3
        have hm0 : midW S k3 ≠ 0 := by simpa using b3
        obtain ⟨m, hmm, m1, m2, m3⟩ := mid_low hm0
        obtain ⟨c, hc, CF⟩ := first_calls S (64 * k3 + m) (by omega) m2
        refine ⟨((64 * (64 * k3 + m) + c : Nat) : Int), true, .inl ⟨rfl, _, rfl, ab3 hT2 u1 u2 u3 ⟨m1, m3⟩ hc⟩, ?_⟩
        have DF := Aside0.mk (CF W g (64 * (k3 : Int) + (m : Int)) (by omega) h hT)
        have TZ := Aside0.mk (tz_calls (midW S k3) (midW_lt S k3) hm0 W hT)
        rw [← hmm] at TZ
        have hc4 := h.mid k3 b1
        generalize ((64 * (64 * k3 + m) + c : Nat) : Int) = R at DF ⊢
        clear u1 u2 u3 h hT ht b2 b3 b4 hc CF hm0 hmm m2 m3
        go_enter Tryd.func11, Tryd.ntmps11
        go_wp2_with (first
          | (go_at_call 28; (with_reducible refine (D1.out).mono ?_); rintro e w4 ⟨rfl, h4⟩; subst w4)
          | (go_at_call 28; (with_reducible refine (D2.out).mono ?_); rintro e w4 ⟨rfl, h4⟩; subst w4)
          | (go_at_call 28; (with_reducible refine (D3.out).mono ?_); rintro e w4 ⟨rfl, h4⟩; subst w4)
          | (go_at_call 27; (with_reducible refine (TZ.out).mono ?_); rintro e w4 ⟨rfl, h4⟩; subst w4)
          | (go_at_call 29; (with_reducible refine (DF.out).mono ?_); rintro e w4 ⟨rfl, h4⟩; subst w4))
        go_ret2
        exact ⟨rfl, rfl⟩
      | false =>
        refine ⟨0, false, .inr ⟨rfl, rfl, ab4 u1 u2 u3⟩, ?_⟩
        clear u1 u2 u3 h hT ht
        go_enter Tryd.func11, Tryd.ntmps11
        go_wp2_with (first
          | (go_at_call 28; (with_reducible refine (D1.out).mono ?_); rintro e w4 ⟨rfl, h4⟩; subst w4)
          | (go_at_call 28; (with_reducible refine (D2.out).mono ?_); rintro e w4 ⟨rfl, h4⟩; subst w4)
          | (go_at_call 28; (with_reducible refine (D3.out).mono ?_); rintro e w4 ⟨rfl, h4⟩; subst w4))
        go_ret2
        exact ⟨rfl, rfl⟩

set_option maxHeartbeats 8000000 in
set_option maxRecDepth 100000 in
theorem above_calls {W : World} {g : Nat} {S : St} (h : Bm W g S) (hT : Tz W) (t : Int) :
    ∃ (a : Int) (is : Bool), AbR S t a is ∧ Calls Tryd.prog 11 #[.pointer (some ⟨g, 0, none⟩), .int .i64 t] W fun e w' => e = .returned (.tuple #[.int .i64 a, .bool is]) ∧ w' = W := by
  obtain ⟨T, ht⟩ : ∃ T : Nat, (if t < 0 then 0 else t) = (T : Int) := ⟨(if t < 0 then 0 else t).toNat, by split <;> omega⟩
  by_cases hT2 : T < 262144
  · obtain ⟨a, is, hr, hc⟩ := above_in h hT t T ht hT2
    refine ⟨a, is, ?_, hc⟩
    rcases hr with ⟨h1, n, h2, h3⟩ | ⟨h1, h2, h3⟩
    · have e : t.toNat = T := by split at ht <;> omega
      exact .inl ⟨h1, n, h2, by rw [e]; exact h3⟩
    · exact .inr ⟨h1, h2, fun x hx => h3 x (by split at ht <;> omega)⟩
  · refine ⟨0, false, .inr ⟨rfl, rfl, fun x h1 h2 => by split at ht <;> omega⟩, ?_⟩
    have hmx : Builtin.max2 (.int .i64 t) (.int .i64 0) = pure (.int .i64 (T : Int)) := by rw [max2_int, ht]
    have hTI : (262144 : Int) ≤ (T : Int) := by omega
    clear ht h hT
    go_enter Tryd.func11, Tryd.ntmps11
    go_wp2
    go_ret2
    exact ⟨rfl, rfl⟩

set_option maxHeartbeats 8000000 in
set_option maxRecDepth 100000 in
theorem below_in {W : World} {g : Nat} {S : St} (h : Bm W g S) (t : Int) (T : Nat) (ht : (if 262143 < t then 262143 else t) = (T : Int)) (hT2 : T < 262144) :
    ∃ (a : Int) (is : Bool), ((is = true ∧ ∃ n : Nat, a = n ∧ BeN S T n) ∨ (is = false ∧ a = 0 ∧ ∀ x : Nat, x ≤ T → S x = false)) ∧ Calls Tryd.prog 12 #[.pointer (some ⟨g, 0, none⟩), .int .i64 t] W fun e w' => e = .returned (.tuple #[.int .i64 a, .bool is]) ∧ w' = W := by
  have hmn : Builtin.min2 (.int .i64 t) (.int .i64 262143) = pure (.int .i64 (T : Int)) := by rw [min2_int, ht]
  have hc1 := h.low (T / 64) (by omega)
  have hc2 := h.mid (T / 64 / 64) (by omega)
  have hc3 := h.top
  obtain ⟨k1, is1, u1, C1⟩ := down_calls (fun b => S (64 * (T / 64) + b)) ((T % 64 : Nat) : Int) (by omega) (by omega)
  obtain ⟨k2, is2, u2, C2⟩ := down_calls (fun b => lowW S (64 * (T / 64 / 64) + b) != 0) (((T / 64 % 64 : Nat) : Int) - 1) (by omega) (by omega)
  obtain ⟨k3, is3, u3, C3⟩ := down_calls (fun j => midW S j != 0) (((T / 64 / 64 : Nat) : Int) - 1) (by omega) (by omega)
  have D1 : Aside0 (Calls Tryd.prog 30 #[.int .u64 (lowW S (T / 64) : Nat), .int .i64 ((T : Int) % 64)] W fun e w' => e = .returned (.tuple #[.int .i64 k1, .bool is1]) ∧ w' = W) := ⟨C1 W⟩
  have D2 : Aside0 (Calls Tryd.prog 30 #[.int .u64 (midW S (T / 64 / 64) : Nat), .int .i64 ((T : Int) / 64 % 64 - 1)] W fun e w' => e = .returned (.tuple #[.int .i64 k2, .bool is2]) ∧ w' = W) := ⟨C2 W⟩
  have D3 : Aside0 (Calls Tryd.prog 30 #[.int .u64 (topW S : Nat), .int .i64 ((T : Int) / 64 / 64 - 1)] W fun e w' => e = .returned (.tuple #[.int .i64 k3, .bool is3]) ∧ w' = W) := ⟨C3 W⟩
  clear C1 C2 C3
  have HM := Aside0.mk h
  cases is1 with
  | true =>
    obtain ⟨n1, rfl, b1, b2, b3, b4⟩ := dn_in u1
    refine ⟨((64 * (T / 64) + n1 : Nat) : Int), true, .inl ⟨rfl, _, rfl, be1 b1 b2 b3 b4⟩, ?_⟩
    rw [show ((64 * (T / 64) + n1 : Nat) : Int) = 64 * ((T : Int) / 64) + (n1 : Int) by omega]
    clear u1 u2 u3 h ht b2 b3 b4
    go_enter Tryd.func12, Tryd.ntmps12
    go_wp2_with (first | (go_at_call 30; (with_reducible refine (D1.out).mono ?_); rintro e w4 ⟨rfl, h4⟩; subst w4))
    go_ret2
    exact ⟨rfl, rfl⟩
  | false =>
    have v1 := dn_out u1
    cases is2 with
    | true =>
      obtain ⟨n2, rfl, b1, b2, b3, b4⟩ := dn_in u2
      obtain ⟨c, hc, CF⟩ := last_calls S (64 * (T / 64 / 64) + n2) (by omega) (by simpa using b3)
      refine ⟨((64 * (64 * (T / 64 / 64) + n2) + c : Nat) : Int), true, .inl ⟨rfl, _, rfl, be2 v1 b1 b2 b4 hc⟩, ?_⟩
      have DF := Aside0.mk (CF W g (64 * ((T : Int) / 64 / 64) + (n2 : Int)) (by omega) h)
      generalize ((64 * (64 * (T / 64 / 64) + n2) + c : Nat) : Int) = R at DF ⊢
      clear u1 u2 u3 h ht b2 b3 b4 hc CF v1
      go_enter Tryd.func12, Tryd.ntmps12
      go_wp2_with (first
        | (go_at_call 30; (with_reducible refine (D1.out).mono ?_); rintro e w4 ⟨rfl, h4⟩; subst w4)
        | (go_at_call 30; (with_reducible refine (D2.out).mono ?_); rintro e w4 ⟨rfl, h4⟩; subst w4)
        | (go_at_call 31; (with_reducible refine (DF.out).mono ?_); rintro e w4 ⟨rfl, h4⟩; subst w4))
      go_ret2
      exact ⟨rfl, rfl⟩
    | false =>
      have v2 := dn_out u2
      cases is3 with
      | true =>
        obtain ⟨n3, rfl, b1, b2, b3, b4⟩ := dn_in u3
        have hm0 : midW S n3 ≠ 0 := by simpa using b3
        obtain ⟨m, hmm, m1, m2, m3⟩ := mid_high hm0
        obtain ⟨c, hc, CF⟩ := last_calls S (64 * n3 + m) (by omega) m2
        refine ⟨((64 * (64 * n3 + m) + c : Nat) : Int), true, .inl ⟨rfl, _, rfl, be3 v1 v2 b1 b2 b4 hT2 ⟨m1, m3⟩ hc⟩, ?_⟩
        have DF := Aside0.mk (CF W g (64 * (n3 : Int) + (m : Int)) (by omega) h)
        have TZ := Aside0.mk (len64_calls (midW S n3) (midW_lt S n3) W)
        rw [hmm] at TZ
        have hc4 := h.mid n3 b1
        generalize ((64 * (64 * n3 + m) + c : Nat) : Int) = R at DF ⊢
        have hs : 64 * (n3 : Int) + ((m + 1 : Nat) : Int) - 1 = 64 * (n3 : Int) + (m : Int) := by omega
        have hs2 : 64 * (n3 : Int) + ((m : Int) + 1) - 1 = 64 * (n3 : Int) + (m : Int) := by omega
        clear u1 u2 u3 h ht b2 b3 b4 hc CF hm0 hmm m2 m3 v1 v2
        go_enter Tryd.func12, Tryd.ntmps12
        go_wp2_with (first
          | (go_at_call 30; (with_reducible refine (D1.out).mono ?_); rintro e w4 ⟨rfl, h4⟩; subst w4)
          | (go_at_call 30; (with_reducible refine (D2.out).mono ?_); rintro e w4 ⟨rfl, h4⟩; subst w4)
          | (go_at_call 30; (with_reducible refine (D3.out).mono ?_); rintro e w4 ⟨rfl, h4⟩; subst w4)
          | (go_at_call 32; (with_reducible refine (TZ.out).mono ?_); rintro e w4 ⟨rfl, h4⟩; subst w4)
          | (go_at_call 31; (with_reducible refine (DF.out).mono ?_); rintro e w4 ⟨rfl, h4⟩; subst w4))
        go_ret2
        exact ⟨rfl, rfl⟩
      | false =>
        refine ⟨0, false, .inr ⟨rfl, rfl, be4 v1 v2 (dn_out u3) hT2⟩, ?_⟩
        clear u1 u2 u3 h ht v1 v2
        go_enter Tryd.func12, Tryd.ntmps12
        go_wp2_with (first
          | (go_at_call 30; (with_reducible refine (D1.out).mono ?_); rintro e w4 ⟨rfl, h4⟩; subst w4)
          | (go_at_call 30; (with_reducible refine (D2.out).mono ?_); rintro e w4 ⟨rfl, h4⟩; subst w4)
          | (go_at_call 30; (with_reducible refine (D3.out).mono ?_); rintro e w4 ⟨rfl, h4⟩; subst w4))
        go_ret2
        exact ⟨rfl, rfl⟩

set_option maxHeartbeats 8000000 in
set_option maxRecDepth 100000 in
theorem below_calls {W : World} {g : Nat} {S : St} (h : Bm W g S) (t : Int) :
    ∃ (a : Int) (is : Bool), BeR S t a is ∧ Calls Tryd.prog 12 #[.pointer (some ⟨g, 0, none⟩), .int .i64 t] W fun e w' => e = .returned (.tuple #[.int .i64 a, .bool is]) ∧ w' = W := by
  by_cases h0 : t < 0
  · refine ⟨0, false, .inr ⟨rfl, rfl, fun x h1 h2 => by omega⟩, ?_⟩
    have hmn : Builtin.min2 (.int .i64 t) (.int .i64 262143) = pure (.int .i64 t) := by rw [min2_int, if_neg (by omega)]
    clear h
    go_enter Tryd.func12, Tryd.ntmps12
    go_wp2
    go_ret2
    exact ⟨rfl, rfl⟩
  · obtain ⟨T, ht⟩ : ∃ T : Nat, (if 262143 < t then 262143 else t) = (T : Int) := ⟨(if 262143 < t then 262143 else t).toNat, by split <;> omega⟩
    have hT2 : T < 262144 := by split at ht <;> omega
    obtain ⟨a, is, hr, hc⟩ := below_in h t T ht hT2
    refine ⟨a, is, ?_, hc⟩
    rcases hr with ⟨h1, n, h2, h3⟩ | ⟨h1, h2, h3⟩
    · exact .inl ⟨h1, n, T, h2, by split at ht <;> omega, hT2, fun x hx hx2 => by split at ht <;> omega, h3⟩
    · exact .inr ⟨h1, h2, fun x hx hx2 => h3 x (by split at ht <;> omega)⟩
end Go.Proofs.YtgcelkndgjjbdaaDoor.PBm
