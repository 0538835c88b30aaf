/- BitmapNear. -/
import Derived.Test.YtgcelkndgjjbdaaDoorBmM
import Derived.Test.YtgcelkndgjjbdaaDoorWGuard
namespace Go.Proofs.YtgcelkndgjjbdaaDoor.PBm
open Go.RowKit Go.Proofs.YtgcelkndgjjbdaaDoorW.PrintWords Go.Proofs.YtgcelkndgjjbdaaDoorW.PrintLast Go.Proofs.YtgcelkndgjjbdaaDoorW.PrintMore
set_option linter.unusedVariables false
set_option linter.unusedSimpArgs false

theorem has_nat {S : St} {n : Nat} (hn : n < 262144) : hasB S (n : Int) = S n := by
  unfold hasB tickB
  rw [decide_eq_true (by omega), Bool.true_and, Int.toNat_natCast]
theorem of_has {S : St} {v : Int} (h : hasB S v = true) : ∃ n : Nat, v = n ∧ n < 262144 ∧ S n = true := by
  unfold hasB at h
  simp only [Bool.and_eq_true] at h
  have h4 : 0 ≤ v ∧ v < 262144 := of_decide_eq_true h.1
  exact ⟨v.toNat, by omega, by omega, h.2⟩

theorem above_facts {S : St} {t a : Int} {is : Bool} (h : AbR S t a is) : (is = true → ¬ a < t ∧ hasB S a = true) ∧ (is = false → a = 0) ∧ ∀ v, hasB S v = true → t ≤ v → is = true ∧ a ≤ v := by
  rcases h with ⟨rfl, n, rfl, h1, h2, h3, h4⟩ | ⟨rfl, rfl, h4⟩
  · refine ⟨fun _ => ⟨by omega, by rw [has_nat h1]; exact h3⟩, (fun h => by cases h), fun v hv htv => ⟨rfl, ?_⟩⟩
    obtain ⟨m, rfl, hm, hs⟩ := of_has hv
    apply Int.not_lt.mp
    intro hlt
    have := h4 m (by omega) (by omega)
    rw [hs] at this
    cases this
  · refine ⟨(fun h => by cases h), fun _ => rfl, fun v hv htv => ?_⟩
    obtain ⟨m, rfl, hm, hs⟩ := of_has hv
    have := h4 m htv hm
    rw [hs] at this
    cases this

theorem below_facts {S : St} {t a : Int} {is : Bool} (h : BeR S t a is) : (is = true → ¬ t < a ∧ hasB S a = true) ∧ (is = false → a = 0) ∧ ∀ v, hasB S v = true → v ≤ t → is = true ∧ v ≤ a := by
  rcases h with ⟨rfl, n, T, rfl, h0, h1, h1b, h2, h3, h4⟩ | ⟨rfl, rfl, h4⟩
  · refine ⟨fun _ => ⟨by omega, by rw [has_nat (by omega)]; exact h3⟩, (fun h => by cases h), fun v hv htv => ⟨rfl, ?_⟩⟩
    obtain ⟨m, rfl, hm, hs⟩ := of_has hv
    apply Int.not_lt.mp
    intro hlt
    have := h4 m (by omega) (h1b m htv hm)
    rw [hs] at this
    cases this
  · refine ⟨(fun h => by cases h), fun _ => rfl, fun v hv htv => ?_⟩
    obtain ⟨m, rfl, hm, hs⟩ := of_has hv
    have := h4 m htv hm
    rw [hs] at this
    cases this

theorem fill_mem {f : Nat → Int} : ∀ {n i : Nat}, i < n → tickB (f i) = true → hasB (fillN f n) (f i) = true
  | 0, i, h, _ => by omega
  | n + 1, i, h, ht => by
    have h4 : 0 ≤ f i ∧ f i < 262144 := of_decide_eq_true ht
    unfold hasB
    rw [ht, Bool.true_and]
    show put (fillN f n) (f n) (f i).toNat = true
    unfold put
    by_cases e : i = n
    · subst e
      rw [if_pos ht, up_self]
    · have ih := fill_mem (f := f) (n := n) (i := i) (by omega) ht
      unfold hasB at ih
      rw [ht, Bool.true_and] at ih
      split
      · unfold up
        split
        · rfl
        · exact ih
      · exact ih

set_option maxHeartbeats 16000000 in
set_option maxRecDepth 100000 in
theorem near_calls {W : World} {A : Option Addr} {n cap : Nat} {f : Nat → Int} (tick : Int) (hl : Ints W A n f) (hn : n ≤ 9223372036854775807) (hT : Tz W) :
    Calls Tryd.prog 4 #[.slice A n cap, .int .i64 tick] W fun e w' => e = .returned (.bool true) ∧ Below W.heap.size W w' := by
  have HL := Aside0.mk (filled_calls (cap := cap) hl hn)
  have HLI := Aside0.mk hl
  have HTW := Aside0.mk hT
  have HFM : Aside0 (∀ i, i < n → tickB (f i) = true → hasB (fillN f n) (f i) = true) := ⟨fun i hi h => fill_mem hi h⟩
  clear hl hT
  go_enter Tryd.func4, Tryd.ntmps4
  go_wp2_with (go_at_call 7; (with_reducible refine (HL.out).mono ?_); rintro e w1 ⟨rfl, h1, f1⟩; have H1 := Aside0.mk h1; have G1 := Aside0.mk f1; clear h1 f1)
  obtain ⟨S, hS⟩ : ∃ S, S = fillN f n := ⟨_, rfl⟩
  rw [← hS] at H1 HFM
  clear hS HL
  have HT1 : Tz w1 := HTW.out.below G1.out HTW.out.lt
  obtain ⟨a, is, hA, CA⟩ := above_calls H1.out HT1 tick
  obtain ⟨b, was, hB, CB⟩ := below_calls H1.out tick
  obtain ⟨A1, A2, A3⟩ := above_facts hA
  obtain ⟨B1, B2, B3⟩ := below_facts hB
  have XA := Aside0.mk CA
  have XB := Aside0.mk CB
  have X3 := Aside0.mk A3
  have Y3 := Aside0.mk B3
  clear hA hB CA CB A3 B3 HT1 HTW
  have HLW : Aside0 (Ints w1 A n f) := ⟨HLI.out.below G1.out⟩
  cases hh : hasB S tick with
  | true =>
    obtain ⟨rfl, _⟩ := X3.out tick hh (Int.le_refl _)
    obtain ⟨rfl, _⟩ := Y3.out tick hh (Int.le_refl _)
    have qa := A1 rfl
    have da : ¬ a < tick := qa.1
    have dad : decide (a < tick) = false := decide_eq_false da
    have HA : Aside0 (Calls Tryd.prog 13 #[.pointer (some ⟨W.heap.size, 0, none⟩), .int .i64 a] w1 fun e w' => e = .returned (.bool true) ∧ w' = w1) := ⟨by have := has_any S H1.out a; rwa [qa.2] at this⟩
    have HB2 : Aside0 (Calls Tryd.prog 12 #[.pointer (some ⟨W.heap.size, 0, none⟩), .int .i64 a] w1 fun e w' => e = .returned (.tuple #[.int .i64 a, .bool true]) ∧ w' = w1) := ⟨by
      obtain ⟨r, there, hr, C⟩ := below_calls H1.out a
      obtain ⟨r1, r2, r3⟩ := below_facts hr
      obtain ⟨rfl, r5⟩ := r3 a qa.2 (Int.le_refl _)
      have r6 := (r1 rfl).1
      obtain rfl : r = a := by omega
      exact C⟩
    have qb := B1 rfl
    have db : ¬ tick < b := qb.1
    have dbd : decide (tick < b) = false := decide_eq_false db
    have HB : Aside0 (Calls Tryd.prog 13 #[.pointer (some ⟨W.heap.size, 0, none⟩), .int .i64 b] w1 fun e w' => e = .returned (.bool true) ∧ w' = w1) := ⟨by have := has_any S H1.out b; rwa [qb.2] at this⟩
    have HH : Aside0 (Calls Tryd.prog 13 #[.pointer (some ⟨W.heap.size, 0, none⟩), .int .i64 tick] w1 fun e w' => e = .returned (.bool true) ∧ w' = w1) := ⟨by have := has_any S H1.out tick; rwa [hh] at this⟩
    have ea : a = tick := by have := (X3.out tick hh (Int.le_refl _)).2; omega
    have eb : b = tick := by have := (Y3.out tick hh (Int.le_refl _)).2; omega
    have EA := Aside0.mk ea
    have EB := Aside0.mk eb
    clear ea eb
    clear A1 A2 B1 B2 hh qa qb
    go_wp2_with (first
      | (go_at_call 11; (with_reducible refine (XA.out).mono ?_); rintro e w4 ⟨rfl, h4⟩; subst w4)
      | (go_at_call 12; (with_reducible refine (XB.out).mono ?_); rintro e w4 ⟨rfl, h4⟩; subst w4)
      | (go_at_call 13; (with_reducible refine (HA.out).mono ?_); rintro e w4 ⟨rfl, h4⟩; subst w4)
      | (go_at_call 13; (with_reducible refine (HB.out).mono ?_); rintro e w4 ⟨rfl, h4⟩; subst w4))
    go_loopg [11] n (fun kq v w' => ∃ i : Nat, v = .int .i64 (i : Int) ∧ Aside0 (kq + i = n) ∧ w' = w1)
    case atStart => exact ⟨0, rfl, ⟨rfl⟩, rfl⟩
    case round =>
      obtain ⟨i, rfl, HK, rfl⟩ := hrel
      have hin : i ≤ n := by have := HK.out; omega
      by_cases hi : i < n
      · obtain ⟨k1, rfl⟩ : ∃ k1, gk = k1 + 1 := ⟨gk - 1, by have := HK.out; omega⟩
        have hiI : (i : Int) < (n : Int) := by omega
        obtain ⟨ab, ao, rfl, hc⟩ := HLW.out i hi
        obtain ⟨v, hv⟩ : ∃ v, v = f i := ⟨_, rfl⟩
        rw [← hv] at hc
        have HV : Aside0 (tickB v = true → hasB S v = true) := ⟨by rw [hv]; exact HFM.out i hi⟩
        clear hv
        by_cases r0 : 0 ≤ v
        · have r0d : decide (0 ≤ v) = true := decide_eq_true r0
          by_cases r1 : v < 262144
          · have r1d : decide (v < 262144) = true := decide_eq_true r1
            have hs : hasB S v = true := HV.out (decide_eq_true ⟨r0, r1⟩)
            by_cases r2 : tick ≤ v
            · have r2d : decide (tick ≤ v) = true := decide_eq_true r2
              obtain ⟨q1, q2⟩ := X3.out v hs r2
              have q3 : ¬ v < a := by omega
              have q3d : decide (v < a) = false := decide_eq_false q3
              by_cases r3 : v ≤ tick
              · have r3d : decide (v ≤ tick) = true := decide_eq_true r3
                obtain ⟨p1, p2⟩ := Y3.out v hs r3
                have p3 : ¬ b < v := by omega
                have p3d : decide (b < v) = false := decide_eq_false p3
                clear q1 q2 p1 p2 hs
                go_wp2
                go_roundg k1
                case measure => omega
                case rel => exact ⟨i + 1, by simp, ⟨by have := HK.out; omega⟩, rfl⟩
              · have r3d : decide (v ≤ tick) = false := decide_eq_false r3
                clear q1 q2 hs
                go_wp2
                go_roundg k1
                case measure => omega
                case rel => exact ⟨i + 1, by simp, ⟨by have := HK.out; omega⟩, rfl⟩
            · have r2d : decide (tick ≤ v) = false := decide_eq_false r2
              have r3 : v ≤ tick := by omega
              have r3d : decide (v ≤ tick) = true := decide_eq_true r3
              obtain ⟨p1, p2⟩ := Y3.out v hs r3
              have p3 : ¬ b < v := by omega
              have p3d : decide (b < v) = false := decide_eq_false p3
              clear p1 p2 hs
              go_wp2
              go_roundg k1
              case measure => omega
              case rel => exact ⟨i + 1, by simp, ⟨by have := HK.out; omega⟩, rfl⟩
          · have r1d : decide (v < 262144) = false := decide_eq_false r1
            go_wp2
            go_roundg k1
            case measure => omega
            case rel => exact ⟨i + 1, by simp, ⟨by have := HK.out; omega⟩, rfl⟩
        · have r0d : decide (0 ≤ v) = false := decide_eq_false r0
          go_wp2
          go_roundg k1
          case measure => omega
          case rel => exact ⟨i + 1, by simp, ⟨by have := HK.out; omega⟩, rfl⟩
      · have hiI : ¬ (i : Int) < (n : Int) := by omega
        have sa := beq_iff_eq.mpr EA.out
        have sb := beq_iff_eq.mpr EB.out
        go_wp2_with (first
          | (go_at_call 12; (with_reducible refine (HB2.out).mono ?_); rintro e w4 ⟨rfl, h4⟩; subst w4)
          | (go_at_call 13; (with_reducible refine (HH.out).mono ?_); rintro e w4 ⟨rfl, h4⟩; subst w4))
        go_ret
        exact ⟨rfl, G1.out⟩
  | false =>
    cases is with
    | true =>
      cases was with
      | true =>
        have qa := A1 rfl
        have da : ¬ a < tick := qa.1
        have dad : decide (a < tick) = false := decide_eq_false da
        have HA : Aside0 (Calls Tryd.prog 13 #[.pointer (some ⟨W.heap.size, 0, none⟩), .int .i64 a] w1 fun e w' => e = .returned (.bool true) ∧ w' = w1) := ⟨by have := has_any S H1.out a; rwa [qa.2] at this⟩
        have HB2 : Aside0 (Calls Tryd.prog 12 #[.pointer (some ⟨W.heap.size, 0, none⟩), .int .i64 a] w1 fun e w' => e = .returned (.tuple #[.int .i64 a, .bool true]) ∧ w' = w1) := ⟨by
          obtain ⟨r, there, hr, C⟩ := below_calls H1.out a
          obtain ⟨r1, r2, r3⟩ := below_facts hr
          obtain ⟨rfl, r5⟩ := r3 a qa.2 (Int.le_refl _)
          have r6 := (r1 rfl).1
          obtain rfl : r = a := by omega
          exact C⟩
        have qb := B1 rfl
        have db : ¬ tick < b := qb.1
        have dbd : decide (tick < b) = false := decide_eq_false db
        have HB : Aside0 (Calls Tryd.prog 13 #[.pointer (some ⟨W.heap.size, 0, none⟩), .int .i64 b] w1 fun e w' => e = .returned (.bool true) ∧ w' = w1) := ⟨by have := has_any S H1.out b; rwa [qb.2] at this⟩
        have HH : Aside0 (Calls Tryd.prog 13 #[.pointer (some ⟨W.heap.size, 0, none⟩), .int .i64 tick] w1 fun e w' => e = .returned (.bool false) ∧ w' = w1) := ⟨by have := has_any S H1.out tick; rwa [hh] at this⟩
        clear A1 A2 B1 B2 hh qa qb
        go_wp2_with (first
          | (go_at_call 11; (with_reducible refine (XA.out).mono ?_); rintro e w4 ⟨rfl, h4⟩; subst w4)
          | (go_at_call 12; (with_reducible refine (XB.out).mono ?_); rintro e w4 ⟨rfl, h4⟩; subst w4)
          | (go_at_call 13; (with_reducible refine (HA.out).mono ?_); rintro e w4 ⟨rfl, h4⟩; subst w4)
          | (go_at_call 13; (with_reducible refine (HB.out).mono ?_); rintro e w4 ⟨rfl, h4⟩; subst w4))
        go_loopg [11] n (fun kq v w' => ∃ i : Nat, v = .int .i64 (i : Int) ∧ Aside0 (kq + i = n) ∧ w' = w1)
        case atStart => exact ⟨0, rfl, ⟨rfl⟩, rfl⟩
        case round =>
          obtain ⟨i, rfl, HK, rfl⟩ := hrel
          have hin : i ≤ n := by have := HK.out; omega
          by_cases hi : i < n
          · obtain ⟨k1, rfl⟩ : ∃ k1, gk = k1 + 1 := ⟨gk - 1, by have := HK.out; omega⟩
            have hiI : (i : Int) < (n : Int) := by omega
            obtain ⟨ab, ao, rfl, hc⟩ := HLW.out i hi
            obtain ⟨v, hv⟩ : ∃ v, v = f i := ⟨_, rfl⟩
            rw [← hv] at hc
            have HV : Aside0 (tickB v = true → hasB S v = true) := ⟨by rw [hv]; exact HFM.out i hi⟩
            clear hv
            by_cases r0 : 0 ≤ v
            · have r0d : decide (0 ≤ v) = true := decide_eq_true r0
              by_cases r1 : v < 262144
              · have r1d : decide (v < 262144) = true := decide_eq_true r1
                have hs : hasB S v = true := HV.out (decide_eq_true ⟨r0, r1⟩)
                by_cases r2 : tick ≤ v
                · have r2d : decide (tick ≤ v) = true := decide_eq_true r2
                  obtain ⟨q1, q2⟩ := X3.out v hs r2
                  have q3 : ¬ v < a := by omega
                  have q3d : decide (v < a) = false := decide_eq_false q3
                  by_cases r3 : v ≤ tick
                  · have r3d : decide (v ≤ tick) = true := decide_eq_true r3
                    obtain ⟨p1, p2⟩ := Y3.out v hs r3
                    have p3 : ¬ b < v := by omega
                    have p3d : decide (b < v) = false := decide_eq_false p3
                    clear q1 q2 p1 p2 hs
                    go_wp2
                    go_roundg k1
                    case measure => omega
                    case rel => exact ⟨i + 1, by simp, ⟨by have := HK.out; omega⟩, rfl⟩
                  · have r3d : decide (v ≤ tick) = false := decide_eq_false r3
                    clear q1 q2 hs
                    go_wp2
                    go_roundg k1
                    case measure => omega
                    case rel => exact ⟨i + 1, by simp, ⟨by have := HK.out; omega⟩, rfl⟩
                · have r2d : decide (tick ≤ v) = false := decide_eq_false r2
                  have r3 : v ≤ tick := by omega
                  have r3d : decide (v ≤ tick) = true := decide_eq_true r3
                  obtain ⟨p1, p2⟩ := Y3.out v hs r3
                  have p3 : ¬ b < v := by omega
                  have p3d : decide (b < v) = false := decide_eq_false p3
                  clear p1 p2 hs
                  go_wp2
                  go_roundg k1
                  case measure => omega
                  case rel => exact ⟨i + 1, by simp, ⟨by have := HK.out; omega⟩, rfl⟩
              · have r1d : decide (v < 262144) = false := decide_eq_false r1
                go_wp2
                go_roundg k1
                case measure => omega
                case rel => exact ⟨i + 1, by simp, ⟨by have := HK.out; omega⟩, rfl⟩
            · have r0d : decide (0 ≤ v) = false := decide_eq_false r0
              go_wp2
              go_roundg k1
              case measure => omega
              case rel => exact ⟨i + 1, by simp, ⟨by have := HK.out; omega⟩, rfl⟩
          · have hiI : ¬ (i : Int) < (n : Int) := by omega
            go_wp2_with (first
              | (go_at_call 12; (with_reducible refine (HB2.out).mono ?_); rintro e w4 ⟨rfl, h4⟩; subst w4)
              | (go_at_call 13; (with_reducible refine (HH.out).mono ?_); rintro e w4 ⟨rfl, h4⟩; subst w4))
            go_ret
            exact ⟨rfl, G1.out⟩
      | false =>
        have qa := A1 rfl
        have da : ¬ a < tick := qa.1
        have dad : decide (a < tick) = false := decide_eq_false da
        have HA : Aside0 (Calls Tryd.prog 13 #[.pointer (some ⟨W.heap.size, 0, none⟩), .int .i64 a] w1 fun e w' => e = .returned (.bool true) ∧ w' = w1) := ⟨by have := has_any S H1.out a; rwa [qa.2] at this⟩
        have HB2 : Aside0 (Calls Tryd.prog 12 #[.pointer (some ⟨W.heap.size, 0, none⟩), .int .i64 a] w1 fun e w' => e = .returned (.tuple #[.int .i64 a, .bool true]) ∧ w' = w1) := ⟨by
          obtain ⟨r, there, hr, C⟩ := below_calls H1.out a
          obtain ⟨r1, r2, r3⟩ := below_facts hr
          obtain ⟨rfl, r5⟩ := r3 a qa.2 (Int.le_refl _)
          have r6 := (r1 rfl).1
          obtain rfl : r = a := by omega
          exact C⟩
        obtain rfl := B2 rfl
        have HH : Aside0 (Calls Tryd.prog 13 #[.pointer (some ⟨W.heap.size, 0, none⟩), .int .i64 tick] w1 fun e w' => e = .returned (.bool false) ∧ w' = w1) := ⟨by have := has_any S H1.out tick; rwa [hh] at this⟩
        clear A1 A2 B1 B2 hh qa
        go_wp2_with (first
          | (go_at_call 11; (with_reducible refine (XA.out).mono ?_); rintro e w4 ⟨rfl, h4⟩; subst w4)
          | (go_at_call 12; (with_reducible refine (XB.out).mono ?_); rintro e w4 ⟨rfl, h4⟩; subst w4)
          | (go_at_call 13; (with_reducible refine (HA.out).mono ?_); rintro e w4 ⟨rfl, h4⟩; subst w4))
        go_loopg [11] n (fun kq v w' => ∃ i : Nat, v = .int .i64 (i : Int) ∧ Aside0 (kq + i = n) ∧ w' = w1)
        case atStart => exact ⟨0, rfl, ⟨rfl⟩, rfl⟩
        case round =>
          obtain ⟨i, rfl, HK, rfl⟩ := hrel
          have hin : i ≤ n := by have := HK.out; omega
          by_cases hi : i < n
          · obtain ⟨k1, rfl⟩ : ∃ k1, gk = k1 + 1 := ⟨gk - 1, by have := HK.out; omega⟩
            have hiI : (i : Int) < (n : Int) := by omega
            obtain ⟨ab, ao, rfl, hc⟩ := HLW.out i hi
            obtain ⟨v, hv⟩ : ∃ v, v = f i := ⟨_, rfl⟩
            rw [← hv] at hc
            have HV : Aside0 (tickB v = true → hasB S v = true) := ⟨by rw [hv]; exact HFM.out i hi⟩
            clear hv
            by_cases r0 : 0 ≤ v
            · have r0d : decide (0 ≤ v) = true := decide_eq_true r0
              by_cases r1 : v < 262144
              · have r1d : decide (v < 262144) = true := decide_eq_true r1
                have hs : hasB S v = true := HV.out (decide_eq_true ⟨r0, r1⟩)
                by_cases r2 : tick ≤ v
                · have r2d : decide (tick ≤ v) = true := decide_eq_true r2
                  obtain ⟨q1, q2⟩ := X3.out v hs r2
                  have q3 : ¬ v < a := by omega
                  have q3d : decide (v < a) = false := decide_eq_false q3
                  by_cases r3 : v ≤ tick
                  · have r3d : decide (v ≤ tick) = true := decide_eq_true r3
                    obtain ⟨p1, p2⟩ := Y3.out v hs r3
                    cases p1
                  · have r3d : decide (v ≤ tick) = false := decide_eq_false r3
                    clear q1 q2 hs
                    go_wp2
                    go_roundg k1
                    case measure => omega
                    case rel => exact ⟨i + 1, by simp, ⟨by have := HK.out; omega⟩, rfl⟩
                · have r2d : decide (tick ≤ v) = false := decide_eq_false r2
                  have r3 : v ≤ tick := by omega
                  have r3d : decide (v ≤ tick) = true := decide_eq_true r3
                  obtain ⟨p1, p2⟩ := Y3.out v hs r3
                  cases p1
              · have r1d : decide (v < 262144) = false := decide_eq_false r1
                go_wp2
                go_roundg k1
                case measure => omega
                case rel => exact ⟨i + 1, by simp, ⟨by have := HK.out; omega⟩, rfl⟩
            · have r0d : decide (0 ≤ v) = false := decide_eq_false r0
              go_wp2
              go_roundg k1
              case measure => omega
              case rel => exact ⟨i + 1, by simp, ⟨by have := HK.out; omega⟩, rfl⟩
          · have hiI : ¬ (i : Int) < (n : Int) := by omega
            go_wp2_with (first
              | (go_at_call 12; (with_reducible refine (HB2.out).mono ?_); rintro e w4 ⟨rfl, h4⟩; subst w4)
              | (go_at_call 13; (with_reducible refine (HH.out).mono ?_); rintro e w4 ⟨rfl, h4⟩; subst w4))
            go_ret
            exact ⟨rfl, G1.out⟩
    | false =>
      cases was with
      | true =>
        obtain rfl := A2 rfl
        have qb := B1 rfl
        have db : ¬ tick < b := qb.1
        have dbd : decide (tick < b) = false := decide_eq_false db
        have HB : Aside0 (Calls Tryd.prog 13 #[.pointer (some ⟨W.heap.size, 0, none⟩), .int .i64 b] w1 fun e w' => e = .returned (.bool true) ∧ w' = w1) := ⟨by have := has_any S H1.out b; rwa [qb.2] at this⟩
        have HH : Aside0 (Calls Tryd.prog 13 #[.pointer (some ⟨W.heap.size, 0, none⟩), .int .i64 tick] w1 fun e w' => e = .returned (.bool false) ∧ w' = w1) := ⟨by have := has_any S H1.out tick; rwa [hh] at this⟩
        clear A1 A2 B1 B2 hh qb
        go_wp2_with (first
          | (go_at_call 11; (with_reducible refine (XA.out).mono ?_); rintro e w4 ⟨rfl, h4⟩; subst w4)
          | (go_at_call 12; (with_reducible refine (XB.out).mono ?_); rintro e w4 ⟨rfl, h4⟩; subst w4)
          | (go_at_call 13; (with_reducible refine (HB.out).mono ?_); rintro e w4 ⟨rfl, h4⟩; subst w4))
        go_loopg [11] n (fun kq v w' => ∃ i : Nat, v = .int .i64 (i : Int) ∧ Aside0 (kq + i = n) ∧ w' = w1)
        case atStart => exact ⟨0, rfl, ⟨rfl⟩, rfl⟩
        case round =>
          obtain ⟨i, rfl, HK, rfl⟩ := hrel
          have hin : i ≤ n := by have := HK.out; omega
          by_cases hi : i < n
          · obtain ⟨k1, rfl⟩ : ∃ k1, gk = k1 + 1 := ⟨gk - 1, by have := HK.out; omega⟩
            have hiI : (i : Int) < (n : Int) := by omega
            obtain ⟨ab, ao, rfl, hc⟩ := HLW.out i hi
            obtain ⟨v, hv⟩ : ∃ v, v = f i := ⟨_, rfl⟩
            rw [← hv] at hc
            have HV : Aside0 (tickB v = true → hasB S v = true) := ⟨by rw [hv]; exact HFM.out i hi⟩
            clear hv
            by_cases r0 : 0 ≤ v
            · have r0d : decide (0 ≤ v) = true := decide_eq_true r0
              by_cases r1 : v < 262144
              · have r1d : decide (v < 262144) = true := decide_eq_true r1
                have hs : hasB S v = true := HV.out (decide_eq_true ⟨r0, r1⟩)
                by_cases r2 : tick ≤ v
                · have r2d : decide (tick ≤ v) = true := decide_eq_true r2
                  obtain ⟨q1, q2⟩ := X3.out v hs r2
                  cases q1
                · have r2d : decide (tick ≤ v) = false := decide_eq_false r2
                  have r3 : v ≤ tick := by omega
                  have r3d : decide (v ≤ tick) = true := decide_eq_true r3
                  obtain ⟨p1, p2⟩ := Y3.out v hs r3
                  have p3 : ¬ b < v := by omega
                  have p3d : decide (b < v) = false := decide_eq_false p3
                  clear p1 p2 hs
                  go_wp2
                  go_roundg k1
                  case measure => omega
                  case rel => exact ⟨i + 1, by simp, ⟨by have := HK.out; omega⟩, rfl⟩
              · have r1d : decide (v < 262144) = false := decide_eq_false r1
                go_wp2
                go_roundg k1
                case measure => omega
                case rel => exact ⟨i + 1, by simp, ⟨by have := HK.out; omega⟩, rfl⟩
            · have r0d : decide (0 ≤ v) = false := decide_eq_false r0
              go_wp2
              go_roundg k1
              case measure => omega
              case rel => exact ⟨i + 1, by simp, ⟨by have := HK.out; omega⟩, rfl⟩
          · have hiI : ¬ (i : Int) < (n : Int) := by omega
            go_wp2_with (first
              | (go_at_call 13; (with_reducible refine (HH.out).mono ?_); rintro e w4 ⟨rfl, h4⟩; subst w4))
            go_ret
            exact ⟨rfl, G1.out⟩
      | false =>
        obtain rfl := A2 rfl
        obtain rfl := B2 rfl
        have HH : Aside0 (Calls Tryd.prog 13 #[.pointer (some ⟨W.heap.size, 0, none⟩), .int .i64 tick] w1 fun e w' => e = .returned (.bool false) ∧ w' = w1) := ⟨by have := has_any S H1.out tick; rwa [hh] at this⟩
        clear A1 A2 B1 B2 hh
        go_wp2_with (first
          | (go_at_call 11; (with_reducible refine (XA.out).mono ?_); rintro e w4 ⟨rfl, h4⟩; subst w4)
          | (go_at_call 12; (with_reducible refine (XB.out).mono ?_); rintro e w4 ⟨rfl, h4⟩; subst w4))
        go_loopg [11] n (fun kq v w' => ∃ i : Nat, v = .int .i64 (i : Int) ∧ Aside0 (kq + i = n) ∧ w' = w1)
        case atStart => exact ⟨0, rfl, ⟨rfl⟩, rfl⟩
        case round =>
          obtain ⟨i, rfl, HK, rfl⟩ := hrel
          have hin : i ≤ n := by have := HK.out; omega
          by_cases hi : i < n
          · obtain ⟨k1, rfl⟩ : ∃ k1, gk = k1 + 1 := ⟨gk - 1, by have := HK.out; omega⟩
            have hiI : (i : Int) < (n : Int) := by omega
            obtain ⟨ab, ao, rfl, hc⟩ := HLW.out i hi
            obtain ⟨v, hv⟩ : ∃ v, v = f i := ⟨_, rfl⟩
            rw [← hv] at hc
            have HV : Aside0 (tickB v = true → hasB S v = true) := ⟨by rw [hv]; exact HFM.out i hi⟩
            clear hv
            by_cases r0 : 0 ≤ v
            · have r0d : decide (0 ≤ v) = true := decide_eq_true r0
              by_cases r1 : v < 262144
              · have r1d : decide (v < 262144) = true := decide_eq_true r1
                have hs : hasB S v = true := HV.out (decide_eq_true ⟨r0, r1⟩)
                by_cases r2 : tick ≤ v
                · have r2d : decide (tick ≤ v) = true := decide_eq_true r2
                  obtain ⟨q1, q2⟩ := X3.out v hs r2
                  cases q1
                · have r2d : decide (tick ≤ v) = false := decide_eq_false r2
                  have r3 : v ≤ tick := by omega
                  have r3d : decide (v ≤ tick) = true := decide_eq_true r3
                  obtain ⟨p1, p2⟩ := Y3.out v hs r3
                  cases p1
              · have r1d : decide (v < 262144) = false := decide_eq_false r1
                go_wp2
                go_roundg k1
                case measure => omega
                case rel => exact ⟨i + 1, by simp, ⟨by have := HK.out; omega⟩, rfl⟩
            · have r0d : decide (0 ≤ v) = false := decide_eq_false r0
              go_wp2
              go_roundg k1
              case measure => omega
              case rel => exact ⟨i + 1, by simp, ⟨by have := HK.out; omega⟩, rfl⟩
          · have hiI : ¬ (i : Int) < (n : Int) := by omega
            go_wp2_with (first
              | (go_at_call 13; (with_reducible refine (HH.out).mono ?_); rintro e w4 ⟨rfl, h4⟩; subst w4))
            go_ret
            exact ⟨rfl, G1.out⟩
end Go.Proofs.YtgcelkndgjjbdaaDoor.PBm
