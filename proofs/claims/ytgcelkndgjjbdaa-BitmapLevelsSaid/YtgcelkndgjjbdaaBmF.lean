/- BitmapLevels. -/
import Derived.Test.YtgcelkndgjjbdaaBmE
import Derived.Deep.QuietTactic
import Derived.BigQuiet
import Derived.IntWalk
namespace Go.Proofs.Ytgcelkndgjjbdaa.PBm
open Go.RowKit Go.Proofs.YtgcelkndgjjbdaaW.PrintWords Go.Proofs.YtgcelkndgjjbdaaW.PrintLast Go.Proofs.YtgcelkndgjjbdaaW.PrintMore
set_option linter.unusedVariables false
set_option linter.unusedSimpArgs false

theorem Bm.drewN {W : World} {g : Nat} {S : St} (h : Bm W g S) (n : Nat) : Bm (W.drewN n) g S := h

theorem top_zero (S : St) : topW S = 0 ↔ len S = 0 := by
  constructor
  · intro h
    refine cnt_zero fun t ht => ?_
    have h1 := wd_zero.mp h (t / 64 / 64) (by omega)
    have h2 : midW S (t / 64 / 64) = 0 := by simpa using h1
    have h3 := wd_zero.mp h2 (t / 64 % 64) (Nat.mod_lt _ (by decide))
    rw [show 64 * (t / 64 / 64) + t / 64 % 64 = t / 64 by omega] at h3
    have h4 : lowW S (t / 64) = 0 := by simpa using h3
    have h5 := wd_zero.mp h4 (t % 64) (Nat.mod_lt _ (by decide))
    rwa [show 64 * (t / 64) + t % 64 = t by omega] at h5
  · intro h
    have hall : ∀ t, t < 262144 → S t = false := fun t ht => by
      cases e : S t
      · rfl
      · have := cnt_pos ht e
        unfold len at h
        omega
    rw [← topW_E0]
    exact top_ext hall

theorem shr_at {f : Nat → Bool} {i : Nat} (hi : i < 64) : (((wd f : Nat) : Int) / 2 ^ i % 2 == 1) = f i := by
  rw [div_pow]
  have h := wd_at f i hi
  have : (((wd f / 2 ^ i : Nat) : Int) % 2) = ((wd f / 2 ^ i % 2 : Nat) : Int) := by omega
  rw [this, h]
  cases f i <;> rfl

theorem shr_tm {f : Nat → Bool} {i : Nat} (hi : i < 64) : ((((wd f : Nat) : Int) / 2 ^ i).tmod 2 == 1) = f i := by
  have h := shr_at (f := f) hi
  rw [Int.tmod_eq_emod_of_nonneg (by rw [div_pow]; exact Int.natCast_nonneg _)]
  exact h

theorem low_sum {W : World} {g : Nat} {S : St} (h : Bm W g S) (i b : Nat) (hi : i < 64) (hb : b < 64) :
    Calls Try.prog 11 #[.pointer (some ⟨g, 0, none⟩), .int .i64 (64 * (i : Int) + (b : Int))] W fun e w' => e = .returned (.int .u64 (lowW S (64 * i + b) : Nat)) ∧ w' = W := by
  have := low_in h (64 * i + b) (by omega)
  have e : ((64 * i + b : Nat) : Int) = 64 * (i : Int) + (b : Int) := by omega
  rwa [e] at this

set_option maxHeartbeats 8000000 in
set_option maxRecDepth 100000 in
theorem levels_calls {W : World} {A B : Option Addr} {n cap m cap2 : Nat} {f h : Nat → Int} (hl : Ints W A n f) (hn : n ≤ 9223372036854775807) (hd : Ints W B m h) (hm : m ≤ 9223372036854775807) :
    Calls Try.prog 5 #[.slice A n cap, .slice B m cap2] W fun e w' => e = .returned (.bool true) ∧ Below W.heap.size W w' := by
  have HL := Aside0.mk (filled_calls (cap := cap) hl hn)
  have HD := Aside0.mk hd
  clear hl hd
  go_enter Try.func5, Try.ntmps5
  go_wp2_with (go_at_call 6; (with_reducible refine (HL.out).mono ?_); rintro e w1 ⟨rfl, h1, f1⟩; have H1 := Aside0.mk h1; have G1 := Aside0.mk f1; clear h1 f1)
  go_loopg [7] m (fun kq v w' => ∃ i : Nat, v = .int .i64 (i : Int) ∧ Aside0 (kq + i = m) ∧ Aside0 (∃ S, Bm w' W.heap.size S) ∧ Aside0 (Below W.heap.size W w'))
  case atStart => exact ⟨0, rfl, ⟨rfl⟩, ⟨_, H1.out⟩, G1⟩
  case round =>
    obtain ⟨i, rfl, HK, ⟨S, hS⟩, HB⟩ := hrel
    have HM := Aside0.mk hS
    clear hS
    have hin : i ≤ m := by have := HK.out; omega
    by_cases hi : i < m
    · obtain ⟨k1, rfl⟩ : ∃ k1, gk = k1 + 1 := ⟨gk - 1, by have := HK.out; omega⟩
      obtain ⟨ab, ao, rfl, hc⟩ := (HD.out.below HB.out) i hi
      go_wp2_with (go_at_call 9; (with_reducible refine (clear_any _ HM.out _).mono ?_); rintro e w5 ⟨rfl, h5, f5⟩; have H5 := Aside0.mk h5; have G5 := Aside0.mk f5; clear h5 f5)
      go_roundg k1
      case measure => omega
      case rel => exact ⟨i + 1, by simp, ⟨by have := HK.out; omega⟩, ⟨_, H5.out⟩, ⟨Fr.onto HB.out G5.out (fun i hi => by omega)⟩⟩
    · obtain rfl : i = m := by omega
      clear hi
      obtain ⟨w2, hw2⟩ : ∃ w2, w2 = wr := ⟨_, rfl⟩
      rw [← hw2] at HM HB ⊢
      clear hw2
      go_wp2
      go_loopg [8] 64 (fun kq v w' => ∃ i : Nat, v = .int .i64 (i : Int) ∧ Aside0 (kq + i = 64) ∧ Aside0 (Bm w' W.heap.size S) ∧ Aside0 (Below W.heap.size W w'))
      case atStart => exact ⟨0, rfl, ⟨rfl⟩, HM, HB⟩
      case round =>
        obtain ⟨i, rfl, HK, HM, HB⟩ := hrel
        have hin : i ≤ 64 := by have := HK.out; omega
        by_cases hi : i < 64
        · obtain ⟨k1, rfl⟩ : ∃ k1, gk = k1 + 1 := ⟨gk - 1, by have := HK.out; omega⟩
          have hm64 : i < 64 := hi
          have t1 : ((((topW S : Nat) : Int) / 2 ^ i).tmod 2 == 1) = (midW S i != 0) := shr_tm hi
          by_cases hz : midW S i = 0
          · have z1 : (((midW S i : Nat) : Int) == 0) = true := by rw [hz]; rfl
            have z2 : (((midW S i : Nat) : Int) != 0) = false := by rw [hz]; rfl
            rw [hz] at t1
            replace t1 : ((((topW S : Nat) : Int) / 2 ^ i).tmod 2 == 1) = false := t1
            clear hz
            go_wp2
            go_quiet (first | (go_at_call 10; exact Calls.quiet_of_same (top_calls (HM.out.drewN _))) | (go_at_call 14; exact Calls.quiet_of_same (mid_in (HM.out.drewN _) i hi)))
            go_wp2_with (go_at_call 14; (with_reducible refine (mid_in (HM.out.drewN _) i hm64).mono ?_); rintro e w5 ⟨rfl, h5⟩; subst w5)
            go_roundg k1
            case measure => omega
            case rel => exact ⟨i + 1, by simp, ⟨by have := HK.out; omega⟩, ⟨HM.out.drewN _⟩, ⟨pw_below_drewN HB.out _⟩⟩
          · have z1 : (((midW S i : Nat) : Int) == 0) = false := beq_eq_false_iff_ne.mpr (by omega)
            have z2 : (((midW S i : Nat) : Int) != 0) = true := bne_iff_ne.mpr (by omega)
            have t2 : (midW S i != 0) = true := bne_iff_ne.mpr hz
            rw [t2] at t1
            clear hz t2
            go_wp2
            go_quiet (first | (go_at_call 10; exact Calls.quiet_of_same (top_calls (HM.out.drewN _))) | (go_at_call 14; exact Calls.quiet_of_same (mid_in (HM.out.drewN _) i hi)))
            go_wp2_with (go_at_call 14; (with_reducible refine (mid_in (HM.out.drewN _) i hm64).mono ?_); rintro e w5 ⟨rfl, h5⟩; subst w5)
            obtain ⟨w3, hw3⟩ : ∃ w3, w3 = wr.drewN nq := ⟨_, rfl⟩
            have HM3 : Aside0 (Bm w3 W.heap.size S) := ⟨by rw [hw3]; exact HM.out.drewN _⟩
            have HB3 : Aside0 (Below W.heap.size W w3) := ⟨by rw [hw3]; exact pw_below_drewN HB.out _⟩
            rw [← hw3]
            clear hw3 t1
            go_loopg [9] 64 (fun kq v w' => ∃ b : Nat, v = .int .i64 (b : Int) ∧ Aside0 (kq + b = 64) ∧ Aside0 (Bm w' W.heap.size S) ∧ Aside0 (Below W.heap.size W w'))
            case atStart => exact ⟨0, rfl, ⟨rfl⟩, HM3, HB3⟩
            case round =>
              clear HM3 HB3 HM HB
              obtain ⟨b, rfl, HKb, HM, HB⟩ := hrel
              have hbn : b ≤ 64 := by have := HKb.out; omega
              by_cases hb : b < 64
              · obtain ⟨k2, rfl⟩ : ∃ k2, gk = k2 + 1 := ⟨gk - 1, by have := HKb.out; omega⟩
                have hb64 : b < 64 := hb
                have e1 : IntKind.i64.wrap (64 * (i : Int)) = 64 * (i : Int) := IntWalk.i64_in _ (by omega)
                have e2 : IntKind.i64.wrap (64 * (i : Int) + (b : Int)) = 64 * (i : Int) + (b : Int) := IntWalk.i64_in _ (by omega)
                have t1 : ((((midW S i : Nat) : Int) / 2 ^ b).tmod 2 == 1) = (lowW S (64 * i + b) != 0) := shr_tm hb
                by_cases hz : lowW S (64 * i + b) = 0
                · have z3 : (((lowW S (64 * i + b) : Nat) : Int) != 0) = false := by rw [hz]; rfl
                  rw [hz] at t1
                  replace t1 : ((((midW S i : Nat) : Int) / 2 ^ b).tmod 2 == 1) = false := t1
                  clear hz
                  go_wp2
                  go_quiet (first | (go_at_call 14; exact Calls.quiet_of_same (mid_in (HM.out.drewN _) i hm64)) | (go_at_call 11; exact Calls.quiet_of_same (low_sum (HM.out.drewN _) i b hm64 hb64)))
                  clear e1 e2
                  go_wp2
                  go_roundg k2
                  case measure => omega
                  case rel => exact ⟨b + 1, by simp, ⟨by have := HKb.out; omega⟩, ⟨HM.out.drewN _⟩, ⟨pw_below_drewN HB.out _⟩⟩
                · have z3 : (((lowW S (64 * i + b) : Nat) : Int) != 0) = true := bne_iff_ne.mpr (by omega)
                  have t2 : (lowW S (64 * i + b) != 0) = true := bne_iff_ne.mpr hz
                  rw [t2] at t1
                  clear hz t2
                  go_wp2
                  go_quiet (first | (go_at_call 14; exact Calls.quiet_of_same (mid_in (HM.out.drewN _) i hm64)) | (go_at_call 11; exact Calls.quiet_of_same (low_sum (HM.out.drewN _) i b hm64 hb64)))
                  clear e1 e2
                  go_wp2
                  go_roundg k2
                  case measure => omega
                  case rel => exact ⟨b + 1, by simp, ⟨by have := HKb.out; omega⟩, ⟨HM.out.drewN _⟩, ⟨pw_below_drewN HB.out _⟩⟩
              · go_wp2
                go_roundg k1
                case measure => omega
                case rel => exact ⟨i + 1, by simp, ⟨by have := HK.out; omega⟩, HM, HB⟩
        · have L := Aside0.mk (len_calls HM.out)
          have T := Aside0.mk (top_calls HM.out)
          have M1 := Aside0.mk (mid_out wr (.pointer (some ⟨W.heap.size, 0, none⟩)) (-1) (.inl (by decide)))
          have M2 := Aside0.mk (mid_out wr (.pointer (some ⟨W.heap.size, 0, none⟩)) 64 (.inr (by decide)))
          have L1 := Aside0.mk (low_out wr (.pointer (some ⟨W.heap.size, 0, none⟩)) (-1) (.inl (by decide)))
          have L2 := Aside0.mk (low_out wr (.pointer (some ⟨W.heap.size, 0, none⟩)) 4096 (.inr (by decide)))
          by_cases hz : topW S = 0
          · have z1 : (((topW S : Nat) : Int) == 0) = true := by rw [hz]; rfl
            have z2 : (((count S 0 262144 : Nat) : Int) == 0) = true := by rw [count_len, (top_zero S).mp hz]; rfl
            clear hz
            go_wp2_with (first
              | (go_at_call 10; (with_reducible refine (T.out).mono ?_); rintro e w5 ⟨rfl, h5⟩; subst w5)
              | (go_at_call 12; (with_reducible refine (L.out).mono ?_); rintro e w5 ⟨rfl, h5⟩; subst w5)
              | (go_at_call 11; (with_reducible refine (L1.out).mono ?_); rintro e w5 ⟨rfl, h5⟩; subst w5)
              | (go_at_call 11; (with_reducible refine (L2.out).mono ?_); rintro e w5 ⟨rfl, h5⟩; subst w5)
              | (go_at_call 14; (with_reducible refine (M2.out).mono ?_); rintro e w5 ⟨rfl, h5⟩; subst w5)
              | (go_at_call 14; (with_reducible refine (M1.out).mono ?_); rintro e w5 ⟨rfl, h5⟩; subst w5))
            go_ret
            exact ⟨rfl, HB.out⟩
          · have z1 : (((topW S : Nat) : Int) == 0) = false := beq_eq_false_iff_ne.mpr (by omega)
            have z2 : (((count S 0 262144 : Nat) : Int) == 0) = false := by
              rw [count_len]
              exact beq_eq_false_iff_ne.mpr (fun e => hz ((top_zero S).mpr (by omega)))
            clear hz
            go_wp2_with (first
              | (go_at_call 10; (with_reducible refine (T.out).mono ?_); rintro e w5 ⟨rfl, h5⟩; subst w5)
              | (go_at_call 12; (with_reducible refine (L.out).mono ?_); rintro e w5 ⟨rfl, h5⟩; subst w5)
              | (go_at_call 11; (with_reducible refine (L1.out).mono ?_); rintro e w5 ⟨rfl, h5⟩; subst w5)
              | (go_at_call 11; (with_reducible refine (L2.out).mono ?_); rintro e w5 ⟨rfl, h5⟩; subst w5)
              | (go_at_call 14; (with_reducible refine (M2.out).mono ?_); rintro e w5 ⟨rfl, h5⟩; subst w5)
              | (go_at_call 14; (with_reducible refine (M1.out).mono ?_); rintro e w5 ⟨rfl, h5⟩; subst w5))
            go_ret
            exact ⟨rfl, HB.out⟩
end Go.Proofs.Ytgcelkndgjjbdaa.PBm
