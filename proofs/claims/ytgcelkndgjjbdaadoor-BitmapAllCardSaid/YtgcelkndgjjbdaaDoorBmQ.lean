/- At. -/
import Derived.Test.YtgcelkndgjjbdaaDoorBmM
import Derived.Deep.QuietTactic
import Derived.BigQuiet
namespace Go.Proofs.YtgcelkndgjjbdaaDoor.PBm
open Go.RowKit Go.Proofs.YtgcelkndgjjbdaaDoorW.PrintWords Go.Proofs.YtgcelkndgjjbdaaDoorW.PrintLast Go.Proofs.YtgcelkndgjjbdaaDoorW.PrintMore
set_option linter.unusedVariables false
set_option linter.unusedSimpArgs false

/-- The lowest bit is struck. -/
theorem strike {g : Nat → Bool} (h : wd g ≠ 0) : wd g &&& (wd g - 1) = wd (fun b => g b && decide (Lib.ctz 64 (wd g) + 1 ≤ b)) := by
  obtain ⟨c1, c2, c3⟩ := ctz_spec h
  have hx : ∃ m, wd g = 2 ^ Lib.ctz 64 (wd g) * (2 * m + 1) := by
    unfold Lib.ctz
    rw [if_neg h]
    obtain ⟨m, hm, _⟩ := Lib.ctzFrom_spec 64 (wd g) (by omega) (wd_lt g)
    exact ⟨m, hm⟩
  obtain ⟨m, hm⟩ := hx
  generalize Lib.ctz 64 (wd g) = c at c1 c2 c3 hm
  have hp : 0 < 2 ^ c := Nat.pow_pos (by decide)
  have e1 : wd g = 2 ^ (c + 1) * m + 2 ^ c := by rw [hm, Nat.pow_succ, Nat.mul_add, Nat.mul_one, Nat.mul_assoc]
  have e2 : wd g - 1 = 2 ^ (c + 1) * m + (2 ^ c - 1) := by omega
  have l1 : 2 ^ c < 2 ^ (c + 1) := by rw [Nat.pow_succ]; omega
  apply Nat.eq_of_testBit_eq
  intro b
  rw [Nat.testBit_and, e2, Nat.testBit_two_pow_mul_add _ (by omega), wd_bit, wd_bit]
  by_cases hb : b < c + 1
  · rw [if_pos hb, Nat.testBit_two_pow_sub_one]
    have h1 : ¬ c + 1 ≤ b := by omega
    by_cases h2 : b < c
    · simp [h1, c3 b h2]
    · simp [h1, h2]
  · rw [if_neg hb]
    have h1 : c + 1 ≤ b := by omega
    have h2 : (wd g).testBit b = m.testBit (b - (c + 1)) := by
      rw [e1, Nat.testBit_two_pow_mul_add _ l1, if_neg hb]
    rw [wd_bit] at h2
    rw [← h2]
    cases decide (b < 64) <;> cases g b <;> simp [h1]

theorem cnt_none {f : Nat → Bool} {a b : Nat} (hab : a ≤ b) (h : ∀ x, a ≤ x → x < b → f x = false) : cnt f b = cnt f a := (cnt_all hab h).symm
theorem cnt_mono {f : Nat → Bool} {a b : Nat} (hab : a ≤ b) : cnt f a ≤ cnt f b := by
  obtain ⟨d, rfl⟩ : ∃ d, b = a + d := ⟨b - a, by omega⟩
  rw [cnt_add]
  omega
theorem cnt_succ_of {f : Nat → Bool} {x : Nat} (h : f x = true) : cnt f (x + 1) = cnt f x + 1 := by simp [cnt, h]

/-- j bits are struck: those below K. -/
def Struck (f : Nat → Bool) (j : Nat) (v : Nat) : Prop := ∃ K, v = wd (fun b => f b && decide (K ≤ b)) ∧ cnt f K = j ∧ K ≤ 64

theorem struck_zero (f : Nat → Bool) : Struck f 0 (wd f) := ⟨0, wd_ext (fun b _ => by simp), rfl, by decide⟩

theorem struck_low {f : Nat → Bool} {j v : Nat} (h : Struck f j v) (hj : j < cnt f 64) : v ≠ 0 ∧ v < 18446744073709551616 ∧ Lib.ctz 64 v < 64 ∧ f (Lib.ctz 64 v) = true ∧ cnt f (Lib.ctz 64 v) = j ∧ Struck f (j + 1) (v &&& (v - 1)) := by
  obtain ⟨K, rfl, hK, hK64⟩ := h
  have h0 : wd (fun b => f b && decide (K ≤ b)) ≠ 0 := by
    intro e
    have hz := wd_zero.mp e
    have : cnt f 64 = cnt f K := cnt_none hK64 (fun x h1 h2 => by simpa [h1] using hz x h2)
    omega
  obtain ⟨c1, c2, c3⟩ := ctz_spec h0
  have hs := strike h0
  refine ⟨h0, wd_lt _, c1, ?_⟩
  generalize Lib.ctz 64 (wd fun b => f b && decide (K ≤ b)) = c at c1 c2 c3 hs ⊢
  simp only [Bool.and_eq_true, decide_eq_true_eq] at c2
  have e : cnt f c = j := by rw [← hK]; exact cnt_none c2.2 (fun x h1 h2 => by simpa [h1] using c3 x h2)
  refine ⟨c2.1, e, c + 1, ?_, by rw [cnt_succ_of c2.1, e], by omega⟩
  rw [hs]
  refine wd_ext fun b hb => ?_
  by_cases h1 : c + 1 ≤ b
  · have h2 : K ≤ b := by omega
    simp [h1, h2]
  · simp [h1]

def AtR (S : St) (r a : Int) (is : Bool) : Prop := (is = true ∧ ∃ n : Nat, a = n ∧ n < 262144 ∧ S n = true ∧ ((cnt S n : Nat) : Int) = r) ∨ (is = false ∧ a = 0 ∧ (r < 0 ∨ ((len S : Nat) : Int) ≤ r))
/-- What At leaves. -/
def AtP (S : St) (r : Int) (W : World) (e : Ending) (w' : World) : Prop := ∃ (a : Int) (is : Bool), e = .returned (.tuple #[.int .i64 a, .bool is]) ∧ AtR S r a is ∧ ∃ m, w' = W.drewN m

theorem Bm.drewN {W : World} {g : Nat} {S : St} (h : Bm W g S) (n : Nat) : Bm (W.drewN n) g S := h
theorem Tz.drewN {W : World} (h : Tz W) (n : Nat) : Tz (W.drewN n) := h

theorem sub_one_and (v : Nat) (h0 : v ≠ 0) (hv : v < 18446744073709551616) : Go.bits .and .u64 (v : Int) (IntKind.u64.wrap ((v : Int) - 1)) = ((v &&& (v - 1) : Nat) : Int) := by
  have e : IntKind.u64.wrap ((v : Int) - 1) = ((v - 1 : Nat) : Int) := by
    rw [IntKind.wrap_u64]
    omega
  rw [e]
  exact u64_and_nat v (v - 1) hv (by omega)

set_option maxHeartbeats 8000000 in
set_option maxRecDepth 100000 in
theorem at_calls {W : World} {g : Nat} {S : St} (h : Bm W g S) (hT : Tz W) (r0 : Int) (hr1 : r0 ≤ 9223372036854775807) :
    Calls Tryd.prog 10 #[.pointer (some ⟨g, 0, none⟩), .int .i64 r0] W (AtP S r0 W) := by
  by_cases hr : r0 < 0
  · clear hr1
    have hrd : decide (r0 < 0) = true := decide_eq_true hr
    go_enter Tryd.func10, Tryd.ntmps10
    go_wp2
    go_ret2
    exact ⟨0, false, rfl, .inr ⟨rfl, rfl, .inl hr⟩, 0, rfl⟩
  · have hrd : decide (r0 < 0) = false := decide_eq_false hr
    have HM := Aside0.mk h
    have HT := Aside0.mk hT
    clear h hT
    go_enter Tryd.func10, Tryd.ntmps10
    go_wp2
    go_loopg [1, 14] 4096 (fun kq v1 v14 w' => ∃ (i : Nat) (r : Int), v14 = .int .i64 (i : Int) ∧ v1 = .int .i64 r ∧ 0 ≤ r ∧ r ≤ 9223372036854775807 ∧ Aside0 (r + ((cnt S (64 * i) : Nat) : Int) = r0) ∧ Aside0 (kq + i = 4096) ∧ Aside0 (∃ m, w' = W.drewN m))
    case atStart => exact ⟨0, r0, rfl, rfl, by omega, hr1, ⟨by simp [cnt]⟩, ⟨rfl⟩, ⟨0, rfl⟩⟩
    case round =>
      obtain ⟨i, r, rfl, rfl, hr0, hr2, HR, HK, HW⟩ := hrel
      have HMw : Aside0 (Bm wr g S) := ⟨by obtain ⟨m, hm⟩ := HW.out; rw [hm]; exact HM.out.drewN m⟩
      have HTw : Aside0 (Tz wr) := ⟨by obtain ⟨m, hm⟩ := HW.out; rw [hm]; exact HT.out.drewN m⟩
      by_cases hi : i < 4096
      · obtain ⟨k1, rfl⟩ : ∃ k1, gk = k1 + 1 := ⟨gk - 1, by have := HK.out; omega⟩
        have hiI : (i : Int) < 4096 := by omega
        have hiD : decide ((i : Int) < 4096) = true := decide_eq_true hiI
        have hc0 := HMw.out.low i hi
        have HONE := Aside0.mk (fun W => ones_wd W (X := ((lowW S i : Nat) : Int)) (fun b => S (64 * i + b)) rfl)
        have HSTEP := Aside0.mk (cnt_step S i)
        obtain ⟨c, hcd⟩ : ∃ c, c = cnt (fun b => S (64 * i + b)) 64 := ⟨_, rfl⟩
        have hcl : c ≤ 64 := by rw [hcd]; exact cnt_le _ _
        obtain ⟨v, hv⟩ : ∃ v, v = lowW S i := ⟨_, rfl⟩
        rw [← hcd] at HONE HSTEP
        rw [← hv] at HONE hc0
        have HSTR : Aside0 (Struck (fun b => S (64 * i + b)) 0 v) := ⟨by rw [hv]; exact struck_zero _⟩
        have HCD := Aside0.mk hcd
        clear hcd hv
        by_cases hge : (c : Int) ≤ r
        · have hgd : decide ((c : Int) ≤ r) = true := decide_eq_true hge
          go_wp2
          go_quiet (fail)
          go_wp2_with (go_at_call 26; (with_reducible refine (HONE.out _).mono ?_); rintro e w4 ⟨rfl, h4⟩; subst w4)
          go_roundg k1
          case measure => omega
          case rel =>
            refine ⟨i + 1, r - (c : Int), by simp, rfl, by omega, by omega, ⟨?_⟩, ⟨by have := HK.out; omega⟩, ⟨?_⟩⟩
            · have h1 := HR.out
              have h2 := HSTEP.out
              rw [h2]
              omega
            · obtain ⟨m, hm⟩ := HW.out
              exact ⟨m + nq, by rw [hm, World.drewN_drewN]⟩
        · have hgd : decide ((c : Int) ≤ r) = false := decide_eq_false hge
          obtain ⟨rn, rfl⟩ : ∃ rn : Nat, r = rn := ⟨r.toNat, by omega⟩
          have hrn : rn < c := by omega
          go_wp2
          go_quiet (fail)
          go_wp2_with (go_at_call 26; (with_reducible refine (HONE.out _).mono ?_); rintro e w4 ⟨rfl, h4⟩; subst w4)
          obtain ⟨w3, hw3⟩ : ∃ w3, w3 = wr.drewN nq := ⟨_, rfl⟩
          have HW3 : Aside0 (∃ m, w3 = W.drewN m) := ⟨by obtain ⟨m, hm⟩ := HW.out; exact ⟨m + nq, by rw [hw3, hm, World.drewN_drewN]⟩⟩
          have HT3 : Aside0 (Tz w3) := ⟨by rw [hw3]; exact HTw.out.drewN _⟩
          rw [← hw3]
          clear hw3 HW HMw HTw hc0
          go_loopg [7, 29] rn (fun kq v7 v29 w' => ∃ (j u : Nat), v29 = .int .i64 (j : Int) ∧ v7 = .int .u64 (u : Int) ∧ Aside0 (kq + j = rn) ∧ Aside0 (Struck (fun b => S (64 * i + b)) j u) ∧ w' = w3)
          case atStart => exact ⟨0, v, rfl, rfl, ⟨rfl⟩, HSTR, rfl⟩
          case round =>
            obtain ⟨j, u, rfl, rfl, HKj, HS, rfl⟩ := hrel
            have hjn : j ≤ rn := by have := HKj.out; omega
            obtain ⟨u0, ul, uc, uf, un, us⟩ := struck_low HS.out (by rw [← HCD.out]; omega)
            by_cases hj : j < rn
            · obtain ⟨k2, rfl⟩ : ∃ k2, gk = k2 + 1 := ⟨gk - 1, by have := HKj.out; omega⟩
              have hjI : (j : Int) < (rn : Int) := by omega
              have hjD : decide ((j : Int) < (rn : Int)) = true := decide_eq_true hjI
              have hsub := sub_one_and u u0 ul
              obtain ⟨q, hq⟩ : ∃ q, q = u &&& (u - 1) := ⟨_, rfl⟩
              rw [← hq] at hsub us
              have US := Aside0.mk us
              clear u0 ul uc uf un us hq
              go_wp2
              go_roundg k2
              case measure => omega
              case rel => exact ⟨j + 1, q, by simp, rfl, ⟨by have := HKj.out; omega⟩, US, rfl⟩
            · obtain rfl : j = rn := by omega
              have hjI : ¬ (j : Int) < (j : Int) := by omega
              have hjD : decide ((j : Int) < (j : Int)) = false := decide_eq_false hjI
              have TZ := Aside0.mk (tz_calls u ul u0 wr HT3.out)
              obtain ⟨q, hq⟩ : ∃ q, q = Lib.ctz 64 u := ⟨_, rfl⟩
              rw [← hq] at TZ uc uf un
              have UF := Aside0.mk uf
              have UN := Aside0.mk un
              clear u0 ul uf un us hq
              go_wp2_with (go_at_call 27; (with_reducible refine (TZ.out).mono ?_); rintro e w4 ⟨rfl, h4⟩; subst w4)
              go_ret2
              refine ⟨64 * (i : Int) + (q : Int), true, rfl, .inl ⟨rfl, 64 * i + q, by omega, by omega, UF.out, ?_⟩, HW3.out⟩
              rw [cnt_add, UN.out]
              have := HR.out
              omega
      · have hiI : ¬ (i : Int) < 4096 := by omega
        have hiD : decide ((i : Int) < 4096) = false := decide_eq_false hiI
        go_wp2
        go_ret2
        refine ⟨0, false, rfl, .inr ⟨rfl, rfl, .inr ?_⟩, HW.out⟩
        have h1 := HR.out
        have h2 : len S ≤ cnt S (64 * i) := cnt_mono (by omega)
        omega
end Go.Proofs.YtgcelkndgjjbdaaDoor.PBm
