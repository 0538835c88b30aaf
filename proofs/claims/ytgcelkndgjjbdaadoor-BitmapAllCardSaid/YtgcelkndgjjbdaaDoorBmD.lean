/- OnesCount64, Count, Len. -/
import Derived.Test.YtgcelkndgjjbdaaDoorBmB
import Derived.Test.YtgcelkndgjjbdaaDoorBmC
namespace Go.Proofs.YtgcelkndgjjbdaaDoor.PBm
open Go.RowKit Go.Proofs.YtgcelkndgjjbdaaDoorW.PrintWords Go.Proofs.YtgcelkndgjjbdaaDoorW.PrintLast Go.Proofs.YtgcelkndgjjbdaaDoorW.PrintMore
attribute [local go_sem] max_two min_two
set_option linter.unusedVariables false
set_option linter.unusedSimpArgs false

theorem ofInt_i64 (a : Nat) (ha : a < 9223372036854775808) : (BitVec.ofInt 64 (a : Int)).toNat = a := by
  rw [BitVec.ofInt_natCast, BitVec.toNat_ofNat]; exact Nat.mod_eq_of_lt (by omega)
theorem i64_and_nat (a b : Nat) (ha : a < 9223372036854775808) (hb : b < 9223372036854775808) : Go.bits .and .i64 (a : Int) (b : Int) = ((a &&& b : Nat) : Int) := by
  have hx : a &&& b < 2 ^ 63 := Nat.and_lt_two_pow _ (by omega)
  show IntKind.i64.wrap ((BitVec.ofInt 64 (a : Int) &&& BitVec.ofInt 64 (b : Int)).toNat : Int) = _
  rw [BitVec.toNat_and, ofInt_i64 a ha, ofInt_i64 b hb, IntKind.wrap_i64]
  omega

theorem u64_nat (x : Nat) (h : x < 18446744073709551616) : IntKind.u64.wrap (x : Int) = (x : Int) := by
  rw [IntKind.wrap_u64]
  omega

/-- The ones of a word. -/
def pop (x : Nat) : Nat := cnt (fun b => x.testBit b) 64

theorem ones_f (x : Nat) (hx : x < 18446744073709551616) : bits_OnesCount64.f (x : Int) = some ((pop x : Nat) : Int) := by
  have a1 : x / 2 &&& mk 85 8 ≤ mk 85 8 := Nat.and_le_right
  have a2 : x &&& mk 85 8 ≤ mk 85 8 := Nat.and_le_right
  have l1 : s1 8 x ≤ 2 * mk 85 8 := by unfold s1; omega
  have a3 : s1 8 x / 4 &&& mk 51 8 ≤ mk 51 8 := Nat.and_le_right
  have a4 : s1 8 x &&& mk 51 8 ≤ mk 51 8 := Nat.and_le_right
  have l2 : un 8 x ≤ 2 * mk 51 8 := by unfold un s2; omega
  rw [mk_85] at l1
  rw [mk_51] at l2
  have e1 : IntKind.u64.wrap (Go.bits .and .u64 ((x : Int) / 2) 6148914691236517205 + Go.bits .and .u64 (x : Int) 6148914691236517205) = ((s1 8 x : Nat) : Int) := by
    have h1 := u64_and_nat (x / 2) (mk 85 8) (by omega) (by rw [mk_85]; decide)
    have h2 := u64_and_nat x (mk 85 8) hx (by rw [mk_85]; decide)
    rw [Int.natCast_ediv, mk_85] at h1
    rw [mk_85] at h2
    simp only [Int.cast_ofNat_Int] at h1 h2
    rw [h1, h2, ← Int.natCast_add, ← mk_85]
    exact u64_nat _ (by show s1 8 x < _; omega)
  have e2 : IntKind.u64.wrap (Go.bits .and .u64 (((s1 8 x : Nat) : Int) / 4) 3689348814741910323 + Go.bits .and .u64 ((s1 8 x : Nat) : Int) 3689348814741910323) = ((un 8 x : Nat) : Int) := by
    have h1 := u64_and_nat (s1 8 x / 4) (mk 51 8) (by omega) (by rw [mk_51]; decide)
    have h2 := u64_and_nat (s1 8 x) (mk 51 8) (by omega) (by rw [mk_51]; decide)
    rw [Int.natCast_ediv, mk_51] at h1
    rw [mk_51] at h2
    simp only [Int.cast_ofNat_Int] at h1 h2
    rw [h1, h2, ← Int.natCast_add, ← mk_51]
    exact u64_nat _ (by show un 8 x < _; omega)
  have e3 : Go.bits .and .u64 (IntKind.u64.wrap (((un 8 x : Nat) : Int) / 16 + ((un 8 x : Nat) : Int))) 1085102592571150095 = ((tn 8 x : Nat) : Int) := by
    have h0 : IntKind.u64.wrap (((un 8 x : Nat) : Int) / 16 + ((un 8 x : Nat) : Int)) = ((un 8 x / 16 + un 8 x : Nat) : Int) := by
      have h3 : (((un 8 x : Nat) : Int) / 16 + ((un 8 x : Nat) : Int)) = ((un 8 x / 16 + un 8 x : Nat) : Int) := by omega
      rw [h3]
      exact u64_nat _ (by omega)
    have h1 := u64_and_nat (un 8 x / 16 + un 8 x) (mk 15 8) (by omega) (by rw [mk_15]; decide)
    rw [mk_15] at h1
    simp only [Int.cast_ofNat_Int] at h1
    rw [h0, h1, ← mk_15]
    rfl
  have t := tn8 x
  obtain ⟨y, hy⟩ : ∃ y, y = tn 8 x := ⟨_, rfl⟩
  rw [← hy] at e3 t
  obtain ⟨k1, k2, k3, k4, k5⟩ := sum8 _ _ _ _ _ _ _ _ y (y + y / 256) (y + y / 256 + (y + y / 256) / 65536) (y + y / 256 + (y + y / 256) / 65536 + (y + y / 256 + (y + y / 256) / 65536) / 4294967296) (by_le 0 x) (by_le 1 x) (by_le 2 x) (by_le 3 x) (by_le 4 x) (by_le 5 x) (by_le 6 x) (by_le 7 x) t rfl rfl rfl
  rw [bytes_sum] at k2
  clear t a1 a2 l1 a3 a4 l2
  have e4 : IntKind.u64.wrap ((y : Int) + (y : Int) / 256) = ((y + y / 256 : Nat) : Int) := by
    have : (y : Int) + (y : Int) / 256 = ((y + y / 256 : Nat) : Int) := by omega
    rw [this]
    exact u64_nat _ k4
  obtain ⟨z, hz⟩ : ∃ z, z = y + y / 256 := ⟨_, rfl⟩
  rw [← hz] at e4 k1 k2 k5
  have e5 : IntKind.u64.wrap ((z : Int) + (z : Int) / 65536) = ((z + z / 65536 : Nat) : Int) := by
    have : (z : Int) + (z : Int) / 65536 = ((z + z / 65536 : Nat) : Int) := by omega
    rw [this]
    exact u64_nat _ k5
  obtain ⟨v, hv⟩ : ∃ v, v = z + z / 65536 := ⟨_, rfl⟩
  rw [← hv] at e5 k1 k2
  have e6 : IntKind.u64.wrap ((v : Int) + (v : Int) / 4294967296) = ((v + v / 4294967296 : Nat) : Int) := by
    have : (v : Int) + (v : Int) / 4294967296 = ((v + v / 4294967296 : Nat) : Int) := by omega
    rw [this]
    exact u64_nat _ (by omega)
  obtain ⟨u, hu⟩ : ∃ u, u = v + v / 4294967296 := ⟨_, rfl⟩
  rw [← hu] at e6 k1 k2
  have e7 : wrap64 (u : Int) = (u : Int) := by unfold wrap64; omega
  unfold bits_OnesCount64.f
  rw [e1, e2, e3, e4, e5, e6, e7]
  have h := i64_and_nat u 127 (by omega) (by decide)
  rw [nat_mask7, k2] at h
  exact congrArg some h

set_option maxHeartbeats 8000000 in
set_option maxRecDepth 100000 in
theorem ones_calls (x : Nat) (hx : x < 18446744073709551616) (W : World) :
    Calls Tryd.prog 26 #[.int .u64 (x : Int)] W fun e w' => e = .returned (.int .i64 ((pop x : Nat) : Int)) ∧ w' = W := by
  have h := ones_f x hx
  unfold bits_OnesCount64.f at h
  have h2 := Option.some.inj h
  rw [← h2]
  clear h h2
  go_enter Tryd.func26, Tryd.ntmps26
  go_wp2
  go_ret
  exact ⟨by first | rfl | (simp; done) | (simp [*]; done), rfl⟩

/-- How many from one number up to another. -/
def inR (S : St) (a b : Int) (x : Nat) : Bool := decide (a ≤ (x : Int)) && decide ((x : Int) < b) && S x
def count (S : St) (a b : Int) : Nat := cnt (inR S a b) 262144

theorem pop_wd (f : Nat → Bool) : pop (wd f) = cnt f 64 := by
  unfold pop
  exact cnt_ext fun b hb => by rw [wd_bit]; simp [hb]

theorem ones_wd (W : World) {X : Int} (f : Nat → Bool) (h : X = ((wd f : Nat) : Int)) :
    Calls Tryd.prog 26 #[.int .u64 X] W fun e w' => e = .returned (.int .i64 ((cnt f 64 : Nat) : Int)) ∧ w' = W := by
  rw [h, ← pop_wd]
  exact ones_calls (wd f) (wd_lt f) W

theorem mask_up (k : Nat) (hk : k < 64) : IntKind.u64.wrap (18446744073709551615 * 2 ^ k) = ((wd (fun b => decide (k ≤ b)) : Nat) : Int) := by
  have hp : 2 ^ k < 18446744073709551616 := Nat.pow_lt_pow_right (by decide : 1 < 2) hk
  have hp0 : 0 < 2 ^ k := Nat.pow_pos (by decide)
  have e : wd (fun b => decide (k ≤ b)) = 18446744073709551615 - (2 ^ k - 1) := by
    apply Nat.eq_of_testBit_eq
    intro b
    rw [wd_bit, allOnes_bit _ _ (by omega), Nat.testBit_two_pow_sub_one]
    by_cases h : b < k
    · have h2 : ¬ k ≤ b := by omega
      simp [h, h2]
    · have h2 : k ≤ b := by omega
      simp [h, h2]
  rw [e]
  have : ((2 : Int) ^ k) = ((2 ^ k : Nat) : Int) := by simp
  rw [this]
  generalize 2 ^ k = p at hp hp0
  rw [IntKind.wrap_u64]
  omega

theorem mask_dn (k : Nat) (hk : k < 64) : IntKind.u64.wrap (IntKind.u64.wrap (2 ^ k) - 1) = ((wd (fun b => decide (b < k)) : Nat) : Int) := by
  have hp : 2 ^ k < 18446744073709551616 := Nat.pow_lt_pow_right (by decide : 1 < 2) hk
  have hp0 : 0 < 2 ^ k := Nat.pow_pos (by decide)
  have e : wd (fun b => decide (b < k)) = 2 ^ k - 1 := by
    apply Nat.eq_of_testBit_eq
    intro b
    rw [wd_bit, Nat.testBit_two_pow_sub_one]
    by_cases h : b < k
    · have h2 : b < 64 := by omega
      simp [h, h2]
    · simp [h]
  rw [e]
  have : ((2 : Int) ^ k) = ((2 ^ k : Nat) : Int) := by simp
  rw [this]
  generalize 2 ^ k = p at hp hp0
  rw [IntKind.wrap_u64, IntKind.wrap_u64]
  omega

theorem and_wd (f g : Nat → Bool) : Go.bits .and .u64 ((wd f : Nat) : Int) ((wd g : Nat) : Int) = ((wd (fun b => f b && g b) : Nat) : Int) := by
  rw [u64_and_nat _ _ (wd_lt f) (wd_lt g)]
  congr 1
  apply Nat.eq_of_testBit_eq
  intro b
  rw [Nat.testBit_and, wd_bit, wd_bit, wd_bit]
  by_cases h : b < 64 <;> simp [h]

theorem cnt_step (G : Nat → Bool) (i : Nat) : cnt G (64 * (i + 1)) = cnt G (64 * i) + cnt (fun b => G (64 * i + b)) 64 := by
  rw [show 64 * (i + 1) = 64 * i + 64 by omega, cnt_add]

theorem count_none {S : St} {a b : Int} (h : ∀ x : Nat, x < 262144 → ¬ (a ≤ x ∧ (x : Int) < b)) : count S a b = 0 := by
  unfold count
  refine cnt_zero fun x hx => ?_
  unfold inR
  have := h x hx
  by_cases h1 : a ≤ x
  · have h2 : ¬ (x : Int) < b := fun h2 => this ⟨h1, h2⟩
    simp [h2]
  · simp [h1]

theorem cnt_all {G : Nat → Bool} {m n : Nat} (hmn : m ≤ n) (h : ∀ x, m ≤ x → x < n → G x = false) : cnt G m = cnt G n := by
  obtain ⟨d, rfl⟩ : ∃ d, n = m + d := ⟨n - m, by omega⟩
  rw [cnt_add, cnt_zero (f := fun b => G (m + b)) (fun b hb => h _ (by omega) (by omega))]
  rfl

set_option maxHeartbeats 8000000 in
set_option maxRecDepth 100000 in
theorem count_calls {W : World} {g : Nat} {S : St} (h : Bm W g S) (a b : Int) :
    Calls Tryd.prog 8 #[.pointer (some ⟨g, 0, none⟩), .int .i64 a, .int .i64 b] W fun e w' => e = .returned (.int .i64 ((count S a b : Nat) : Int)) ∧ w' = W := by
  have HM := Aside0.mk h
  clear h
  obtain ⟨A, hA⟩ : ∃ A : Nat, (if a < 0 then 0 else a) = (A : Int) := ⟨(if a < 0 then 0 else a).toNat, by split <;> omega⟩
  obtain ⟨B, hB⟩ : ∃ B : Int, (if 262144 < b then 262144 else b) = B := ⟨_, rfl⟩
  have hmx : Builtin.max2 (.int .i64 a) (.int .i64 0) = pure (.int .i64 (A : Int)) := by rw [max2_int, hA]
  have hmn : Builtin.min2 (.int .i64 b) (.int .i64 262144) = pure (.int .i64 B) := by rw [min2_int, hB]
  have hG : ∀ x : Nat, x < 262144 → inR S a b x = (decide (A ≤ x) && decide ((x : Int) < B) && S x) := by
    intro x hx
    unfold inR
    congr 1
    have e1 : (a ≤ (x : Int)) = (A ≤ x) := by apply propext; split at hA <;> omega
    have e2 : ((x : Int) < b) = ((x : Int) < B) := by apply propext; split at hB <;> omega
    simp only [e1, e2]
  have hB2 : B ≤ 262144 := by split at hB <;> omega
  clear hA hB
  by_cases hAB : (A : Int) < B
  · obtain ⟨Bn, rfl⟩ : ∃ n : Nat, B = n := ⟨B.toNat, by omega⟩
    have hc : cnt (inR S a b) (64 * 4096) = count S a b := rfl
    obtain ⟨C, hC⟩ : ∃ C, C = count S a b := ⟨_, rfl⟩
    rw [← hC] at hc ⊢
    obtain ⟨G, hGd⟩ : ∃ G, G = inR S a b := ⟨_, rfl⟩
    rw [← hGd] at hc hG
    have HG := Aside0.mk hG
    have HC := Aside0.mk hc
    clear hG hc hC hGd
    go_enter Tryd.func8, Tryd.ntmps8
    go_wp2
    go_loopg [7, 8] (4096 - A / 64) (fun kq n7 n8 w' => ∃ i : Nat, n8 = .int .i64 (i : Int) ∧ n7 = .int .i64 ((cnt G (64 * i) : Nat) : Int) ∧ Aside0 (A / 64 ≤ i) ∧ Aside0 (kq + i = 4096) ∧ w' = W)
    case atStart =>
      refine ⟨A / 64, by simp, ?_, ⟨Nat.le_refl _⟩, ⟨by omega⟩, rfl⟩
      rw [cnt_zero (n := 64 * (A / 64)) (fun x hx => by rw [HG.out x (by omega)]; simp; omega)]
      rfl
    case round =>
      obtain ⟨i, rfl, rfl, HI, HK, rfl⟩ := hrel
      have hi4 : (i : Int) ≤ 4096 := by have := HK.out; omega
      by_cases hi : 64 * (i : Int) < (Bn : Int)
      · have hi2 : i < 4096 := by omega
        have hc0 := HM.out.low i hi2
        have hle := cnt_le G (64 * i)
        obtain ⟨k1, rfl⟩ : ∃ k1, gk = k1 + 1 := ⟨gk - 1, by have := HK.out; omega⟩
        by_cases c1 : 64 * (i : Int) < (A : Int)
        · by_cases c2 : (Bn : Int) < 64 * (i : Int) + 64
          · have hF : cnt (fun b => G (64 * i + b)) 64 = cnt (fun b => (S (64 * i + b) && decide (A % 64 ≤ b)) && decide (b < Bn % 64)) 64 := cnt_ext fun x hx => by
              rw [HG.out (64 * i + x) (by omega)]
              have hi0 := HI.out
              have e1 : decide (A ≤ 64 * i + x) = decide (A % 64 ≤ x) := by
                have : (A ≤ 64 * i + x) = (A % 64 ≤ x) := propext (by omega)
                simp only [this]
              have e2 : decide (((64 * i + x : Nat) : Int) < (Bn : Int)) = decide (x < Bn % 64) := by
                have : (((64 * i + x : Nat) : Int) < (Bn : Int)) = (x < Bn % 64) := propext (by omega)
                simp only [this]
              rw [e1, e2]
              cases S (64 * i + x) <;> simp [Bool.and_comm]
            have hcl : cnt (fun b => (S (64 * i + b) && decide (A % 64 ≤ b)) && decide (b < Bn % 64)) 64 ≤ 64 := cnt_le _ _
            have hst : cnt G (64 * (i + 1)) = cnt G (64 * i) + cnt (fun b => (S (64 * i + b) && decide (A % 64 ≤ b)) && decide (b < Bn % 64)) 64 := by rw [cnt_step, hF]
            have HCALL : Aside0 (Calls Tryd.prog 26 #[.int .u64 (Go.bits .and .u64 (Go.bits .and .u64 (lowW S i : Nat) (IntKind.u64.wrap (18446744073709551615 * 2 ^ (A % 64)))) (IntKind.u64.wrap (IntKind.u64.wrap (2 ^ (Bn % 64)) - 1)))] wr fun e w' => e = .returned (.int .i64 ((cnt (fun b => (S (64 * i + b) && decide (A % 64 ≤ b)) && decide (b < Bn % 64)) 64 : Nat) : Int)) ∧ w' = wr) := ⟨ones_wd wr _ (by rw [mask_up _ (Nat.mod_lt _ (by decide)), mask_dn _ (Nat.mod_lt _ (by decide)), lowW, and_wd, and_wd])⟩
            obtain ⟨c, hcd⟩ : ∃ c, c = cnt (fun b => (S (64 * i + b) && decide (A % 64 ≤ b)) && decide (b < Bn % 64)) 64 := ⟨_, rfl⟩
            rw [← hcd] at HCALL hst hcl
            have HST := Aside0.mk hst
            clear hst hF hcd
            go_wp2_with (go_at_call 26; refine (HCALL.out).mono ?_; rintro e w4 ⟨rfl, h4⟩; subst w4)
            go_roundg k1
            case measure => omega
            case rel => exact ⟨i + 1, by simp, by rw [HST.out]; simp, ⟨by have := HI.out; omega⟩, ⟨by have := HK.out; omega⟩, rfl⟩
          · have hF : cnt (fun b => G (64 * i + b)) 64 = cnt (fun b => S (64 * i + b) && decide (A % 64 ≤ b)) 64 := cnt_ext fun x hx => by
              rw [HG.out (64 * i + x) (by omega)]
              have hi0 := HI.out
              have e1 : decide (A ≤ 64 * i + x) = decide (A % 64 ≤ x) := by
                have : (A ≤ 64 * i + x) = (A % 64 ≤ x) := propext (by omega)
                simp only [this]
              have e2 : decide (((64 * i + x : Nat) : Int) < (Bn : Int)) = true := decide_eq_true (by omega)
              rw [e1, e2]
              cases S (64 * i + x) <;> simp [Bool.and_comm]
            have hcl : cnt (fun b => S (64 * i + b) && decide (A % 64 ≤ b)) 64 ≤ 64 := cnt_le _ _
            have hst : cnt G (64 * (i + 1)) = cnt G (64 * i) + cnt (fun b => S (64 * i + b) && decide (A % 64 ≤ b)) 64 := by rw [cnt_step, hF]
            have HCALL : Aside0 (Calls Tryd.prog 26 #[.int .u64 (Go.bits .and .u64 (lowW S i : Nat) (IntKind.u64.wrap (18446744073709551615 * 2 ^ (A % 64))))] wr fun e w' => e = .returned (.int .i64 ((cnt (fun b => S (64 * i + b) && decide (A % 64 ≤ b)) 64 : Nat) : Int)) ∧ w' = wr) := ⟨ones_wd wr _ (by rw [mask_up _ (Nat.mod_lt _ (by decide)), lowW, and_wd])⟩
            obtain ⟨c, hcd⟩ : ∃ c, c = cnt (fun b => S (64 * i + b) && decide (A % 64 ≤ b)) 64 := ⟨_, rfl⟩
            rw [← hcd] at HCALL hst hcl
            have HST := Aside0.mk hst
            clear hst hF hcd
            go_wp2_with (go_at_call 26; refine (HCALL.out).mono ?_; rintro e w4 ⟨rfl, h4⟩; subst w4)
            go_roundg k1
            case measure => omega
            case rel => exact ⟨i + 1, by simp, by rw [HST.out]; simp, ⟨by have := HI.out; omega⟩, ⟨by have := HK.out; omega⟩, rfl⟩
        · by_cases c2 : (Bn : Int) < 64 * (i : Int) + 64
          · have hF : cnt (fun b => G (64 * i + b)) 64 = cnt (fun b => S (64 * i + b) && decide (b < Bn % 64)) 64 := cnt_ext fun x hx => by
              rw [HG.out (64 * i + x) (by omega)]
              have e1 : decide (A ≤ 64 * i + x) = true := decide_eq_true (by omega)
              have e2 : decide (((64 * i + x : Nat) : Int) < (Bn : Int)) = decide (x < Bn % 64) := by
                have : (((64 * i + x : Nat) : Int) < (Bn : Int)) = (x < Bn % 64) := propext (by omega)
                simp only [this]
              rw [e1, e2]
              cases S (64 * i + x) <;> simp [Bool.and_comm]
            have hcl : cnt (fun b => S (64 * i + b) && decide (b < Bn % 64)) 64 ≤ 64 := cnt_le _ _
            have hst : cnt G (64 * (i + 1)) = cnt G (64 * i) + cnt (fun b => S (64 * i + b) && decide (b < Bn % 64)) 64 := by rw [cnt_step, hF]
            have HCALL : Aside0 (Calls Tryd.prog 26 #[.int .u64 (Go.bits .and .u64 (lowW S i : Nat) (IntKind.u64.wrap (IntKind.u64.wrap (2 ^ (Bn % 64)) - 1)))] wr fun e w' => e = .returned (.int .i64 ((cnt (fun b => S (64 * i + b) && decide (b < Bn % 64)) 64 : Nat) : Int)) ∧ w' = wr) := ⟨ones_wd wr _ (by rw [mask_dn _ (Nat.mod_lt _ (by decide)), lowW, and_wd])⟩
            obtain ⟨c, hcd⟩ : ∃ c, c = cnt (fun b => S (64 * i + b) && decide (b < Bn % 64)) 64 := ⟨_, rfl⟩
            rw [← hcd] at HCALL hst hcl
            have HST := Aside0.mk hst
            clear hst hF hcd
            go_wp2_with (go_at_call 26; refine (HCALL.out).mono ?_; rintro e w4 ⟨rfl, h4⟩; subst w4)
            go_roundg k1
            case measure => omega
            case rel => exact ⟨i + 1, by simp, by rw [HST.out]; simp, ⟨by have := HI.out; omega⟩, ⟨by have := HK.out; omega⟩, rfl⟩
          · have hF : cnt (fun b => G (64 * i + b)) 64 = cnt (fun b => S (64 * i + b)) 64 := cnt_ext fun x hx => by
              rw [HG.out (64 * i + x) (by omega)]
              have e1 : decide (A ≤ 64 * i + x) = true := decide_eq_true (by omega)
              have e2 : decide (((64 * i + x : Nat) : Int) < (Bn : Int)) = true := decide_eq_true (by omega)
              rw [e1, e2]
              cases S (64 * i + x) <;> simp [Bool.and_comm]
            have hcl : cnt (fun b => S (64 * i + b)) 64 ≤ 64 := cnt_le _ _
            have hst : cnt G (64 * (i + 1)) = cnt G (64 * i) + cnt (fun b => S (64 * i + b)) 64 := by rw [cnt_step, hF]
            have HCALL : Aside0 (Calls Tryd.prog 26 #[.int .u64 ((lowW S i : Nat))] wr fun e w' => e = .returned (.int .i64 ((cnt (fun b => S (64 * i + b)) 64 : Nat) : Int)) ∧ w' = wr) := ⟨ones_wd wr _ rfl⟩
            obtain ⟨c, hcd⟩ : ∃ c, c = cnt (fun b => S (64 * i + b)) 64 := ⟨_, rfl⟩
            rw [← hcd] at HCALL hst hcl
            have HST := Aside0.mk hst
            clear hst hF hcd
            go_wp2_with (go_at_call 26; refine (HCALL.out).mono ?_; rintro e w4 ⟨rfl, h4⟩; subst w4)
            go_roundg k1
            case measure => omega
            case rel => exact ⟨i + 1, by simp, by rw [HST.out]; simp, ⟨by have := HI.out; omega⟩, ⟨by have := HK.out; omega⟩, rfl⟩
      · have hi3 : (Bn : Int) ≤ 64 * (i : Int) := by omega
        clear hi
        go_wp2
        go_ret
        refine ⟨?_, rfl⟩
        rw [← HC.out]
        show Ending.returned (Value.int .i64 ((cnt G (64 * i) : Nat) : Int)) = _
        rw [cnt_all (m := 64 * i) (n := 64 * 4096) (by have := HK.out; omega) (fun x h1 h2 => by
          rw [HG.out x (by omega)]
          have : ¬ ((x : Int) < Bn) := by omega
          simp [this])]
  · have hz : count S a b = 0 := by
      unfold count
      refine cnt_zero fun x hx => ?_
      rw [hG x hx]
      by_cases h1 : A ≤ x
      · have h2 : ¬ (x : Int) < B := by omega
        simp [h2]
      · simp [h1]
    rw [hz]
    clear hG hz
    go_enter Tryd.func8, Tryd.ntmps8
    go_wp2
    go_loopg [7] 0 (fun kq n7 w' => n7 = .int .i64 0 ∧ w' = W)
    case atStart => exact ⟨rfl, rfl⟩
    case round =>
      obtain ⟨rfl, rfl⟩ := hrel
      go_wp2
      go_ret
      exact ⟨rfl, rfl⟩
end Go.Proofs.YtgcelkndgjjbdaaDoor.PBm
