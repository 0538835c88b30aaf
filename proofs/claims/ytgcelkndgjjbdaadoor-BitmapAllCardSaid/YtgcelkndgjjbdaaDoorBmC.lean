/- The number of ones of a word. Plain numbers. -/
import Derived.Test.YtgcelkndgjjbdaaDoorBmP
import Derived.KernelRfl
namespace Go.Proofs.YtgcelkndgjjbdaaDoor.PBm
set_option linter.unusedVariables false

/-- How many below n. -/
def cnt (f : Nat → Bool) : Nat → Nat
  | 0 => 0
  | n + 1 => cnt f n + (if f n then 1 else 0)

theorem cnt_le (f : Nat → Bool) : ∀ n, cnt f n ≤ n
  | 0 => by simp [cnt]
  | n + 1 => by
    have := cnt_le f n
    simp only [cnt]
    split <;> omega

theorem cnt_ext {f g : Nat → Bool} : ∀ {n : Nat}, (∀ b, b < n → f b = g b) → cnt f n = cnt g n
  | 0, _ => rfl
  | n + 1, h => by
    simp only [cnt]
    rw [cnt_ext (n := n) (fun b hb => h b (by omega)), h n (by omega)]

theorem cnt_add (f : Nat → Bool) (m : Nat) : ∀ n, cnt f (m + n) = cnt f m + cnt (fun b => f (m + b)) n
  | 0 => rfl
  | n + 1 => by
    have := cnt_add f m n
    rw [← Nat.add_assoc]
    simp only [cnt]
    omega

theorem cnt_zero {f : Nat → Bool} {n : Nat} (h : ∀ b, b < n → f b = false) : cnt f n = 0 := by
  rw [cnt_ext (g := fun _ => false) h]
  clear h
  induction n with
  | zero => rfl
  | succ n ih => simp [cnt, ih]

theorem cnt_pos {f : Nat → Bool} : ∀ {n b : Nat}, b < n → f b = true → 0 < cnt f n
  | 0, b, h, _ => by omega
  | n + 1, b, h, hf => by
    simp only [cnt]
    by_cases e : b = n
    · subst e
      rw [hf]
      simp
    · have := cnt_pos (n := n) (b := b) (by omega) hf
      omega

/-! ## Byte by byte -/
/-- n bytes of one kind. -/
def mk (c : Nat) : Nat → Nat
  | 0 => 0
  | n + 1 => mk c n * 256 + c

theorem and_split (a b c d : Nat) (hb : b < 256) (hd : d < 256) : (a * 256 + b) &&& (c * 256 + d) = (a &&& c) * 256 + (b &&& d) := by
  apply Nat.eq_of_testBit_eq
  intro i
  have hbd : b &&& d < 2 ^ 8 := Nat.and_lt_two_pow _ hd
  rw [Nat.testBit_and, Nat.mul_comm a, Nat.mul_comm c, Nat.mul_comm (a &&& c), show (256 : Nat) = 2 ^ 8 from rfl, Nat.testBit_two_pow_mul_add _ (show b < 2 ^ 8 from hb), Nat.testBit_two_pow_mul_add _ (show d < 2 ^ 8 from hd), Nat.testBit_two_pow_mul_add _ hbd]
  split
  · rw [Nat.testBit_and]
  · rw [Nat.testBit_and]

def s1 (n x : Nat) : Nat := (x / 2 &&& mk 85 n) + (x &&& mk 85 n)
def s2 (n x : Nat) : Nat := (x / 4 &&& mk 51 n) + (x &&& mk 51 n)
def s3 (n x : Nat) : Nat := (x / 16 + x) &&& mk 15 n
/-- The ones of a byte, by the same steps. -/
def u8 (l : Nat) : Nat := s2 1 (s1 1 l)
def c8 (l : Nat) : Nat := s3 1 (u8 l)

theorem mk1 (c : Nat) : mk c 1 = c := by simp [mk]

theorem b1 : ∀ l : Fin 256, ∀ p : Fin 2, (p.val * 128 + l.val / 2) &&& 85 = (l.val / 2) &&& 85 := by decide +kernel
theorem b2 : ∀ l : Fin 256, ∀ p : Fin 4, (p.val * 64 + l.val / 4) &&& 51 = (l.val / 4) &&& 51 := by decide +kernel
theorem b3 : ∀ l : Fin 256, s1 1 l.val < 256 ∧ u8 l.val < 256 ∧ u8 l.val % 16 ≤ 4 ∧ u8 l.val / 16 ≤ 4 ∧ c8 l.val ≤ 8 := by decide +kernel
theorem b4 : ∀ l : Fin 256, c8 l.val = cnt (fun b => l.val.testBit b) 8 := by decide +kernel
theorem b5 : ∀ l : Fin 256, ∀ p : Fin 5, (p.val * 16 + u8 l.val / 16 + u8 l.val) &&& 15 = c8 l.val := by decide +kernel

theorem s1_split (n h l : Nat) (hl : l < 256) : s1 (n + 1) (h * 256 + l) = s1 n h * 256 + s1 1 l := by
  unfold s1
  rw [mk1]
  simp only [mk]
  have e : (h * 256 + l) / 2 = h / 2 * 256 + (h % 2 * 128 + l / 2) := by omega
  rw [e, and_split _ _ _ _ (by omega) (by decide), and_split _ _ _ _ hl (by decide)]
  have := b1 ⟨l, hl⟩ ⟨h % 2, Nat.mod_lt _ (by decide)⟩
  simp only at this
  rw [this]
  omega

theorem s2_split (n h l : Nat) (hl : l < 256) : s2 (n + 1) (h * 256 + l) = s2 n h * 256 + s2 1 l := by
  unfold s2
  rw [mk1]
  simp only [mk]
  have e : (h * 256 + l) / 4 = h / 4 * 256 + (h % 4 * 64 + l / 4) := by omega
  rw [e, and_split _ _ _ _ (by omega) (by decide), and_split _ _ _ _ hl (by decide)]
  have := b2 ⟨l, hl⟩ ⟨h % 4, Nat.mod_lt _ (by decide)⟩
  simp only at this
  rw [this]
  omega

/-- The first two steps of n bytes. -/
def un (n x : Nat) : Nat := s2 n (s1 n x)
theorem un_split (n h l : Nat) (hl : l < 256) : un (n + 1) (h * 256 + l) = un n h * 256 + u8 l := by
  unfold un
  rw [s1_split n h l hl, s2_split n _ _ (b3 ⟨l, hl⟩).1]
  rfl

theorem un_low (n x : Nat) : un n x % 16 ≤ 4 := by
  cases n with
  | zero => simp [un, s2, mk]
  | succ n =>
    have e : x = x / 256 * 256 + x % 256 := by omega
    have hl : x % 256 < 256 := Nat.mod_lt _ (by decide)
    rw [e, un_split n _ _ hl]
    have := (b3 ⟨x % 256, hl⟩).2.2.1
    simp only at this
    omega

/-- The ones of each byte. -/
def tn (n x : Nat) : Nat := s3 n (un n x)
theorem tn_split (n h l : Nat) (hl : l < 256) : tn (n + 1) (h * 256 + l) = tn n h * 256 + c8 l := by
  unfold tn
  rw [un_split n h l hl]
  have h1 := un_low n h
  obtain ⟨_, h3, h4, h5, _⟩ := b3 ⟨l, hl⟩
  simp only at h3 h4 h5
  have h6 := b5 ⟨l, hl⟩ ⟨un n h % 16, by omega⟩
  simp only at h6
  unfold s3
  simp only [mk]
  have e : (un n h * 256 + u8 l) / 16 + (un n h * 256 + u8 l) = (un n h / 16 + un n h) * 256 + (un n h % 16 * 16 + u8 l / 16 + u8 l) := by omega
  rw [e, and_split _ _ _ _ (by omega) (by decide), h6]

/-- The bytes of a number. -/
def by_ (k x : Nat) : Nat := c8 (x / 256 ^ k % 256)
theorem by_le (k x : Nat) : by_ k x ≤ 8 := (b3 ⟨x / 256 ^ k % 256, Nat.mod_lt _ (by decide)⟩).2.2.2.2

theorem tn_step (n x : Nat) : tn (n + 1) x = tn n (x / 256) * 256 + c8 (x % 256) := by
  have e : x = x / 256 * 256 + x % 256 := by omega
  have := tn_split n (x / 256) (x % 256) (Nat.mod_lt _ (by decide))
  rwa [← e] at this

theorem tn8 (x : Nat) : tn 8 x = by_ 0 x + 256 * (by_ 1 x + 256 * (by_ 2 x + 256 * (by_ 3 x + 256 * (by_ 4 x + 256 * (by_ 5 x + 256 * (by_ 6 x + 256 * by_ 7 x)))))) := by
  have t0 : ∀ y, tn 0 y = 0 := fun y => by simp [tn, s3, mk]
  have d : ∀ k, x / 256 ^ k / 256 = x / 256 ^ (k + 1) := fun k => by rw [Nat.div_div_eq_div_mul, Nat.pow_succ]
  have step : ∀ n k, tn (n + 1) (x / 256 ^ k) = tn n (x / 256 ^ (k + 1)) * 256 + by_ k x := fun n k => by rw [tn_step, d]; rfl
  have e0 := step 7 0
  have e1 := step 6 1
  have e2 := step 5 2
  have e3 := step 4 3
  have e4 := step 3 4
  have e5 := step 2 5
  have e6 := step 1 6
  have e7 := step 0 7
  rw [t0] at e7
  have z : x / 256 ^ 0 = x := by simp
  rw [z] at e0
  simp only [Nat.reduceAdd] at e0 e1 e2 e3 e4 e5 e6 e7
  rw [e0, e1, e2, e3, e4, e5, e6, e7]
  omega

theorem cnt_byte (x k : Nat) : by_ k x = cnt (fun b => x.testBit (8 * k + b)) 8 := by
  unfold by_
  have := b4 ⟨x / 256 ^ k % 256, Nat.mod_lt _ (by decide)⟩
  simp only at this
  rw [this]
  apply cnt_ext
  intro b hb
  rw [show (256 : Nat) = 2 ^ 8 from rfl, ← Nat.pow_mul, Nat.testBit_mod_two_pow, Nat.testBit_div_two_pow]
  simp [hb, Nat.add_comm]

/-- The sum of the bytes. -/
theorem bytes_sum (x : Nat) : by_ 0 x + by_ 1 x + by_ 2 x + by_ 3 x + by_ 4 x + by_ 5 x + by_ 6 x + by_ 7 x = cnt (fun b => x.testBit b) 64 := by
  have e : ∀ k, cnt (fun b => x.testBit b) (8 * k + 8) = cnt (fun b => x.testBit b) (8 * k) + by_ k x := fun k => by rw [cnt_add, cnt_byte]
  have e0 := e 0
  have e1 := e 1
  have e2 := e 2
  have e3 := e 3
  have e4 := e 4
  have e5 := e 5
  have e6 := e 6
  have e7 := e 7
  simp only [Nat.reduceMul, Nat.reduceAdd] at e0 e1 e2 e3 e4 e5 e6 e7
  have z : cnt (fun b => x.testBit b) 0 = 0 := rfl
  omega

/-- The last three steps. -/
theorem sum8 (p0 p1 p2 p3 p4 p5 p6 p7 y z v u : Nat) (h0 : p0 ≤ 8) (h1 : p1 ≤ 8) (h2 : p2 ≤ 8) (h3 : p3 ≤ 8) (h4 : p4 ≤ 8) (h5 : p5 ≤ 8) (h6 : p6 ≤ 8) (h7 : p7 ≤ 8)
    (hy : y = p0 + 256 * (p1 + 256 * (p2 + 256 * (p3 + 256 * (p4 + 256 * (p5 + 256 * (p6 + 256 * p7)))))))
    (hz : z = y + y / 256) (hv : v = z + z / 65536) (hu : u = v + v / 4294967296) :
    u < 18446744073709551616 / 2 ∧ u % 128 = p0 + p1 + p2 + p3 + p4 + p5 + p6 + p7 ∧ y < 18446744073709551616 ∧ z < 18446744073709551616 ∧ v < 18446744073709551616 := by
  have dv : ∀ a r : Nat, a < 256 → (a + 256 * r) / 256 = r := fun a r ha => by omega
  have dv2 : ∀ a b r : Nat, a < 256 → b < 256 → (a + 256 * (b + 256 * r)) / 65536 = r := fun a b r ha hb => by omega
  have dv4 : ∀ a b c d r : Nat, a < 256 → b < 256 → c < 256 → d < 256 → (a + 256 * (b + 256 * (c + 256 * (d + 256 * r)))) / 4294967296 = r := fun a b c d r ha hb hc hd => by
    rw [show (4294967296 : Nat) = 65536 * 65536 from rfl, ← Nat.div_div_eq_div_mul, dv2 _ _ _ ha hb, dv2 _ _ _ hc hd]
  have ly : y < 18446744073709551616 := by omega
  have e1 : y / 256 = p1 + 256 * (p2 + 256 * (p3 + 256 * (p4 + 256 * (p5 + 256 * (p6 + 256 * p7))))) := by rw [hy, dv _ _ (by omega)]
  have e2 : z = (p0 + p1) + 256 * ((p1 + p2) + 256 * ((p2 + p3) + 256 * ((p3 + p4) + 256 * ((p4 + p5) + 256 * ((p5 + p6) + 256 * ((p6 + p7) + 256 * p7)))))) := by rw [hz, e1, hy]; omega
  clear hz hy e1
  have lz : z < 18446744073709551616 := by omega
  have e3 : z / 65536 = (p2 + p3) + 256 * ((p3 + p4) + 256 * ((p4 + p5) + 256 * ((p5 + p6) + 256 * ((p6 + p7) + 256 * p7)))) := by rw [e2, dv2 _ _ _ (by omega) (by omega)]
  have e4 : v = (p0 + p1 + p2 + p3) + 256 * ((p1 + p2 + p3 + p4) + 256 * ((p2 + p3 + p4 + p5) + 256 * ((p3 + p4 + p5 + p6) + 256 * ((p4 + p5 + p6 + p7) + 256 * ((p5 + p6 + p7) + 256 * ((p6 + p7) + 256 * p7)))))) := by rw [hv, e3, e2]; omega
  clear hv e3 e2
  have lv : v < 18446744073709551616 := by omega
  have e5 : v / 4294967296 = (p4 + p5 + p6 + p7) + 256 * ((p5 + p6 + p7) + 256 * ((p6 + p7) + 256 * p7)) := by rw [e4, dv4 _ _ _ _ _ (by omega) (by omega) (by omega) (by omega)]
  have e6 : u = (p0 + p1 + p2 + p3 + p4 + p5 + p6 + p7) + 256 * ((p1 + p2 + p3 + p4 + p5 + p6 + p7) + 256 * ((p2 + p3 + p4 + p5 + p6 + p7) + 256 * ((p3 + p4 + p5 + p6 + p7) + 256 * ((p4 + p5 + p6 + p7) + 256 * ((p5 + p6 + p7) + 256 * ((p6 + p7) + 256 * p7)))))) := by rw [hu, e5, e4]; omega
  clear hu e5 e4
  refine ⟨by omega, ?_, ly, lz, lv⟩
  have md : ∀ a r : Nat, a < 128 → (a + 256 * r) % 128 = a := fun a r ha => by omega
  rw [e6, md _ _ (by omega)]

theorem mk_85 : mk 85 8 = 6148914691236517205 := by decide
theorem mk_51 : mk 51 8 = 3689348814741910323 := by decide
theorem mk_15 : mk 15 8 = 1085102592571150095 := by decide
end Go.Proofs.YtgcelkndgjjbdaaDoor.PBm
