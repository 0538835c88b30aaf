/- Plain values of the printed functions of num and math/bits: sums, differences, products. -/
import Derived.Test.YtopekdmipnpnaaaPBeax2
import Derived.Laws.MathBits
namespace Go.Proofs.Ytopekdmipnpnaaa.NumA
open Go.RowKit Go.Proofs.Ytopekdmipnpnaaa.PBea

theorem wu (n : Int) : IntKind.u64.wrap n = n % 18446744073709551616 := IntKind.wrap_u64 n
theorem of_wf {a : Int} (h : (Lit.int .u64 a).wf = true) : 0 ≤ a ∧ a < 18446744073709551616 := by
  simp [Lit.wf, IntKind.min, IntKind.max, IntKind.bits, IntKind.signed] at h
  omega

theorem mul64_val (a b : Int) (ha : 0 ≤ a) (ha' : a < 18446744073709551616) (hb : 0 ≤ b) (hb' : b < 18446744073709551616) :
    bits_Mul64.f a b = some (a * b / 18446744073709551616, a * b % 18446744073709551616) := by
  unfold bits_Mul64.f
  simp only [wu]
  rw [and_low32 a ha ha', and_low32 b hb hb', and_low32 (_ % 18446744073709551616) (by omega) (by omega), mul64_arith a b ha ha' hb hb']

theorem add_val (a b : Int) (ha : 0 ≤ a) (ha' : a < 18446744073709551616) (hb : 0 ≤ b) (hb' : b < 18446744073709551616) :
    num_Add.f a b = some (if a + b < 18446744073709551616 then (a + b, 0) else (0, 10)) := by
  unfold num_Add.f bits_Add64.f num_fits.f
  rw [if_pos (Or.inl rfl)]
  simp only [Option.bind_some]
  by_cases h : a + b < 18446744073709551616
  · rw [if_pos h, if_pos (by omega)]
    simp only [Option.bind_some]
    congr 2
    omega
  · rw [if_neg h, if_neg (by omega)]
    rfl

end Go.Proofs.Ytopekdmipnpnaaa.NumA
