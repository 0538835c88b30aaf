/- MonA, struck of what this claim does not name (wip/tools/pack2.py). -/
import Derived.Test.YthmjmkbahneneaaZa14
import Derived.Laws.MathBits
section
namespace Go.Proofs.Ythmjmkbahneneaa.MonA
open Go.RowKit Go.Proofs.Ythmjmkbahneneaa.PMon

theorem wu (n : Int) : IntKind.u64.wrap n = n % 18446744073709551616 := IntKind.wrap_u64 n
theorem mul64_val (a b : Int) (ha : 0 ≤ a) (ha' : a < 18446744073709551616) (hb : 0 ≤ b) (hb' : b < 18446744073709551616) :
    bits_Mul64.f a b = some (a * b / 18446744073709551616, a * b % 18446744073709551616) := by
  unfold bits_Mul64.f
  simp only [wu]
  rw [and_low32 a ha ha', and_low32 b hb hb', and_low32 (_ % 18446744073709551616) (by omega) (by omega), mul64_arith a b ha ha' hb hb']

end Go.Proofs.Ythmjmkbahneneaa.MonA
end
