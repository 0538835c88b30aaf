/- All's comparison of two places. -/
import Derived.Test.YtmcaoecmjibegaaIxG
namespace Go.Proofs.Ytmcaoecmjibegaa.PIx
open Go.RowKit Go.Proofs.YtmcaoecmjibegaaW.PrintWords Go.Proofs.YtmcaoecmjibegaaW.PrintLast Go.Proofs.YtmcaoecmjibegaaW.PrintMore
set_option linter.unusedVariables false
set_option linter.unusedSimpArgs false

/-- A place as a value. -/
def pv (x : S72) : Value := .agg #[.bool x.f0.f0, .int .u64 x.f0.f1, .int .i64 x.f1]
def cf (x y : S72) : Int := if x.f0.f1 < y.f0.f1 then -1 else 1

set_option maxHeartbeats 8000000 in
set_option maxRecDepth 100000 in
theorem cmp_calls (x y : S72) (W : World) :
    Calls Try.prog 32 #[pv x, pv y] W fun e W' => e = .returned (.int .i64 (cf x y)) ∧ W' = (W.alloc (.cells #[.bool x.f0.f0, .int .u64 x.f0.f1, .int .i64 x.f1] 72)).alloc (.cells #[.bool y.f0.f0, .int .u64 y.f0.f1, .int .i64 y.f1] 72) := by
  obtain ⟨⟨x0, x1⟩, x2⟩ := x
  obtain ⟨⟨y0, y1⟩, y2⟩ := y
  unfold pv cf
  dsimp only
  by_cases h : x1 < y1
  · rw [if_pos h]
    go_enter Try.func32, Try.ntmps32
    go_wp2
    go_ret
    exact ⟨rfl, rfl⟩
  · rw [if_neg h]
    go_enter Try.func32, Try.ntmps32
    go_wp2
    go_ret
    exact ⟨rfl, rfl⟩
end Go.Proofs.Ytmcaoecmjibegaa.PIx
