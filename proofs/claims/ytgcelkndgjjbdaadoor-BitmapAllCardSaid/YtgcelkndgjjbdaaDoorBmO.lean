/- A slice of whole numbers that a law takes, opened to cells. -/
import Derived.Test.YtgcelkndgjjbdaaDoorBmE
import Derived.ChangeSlices
namespace Go.Proofs.YtgcelkndgjjbdaaDoor.PBm
open Go.RowKit Go.ChangeShapes Go.WideShapes Go.Deep
set_option linter.unusedVariables false

theorem open_intsl {H : Type} {enc : TypeId × Value → H} {w : World} {base : Nat} {spare : Nat → Bool} {held : Bool} {fuel : Nat} {A : Option Addr} {len cap : Nat} {x : DataW H × List MemPlace} (h : DataW.trod enc Tryd.prog w base spare held fuel 22 [.slice A len cap] = some x) :
    len ≤ 9223372036854775807 ∧ len ≤ cap ∧ ∃ f, Ints w A len f := by
  rcases open_ints Tryd.underlying22 Tryd.underlying3 (by kernel_rfl) h with ⟨h0, _⟩ | ⟨a, l, c, zs, hcs, hb, hl, hm, hz, _, hcell, _⟩
  · simp only [List.cons.injEq, Value.slice.injEq, and_true] at h0
    obtain ⟨_, rfl, rfl⟩ := h0
    exact ⟨by omega, Nat.le_refl _, fun _ => 0, fun i hi => absurd hi (Nat.not_lt_zero i)⟩
  · simp only [List.cons.injEq, Value.slice.injEq, and_true] at hcs
    obtain ⟨rfl, rfl, rfl⟩ := hcs
    have hM : maxLen = 9223372036854775807 := by decide
    have hlz : len ≤ zs.length := by rw [hz]; split <;> omega
    refine ⟨by omega, hl, fun i => zs.getD i 0, fun i hi => ?_⟩
    have h0 := hcell 0 (by omega)
    rw [Addr.add_zero'] at h0
    have hs := World.cell?_spot h0
    have hc := hcell i (by omega)
    obtain ⟨ab, ao, sp⟩ := a
    dsimp only at hs
    subst hs
    rw [Addr.add_lit] at hc
    exact ⟨ab, ao, rfl, hc⟩
end Go.Proofs.YtgcelkndgjjbdaaDoor.PBm
