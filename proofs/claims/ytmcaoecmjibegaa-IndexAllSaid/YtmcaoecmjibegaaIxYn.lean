/- All's sorting, where there is nothing to sort. -/
import Derived.Test.YtmcaoecmjibegaaIxY
import Derived.Shelf.SlSortCmp.NoneTotal
namespace Go.Proofs.Ytmcaoecmjibegaa.PIx
open Go.RowKit Go.Shelf

theorem sort_none (A : Option Addr) (cap : Nat) (w : World) : Calls Try.prog 31 #[.slice A 0 cap, .func (.func 32) #[] #[]] w fun e w' => e = .returned (.tuple #[]) ∧ w' = w := by
  have hcon := AnyF.slices_SortFunc_none Try.sortPl A cap (.func (.func 32) #[] #[]) w
  change Calls Try.prog 31 _ _ _ at hcon
  exact hcon
end Go.Proofs.Ytmcaoecmjibegaa.PIx
