/-
  No cell of these rows narrows 'for every input' (looked for: loops, veiled, ifaces, maps, wideKeys, modest, calm, conditions, laid).
  DERIVED. THE GIVEN ROWS OF THIS SEAT. 6 by the template 'for every input the law returns true; each argument reads behind the call as it read before'; 0 by the template 'total and deterministic' (their statements: YtopekdmipnpnaaaTotals.lean).
  GIVEN WITH THE SEED: the statements are not yours to turn. If you find one false, say at which input.
  Laid BY PROGRAM, IN A SANDBOX (cutbox-rows.mjs): the forced cells as the released guide's own fill.sh prints them over the translation bd79a87bb59d2085… (all of the seat's roots in one cut). By AI agents, Wed Nov 11 2026. No macro, syntax, notation, axiom, sorry.
-/
import Derived.Test.YtopekdmipnpnaaaChecked
import GoSem.Claim
import GoSem.ClaimJoined
import GoSem.ClaimMapViews
import Derived.JoinedTies
import Derived.KernelRfl
namespace Go.Proofs.Ytopekdmipnpnaaa
/- THE CELL 'sum', in the pinned program and in every row, IS THE sha256 OF THE DUMP (.gsa) THAT YtopekdmipnpnaaaProg.lean LOADS. Nothing in Lean hashes anything: it is a label: what it is worth is what the hold of that sum in a sandbox is worth. -/
noncomputable def Try.pinned : Pinned := { name := "ytopekdmipnpnaaa", sum := "bd79a87bb59d20851ddf79126a752ad0680d289e9216509cbe703a3f36c8e8cc", checked := Try.checked }
namespace Rows
def none {H : Type} : Left H := { results := [], args := [] }

/-- 'bourselaw22.ClearingParts': WHATEVER THE INPUT: true; the input reads as it did. -/
def clearingPartsSpec : ChangeSpec := { name := "clearingParts", fn := fun _ => fun
  | [d1, d2] => { results := [.lit (.bool true)], args := [d1, d2] }
  | _ => none }
def clearingPartsRow : OpenClaim := { program := "ytopekdmipnpnaaa", sum := "bd79a87bb59d20851ddf79126a752ad0680d289e9216509cbe703a3f36c8e8cc", func := "bourse/bourselaw22.ClearingParts", spec := "clearingParts", inPlace := ["math/bits.Add64", "math/bits.Sub64", "internal/abi.NoEscape"], unfollowed := true, recurses := true, named := ["math/bits.divideError", "math/bits.overflowError"], plainKeys := false, apart := false }
def ClearingPartsSaid : Prop := clearingPartsRow.holds Try.pinned (OpenSpec.ofChange clearingPartsSpec)

/-- ITS FALSE NEIGHBOUR: 'it returns false'. Refute it at one input. -/
def clearingPartsWrong : ChangeSpec := { name := "clearingParts", fn := fun _ => fun
  | [d1, d2] => { results := [.lit (.bool false)], args := [d1, d2] }
  | _ => none }
def ClearingPartsWrongFalsely : Prop := clearingPartsRow.holds Try.pinned (OpenSpec.ofChange clearingPartsWrong)

/-- 'bourselaw22.ClearingBears': WHATEVER THE INPUT: true; the input reads as it did. -/
def clearingBearsSpec : ChangeSpec := { name := "clearingBears", fn := fun _ => fun
  | [d1, d2, d3, d4] => { results := [.lit (.bool true)], args := [d1, d2, d3, d4] }
  | _ => none }
def clearingBearsRow : OpenClaim := { program := "ytopekdmipnpnaaa", sum := "bd79a87bb59d20851ddf79126a752ad0680d289e9216509cbe703a3f36c8e8cc", func := "bourse/bourselaw22.ClearingBears", spec := "clearingBears", inPlace := ["math/bits.Add64"], named := ["math/bits.divideError", "math/bits.overflowError"], plainKeys := false, apart := false }
def ClearingBearsSaid : Prop := clearingBearsRow.holds Try.pinned (OpenSpec.ofChange clearingBearsSpec)

/-- ITS FALSE NEIGHBOUR: 'it returns false'. Refute it at one input. -/
def clearingBearsWrong : ChangeSpec := { name := "clearingBears", fn := fun _ => fun
  | [d1, d2, d3, d4] => { results := [.lit (.bool false)], args := [d1, d2, d3, d4] }
  | _ => none }
def ClearingBearsWrongFalsely : Prop := clearingBearsRow.holds Try.pinned (OpenSpec.ofChange clearingBearsWrong)

/-- 'bourselaw22.ClearingDues': WHATEVER THE INPUT: true; the input reads as it did. -/
def clearingDuesSpec : ChangeSpec := { name := "clearingDues", fn := fun _ => fun
  | [d] => { results := [.lit (.bool true)], args := [d] }
  | _ => none }
def clearingDuesRow : OpenClaim := { program := "ytopekdmipnpnaaa", sum := "bd79a87bb59d20851ddf79126a752ad0680d289e9216509cbe703a3f36c8e8cc", func := "bourse/bourselaw22.ClearingDues", spec := "clearingDues", inPlace := ["math/bits.Sub64", "math/bits.Add64", "internal/abi.NoEscape"], unfollowed := true, recurses := true, named := ["math/bits.divideError", "math/bits.overflowError"], plainKeys := false, apart := false }
def ClearingDuesSaid : Prop := clearingDuesRow.holds Try.pinned (OpenSpec.ofChange clearingDuesSpec)

/-- ITS FALSE NEIGHBOUR: 'it returns false'. Refute it at one input. -/
def clearingDuesWrong : ChangeSpec := { name := "clearingDues", fn := fun _ => fun
  | [d] => { results := [.lit (.bool false)], args := [d] }
  | _ => none }
def ClearingDuesWrongFalsely : Prop := clearingDuesRow.holds Try.pinned (OpenSpec.ofChange clearingDuesWrong)

/-- 'bourselaw22.ClearingBorne': WHATEVER THE INPUT: true; the input reads as it did. -/
def clearingBorneSpec : ChangeSpec := { name := "clearingBorne", fn := fun _ => fun
  | [d1, d2, d3, d4] => { results := [.lit (.bool true)], args := [d1, d2, d3, d4] }
  | _ => none }
def clearingBorneRow : OpenClaim := { program := "ytopekdmipnpnaaa", sum := "bd79a87bb59d20851ddf79126a752ad0680d289e9216509cbe703a3f36c8e8cc", func := "bourse/bourselaw22.ClearingBorne", spec := "clearingBorne", inPlace := ["math/bits.Add64", "math/bits.Sub64", "internal/abi.NoEscape"], unfollowed := true, recurses := true, named := ["math/bits.divideError", "math/bits.overflowError"], plainKeys := false, apart := false }
def ClearingBorneSaid : Prop := clearingBorneRow.holds Try.pinned (OpenSpec.ofChange clearingBorneSpec)

/-- ITS FALSE NEIGHBOUR: 'it returns false'. Refute it at one input. -/
def clearingBorneWrong : ChangeSpec := { name := "clearingBorne", fn := fun _ => fun
  | [d1, d2, d3, d4] => { results := [.lit (.bool false)], args := [d1, d2, d3, d4] }
  | _ => none }
def ClearingBorneWrongFalsely : Prop := clearingBorneRow.holds Try.pinned (OpenSpec.ofChange clearingBorneWrong)

/-- 'bourselaw22.ClearingNets': WHATEVER THE INPUT: true; the input reads as it did. -/
def clearingNetsSpec : ChangeSpec := { name := "clearingNets", fn := fun _ => fun
  | [d] => { results := [.lit (.bool true)], args := [d] }
  | _ => none }
def clearingNetsRow : OpenClaim := { program := "ytopekdmipnpnaaa", sum := "bd79a87bb59d20851ddf79126a752ad0680d289e9216509cbe703a3f36c8e8cc", func := "bourse/bourselaw22.ClearingNets", spec := "clearingNets", inPlace := ["math/bits.Add64", "math/bits.Sub64", "internal/abi.NoEscape"], unfollowed := true, recurses := true, named := ["math/bits.divideError", "math/bits.overflowError"], plainKeys := false, apart := false }
def ClearingNetsSaid : Prop := clearingNetsRow.holds Try.pinned (OpenSpec.ofChange clearingNetsSpec)

/-- ITS FALSE NEIGHBOUR: 'it returns false'. Refute it at one input. -/
def clearingNetsWrong : ChangeSpec := { name := "clearingNets", fn := fun _ => fun
  | [d] => { results := [.lit (.bool false)], args := [d] }
  | _ => none }
def ClearingNetsWrongFalsely : Prop := clearingNetsRow.holds Try.pinned (OpenSpec.ofChange clearingNetsWrong)

/-- 'bourselaw22.ClearingDays': WHATEVER THE INPUT: true; the input reads as it did. -/
def clearingDaysSpec : ChangeSpec := { name := "clearingDays", fn := fun _ => fun
  | [d1, d2] => { results := [.lit (.bool true)], args := [d1, d2] }
  | _ => none }
def clearingDaysRow : OpenClaim := { program := "ytopekdmipnpnaaa", sum := "bd79a87bb59d20851ddf79126a752ad0680d289e9216509cbe703a3f36c8e8cc", func := "bourse/bourselaw22.ClearingDays", spec := "clearingDays", inPlace := ["math/bits.Add64", "math/bits.Sub64", "internal/abi.NoEscape"], unfollowed := true, recurses := true, named := ["math/bits.divideError", "math/bits.overflowError"], plainKeys := false, apart := false }
def ClearingDaysSaid : Prop := clearingDaysRow.holds Try.pinned (OpenSpec.ofChange clearingDaysSpec)

/-- ITS FALSE NEIGHBOUR: 'it returns false'. Refute it at one input. -/
def clearingDaysWrong : ChangeSpec := { name := "clearingDays", fn := fun _ => fun
  | [d1, d2] => { results := [.lit (.bool false)], args := [d1, d2] }
  | _ => none }
def ClearingDaysWrongFalsely : Prop := clearingDaysRow.holds Try.pinned (OpenSpec.ofChange clearingDaysWrong)

/- THE SECOND FORM. 'bulk': how many values and letters a reading holds, each counted each time it is reached (what is shared counts as often as it is met; a slice's spare places count too). A statement '..UptoSaid' is the law's where the arguments, and the package variables that the reading takes, are together of bulk at most 1048576: NARROWER than '..Said'. Prove '..Said' where nothing that the law and all that it calls make is longer than what came in: it says more and counts as full. Else prove '..UptoSaid'. A law counts once. -/
mutual
def uptoBulk {H : Type} : DataW H → Nat
  | .lit (.string bytes) => bytes.length + 1
  | .lit _ => 1
  | .nil => 1
  | .ptr d => uptoBulk d + 1
  | .slice elems spare => uptoBulkAll elems + uptoBulkAll spare + 1
  | .agg parts => uptoBulkAll parts + 1
  | .iface _ d => uptoBulk d + 1
  | .map entries => uptoBulkEntries entries + 1
  | .held _ => 1
def uptoBulkAll {H : Type} : List (DataW H) → Nat
  | [] => 0
  | d :: r => uptoBulk d + uptoBulkAll r
def uptoBulkEntries {H : Type} : List (Lit × DataW H) → Nat
  | [] => 0
  | x :: r => uptoBulkEntry x + uptoBulkEntries r
def uptoBulkEntry {H : Type} : Lit × DataW H → Nat
  | (.string bytes, d) => bytes.length + uptoBulk d + 1
  | (_, d) => uptoBulk d + 1
 end
def uptoSmall : (H : Type) → List (DataW H) → Bool := fun _ ds => decide (uptoBulkAll ds ≤ 1048576)
def OpenSpec.upto (s : _root_.Go.ChangeSpec) : _root_.Go.OpenSpec := { _root_.Go.OpenSpec.ofChange s with cond := some uptoSmall }

/-- 'bourselaw22.ClearingParts', WHERE WHAT IT READS IS OF BULK AT MOST 1048576: true; the input reads as it did. -/
def clearingPartsUptoRow : OpenClaim := { program := "ytopekdmipnpnaaa", sum := "bd79a87bb59d20851ddf79126a752ad0680d289e9216509cbe703a3f36c8e8cc", func := "bourse/bourselaw22.ClearingParts", spec := "clearingParts", inPlace := ["math/bits.Add64", "math/bits.Sub64", "internal/abi.NoEscape"], unfollowed := true, recurses := true, named := ["math/bits.divideError", "math/bits.overflowError"], plainKeys := false, apart := false, narrowed := true }
def ClearingPartsUptoSaid : Prop := clearingPartsUptoRow.holds Try.pinned (OpenSpec.upto clearingPartsSpec)

/-- 'bourselaw22.ClearingBears', WHERE WHAT IT READS IS OF BULK AT MOST 1048576: true; the input reads as it did. -/
def clearingBearsUptoRow : OpenClaim := { program := "ytopekdmipnpnaaa", sum := "bd79a87bb59d20851ddf79126a752ad0680d289e9216509cbe703a3f36c8e8cc", func := "bourse/bourselaw22.ClearingBears", spec := "clearingBears", inPlace := ["math/bits.Add64"], named := ["math/bits.divideError", "math/bits.overflowError"], plainKeys := false, apart := false, narrowed := true }
def ClearingBearsUptoSaid : Prop := clearingBearsUptoRow.holds Try.pinned (OpenSpec.upto clearingBearsSpec)

/-- 'bourselaw22.ClearingDues', WHERE WHAT IT READS IS OF BULK AT MOST 1048576: true; the input reads as it did. -/
def clearingDuesUptoRow : OpenClaim := { program := "ytopekdmipnpnaaa", sum := "bd79a87bb59d20851ddf79126a752ad0680d289e9216509cbe703a3f36c8e8cc", func := "bourse/bourselaw22.ClearingDues", spec := "clearingDues", inPlace := ["math/bits.Sub64", "math/bits.Add64", "internal/abi.NoEscape"], unfollowed := true, recurses := true, named := ["math/bits.divideError", "math/bits.overflowError"], plainKeys := false, apart := false, narrowed := true }
def ClearingDuesUptoSaid : Prop := clearingDuesUptoRow.holds Try.pinned (OpenSpec.upto clearingDuesSpec)

/-- 'bourselaw22.ClearingBorne', WHERE WHAT IT READS IS OF BULK AT MOST 1048576: true; the input reads as it did. -/
def clearingBorneUptoRow : OpenClaim := { program := "ytopekdmipnpnaaa", sum := "bd79a87bb59d20851ddf79126a752ad0680d289e9216509cbe703a3f36c8e8cc", func := "bourse/bourselaw22.ClearingBorne", spec := "clearingBorne", inPlace := ["math/bits.Add64", "math/bits.Sub64", "internal/abi.NoEscape"], unfollowed := true, recurses := true, named := ["math/bits.divideError", "math/bits.overflowError"], plainKeys := false, apart := false, narrowed := true }
def ClearingBorneUptoSaid : Prop := clearingBorneUptoRow.holds Try.pinned (OpenSpec.upto clearingBorneSpec)

/-- 'bourselaw22.ClearingNets', WHERE WHAT IT READS IS OF BULK AT MOST 1048576: true; the input reads as it did. -/
def clearingNetsUptoRow : OpenClaim := { program := "ytopekdmipnpnaaa", sum := "bd79a87bb59d20851ddf79126a752ad0680d289e9216509cbe703a3f36c8e8cc", func := "bourse/bourselaw22.ClearingNets", spec := "clearingNets", inPlace := ["math/bits.Add64", "math/bits.Sub64", "internal/abi.NoEscape"], unfollowed := true, recurses := true, named := ["math/bits.divideError", "math/bits.overflowError"], plainKeys := false, apart := false, narrowed := true }
def ClearingNetsUptoSaid : Prop := clearingNetsUptoRow.holds Try.pinned (OpenSpec.upto clearingNetsSpec)

/-- 'bourselaw22.ClearingDays', WHERE WHAT IT READS IS OF BULK AT MOST 1048576: true; the input reads as it did. -/
def clearingDaysUptoRow : OpenClaim := { program := "ytopekdmipnpnaaa", sum := "bd79a87bb59d20851ddf79126a752ad0680d289e9216509cbe703a3f36c8e8cc", func := "bourse/bourselaw22.ClearingDays", spec := "clearingDays", inPlace := ["math/bits.Add64", "math/bits.Sub64", "internal/abi.NoEscape"], unfollowed := true, recurses := true, named := ["math/bits.divideError", "math/bits.overflowError"], plainKeys := false, apart := false, narrowed := true }
def ClearingDaysUptoSaid : Prop := clearingDaysUptoRow.holds Try.pinned (OpenSpec.upto clearingDaysSpec)

end Rows
end Go.Proofs.Ytopekdmipnpnaaa
