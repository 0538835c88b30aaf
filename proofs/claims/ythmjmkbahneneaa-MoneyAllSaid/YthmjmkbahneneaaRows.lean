/-
  No cell of these rows narrows 'for every input' (looked for: loops, veiled, ifaces, maps, wideKeys, modest, calm, conditions, laid).
  DERIVED. THE GIVEN ROWS OF THIS SEAT. 8 by the template 'for every input the law returns true; each argument reads behind the call as it read before'; 0 by the template 'total and deterministic' (their statements: YthmjmkbahneneaaTotals.lean).
  GIVEN WITH THE SEED: the statements are not yours to turn. If you find one false, say at which input.
  Laid BY PROGRAM, IN A SANDBOX (cutbox-rows.mjs): the forced cells as the released guide's own fill.sh prints them over the translation 3e6a120d192a50fb… (all of the seat's roots in one cut). By AI agents, Wed Nov 11 2026. No macro, syntax, notation, axiom, sorry.
-/
import Derived.Test.YthmjmkbahneneaaChecked
import GoSem.Claim
import GoSem.ClaimJoined
import GoSem.ClaimMapViews
import Derived.JoinedTies
import Derived.KernelRfl
namespace Go.Proofs.Ythmjmkbahneneaa
/- THE CELL 'sum', in the pinned program and in every row, IS THE sha256 OF THE DUMP (.gsa) THAT YthmjmkbahneneaaProg.lean LOADS. Nothing in Lean hashes anything: it is a label: what it is worth is what the hold of that sum in a sandbox is worth. -/
noncomputable def Try.pinned : Pinned := { name := "ythmjmkbahneneaa", sum := "3e6a120d192a50fb20eb7fdbed7c725f731e0352a162bdbb45f6cbd28d44ee05", checked := Try.checked }
namespace Rows
def none {H : Type} : Left H := { results := [], args := [] }

/-- 'bourselaw01.NumSums': WHATEVER THE INPUT: true; the input reads as it did. -/
def numSumsSpec : ChangeSpec := { name := "numSums", fn := fun _ => fun
  | [d1, d2, d3] => { results := [.lit (.bool true)], args := [d1, d2, d3] }
  | _ => none }
def numSumsRow : OpenClaim := { program := "ythmjmkbahneneaa", sum := "3e6a120d192a50fb20eb7fdbed7c725f731e0352a162bdbb45f6cbd28d44ee05", func := "bourse/bourselaw01.NumSums", spec := "numSums", inPlace := ["math/bits.Add64", "math/bits.Sub64"], apart := false }
def NumSumsSaid : Prop := numSumsRow.holds Try.pinned (OpenSpec.ofChange numSumsSpec)

/-- ITS FALSE NEIGHBOUR: 'it returns false'. Refute it at one input. -/
def numSumsWrong : ChangeSpec := { name := "numSums", fn := fun _ => fun
  | [d1, d2, d3] => { results := [.lit (.bool false)], args := [d1, d2, d3] }
  | _ => none }
def NumSumsWrongFalsely : Prop := numSumsRow.holds Try.pinned (OpenSpec.ofChange numSumsWrong)

/-- 'bourselaw01.NumPart': WHATEVER THE INPUT: true; the input reads as it did. -/
def numPartSpec : ChangeSpec := { name := "numPart", fn := fun _ => fun
  | [d1, d2, d3] => { results := [.lit (.bool true)], args := [d1, d2, d3] }
  | _ => none }
def numPartRow : OpenClaim := { program := "ythmjmkbahneneaa", sum := "3e6a120d192a50fb20eb7fdbed7c725f731e0352a162bdbb45f6cbd28d44ee05", func := "bourse/bourselaw01.NumPart", spec := "numPart", inPlace := ["math/bits.Add64"], named := ["math/bits.divideError", "math/bits.overflowError"], apart := false }
def NumPartSaid : Prop := numPartRow.holds Try.pinned (OpenSpec.ofChange numPartSpec)

/-- ITS FALSE NEIGHBOUR: 'it returns false'. Refute it at one input. -/
def numPartWrong : ChangeSpec := { name := "numPart", fn := fun _ => fun
  | [d1, d2, d3] => { results := [.lit (.bool false)], args := [d1, d2, d3] }
  | _ => none }
def NumPartWrongFalsely : Prop := numPartRow.holds Try.pinned (OpenSpec.ofChange numPartWrong)

/-- 'bourselaw01.NumParts': WHATEVER THE INPUT: true; the input reads as it did. -/
def numPartsSpec : ChangeSpec := { name := "numParts", fn := fun _ => fun
  | [d] => { results := [.lit (.bool true)], args := [d] }
  | _ => none }
def numPartsRow : OpenClaim := { program := "ythmjmkbahneneaa", sum := "3e6a120d192a50fb20eb7fdbed7c725f731e0352a162bdbb45f6cbd28d44ee05", func := "bourse/bourselaw01.NumParts", spec := "numParts", inPlace := ["math/bits.Add64", "math/bits.Sub64"], named := ["math/bits.divideError", "math/bits.overflowError"], apart := false }
def NumPartsSaid : Prop := numPartsRow.holds Try.pinned (OpenSpec.ofChange numPartsSpec)

/-- ITS FALSE NEIGHBOUR: 'it returns false'. Refute it at one input. -/
def numPartsWrong : ChangeSpec := { name := "numParts", fn := fun _ => fun
  | [d] => { results := [.lit (.bool false)], args := [d] }
  | _ => none }
def NumPartsWrongFalsely : Prop := numPartsRow.holds Try.pinned (OpenSpec.ofChange numPartsWrong)

/-- 'bourselaw01.NumShares': WHATEVER THE INPUT: true; the input reads as it did. -/
def numSharesSpec : ChangeSpec := { name := "numShares", fn := fun _ => fun
  | [d1, d2] => { results := [.lit (.bool true)], args := [d1, d2] }
  | _ => none }
def numSharesRow : OpenClaim := { program := "ythmjmkbahneneaa", sum := "3e6a120d192a50fb20eb7fdbed7c725f731e0352a162bdbb45f6cbd28d44ee05", func := "bourse/bourselaw01.NumShares", spec := "numShares", inPlace := ["math/bits.Add64"], named := ["math/bits.divideError", "math/bits.overflowError"], apart := false }
def NumSharesSaid : Prop := numSharesRow.holds Try.pinned (OpenSpec.ofChange numSharesSpec)

/-- ITS FALSE NEIGHBOUR: 'it returns false'. Refute it at one input. -/
def numSharesWrong : ChangeSpec := { name := "numShares", fn := fun _ => fun
  | [d1, d2] => { results := [.lit (.bool false)], args := [d1, d2] }
  | _ => none }
def NumSharesWrongFalsely : Prop := numSharesRow.holds Try.pinned (OpenSpec.ofChange numSharesWrong)

/-- 'bourselaw01.NumShared': WHATEVER THE INPUT: true; the input reads as it did. -/
def numSharedSpec : ChangeSpec := { name := "numShared", fn := fun _ => fun
  | [d1, d2] => { results := [.lit (.bool true)], args := [d1, d2] }
  | _ => none }
def numSharedRow : OpenClaim := { program := "ythmjmkbahneneaa", sum := "3e6a120d192a50fb20eb7fdbed7c725f731e0352a162bdbb45f6cbd28d44ee05", func := "bourse/bourselaw01.NumShared", spec := "numShared", inPlace := ["math/bits.Add64"], named := ["math/bits.divideError", "math/bits.overflowError"], apart := false }
def NumSharedSaid : Prop := numSharedRow.holds Try.pinned (OpenSpec.ofChange numSharedSpec)

/-- ITS FALSE NEIGHBOUR: 'it returns false'. Refute it at one input. -/
def numSharedWrong : ChangeSpec := { name := "numShared", fn := fun _ => fun
  | [d1, d2] => { results := [.lit (.bool false)], args := [d1, d2] }
  | _ => none }
def NumSharedWrongFalsely : Prop := numSharedRow.holds Try.pinned (OpenSpec.ofChange numSharedWrong)

/-- 'bourselaw01.MoneyReads': WHATEVER THE INPUT: true; the input reads as it did. -/
def moneyReadsSpec : ChangeSpec := { name := "moneyReads", fn := fun _ => fun
  | [d1, d2] => { results := [.lit (.bool true)], args := [d1, d2] }
  | _ => none }
def moneyReadsRow : OpenClaim := { program := "ythmjmkbahneneaa", sum := "3e6a120d192a50fb20eb7fdbed7c725f731e0352a162bdbb45f6cbd28d44ee05", func := "bourse/bourselaw01.MoneyReads", spec := "moneyReads", inPlace := ["math/bits.Add64", "internal/abi.NoEscape", "math/bits.Sub64"], named := ["math/bits.divideError", "math/bits.overflowError"], apart := false }
def MoneyReadsSaid : Prop := moneyReadsRow.holds Try.pinned (OpenSpec.ofChange moneyReadsSpec)

/-- ITS FALSE NEIGHBOUR: 'it returns false'. Refute it at one input. -/
def moneyReadsWrong : ChangeSpec := { name := "moneyReads", fn := fun _ => fun
  | [d1, d2] => { results := [.lit (.bool false)], args := [d1, d2] }
  | _ => none }
def MoneyReadsWrongFalsely : Prop := moneyReadsRow.holds Try.pinned (OpenSpec.ofChange moneyReadsWrong)

/-- 'bourselaw01.MoneyAdds': WHATEVER THE INPUT: true; the input reads as it did. -/
def moneyAddsSpec : ChangeSpec := { name := "moneyAdds", fn := fun _ => fun
  | [d1, d2, d3] => { results := [.lit (.bool true)], args := [d1, d2, d3] }
  | _ => none }
def moneyAddsRow : OpenClaim := { program := "ythmjmkbahneneaa", sum := "3e6a120d192a50fb20eb7fdbed7c725f731e0352a162bdbb45f6cbd28d44ee05", func := "bourse/bourselaw01.MoneyAdds", spec := "moneyAdds", inPlace := ["math/bits.Sub64", "math/bits.Add64", "internal/abi.NoEscape"], named := ["math/bits.divideError", "math/bits.overflowError"], apart := false }
def MoneyAddsSaid : Prop := moneyAddsRow.holds Try.pinned (OpenSpec.ofChange moneyAddsSpec)

/-- ITS FALSE NEIGHBOUR: 'it returns false'. Refute it at one input. -/
def moneyAddsWrong : ChangeSpec := { name := "moneyAdds", fn := fun _ => fun
  | [d1, d2, d3] => { results := [.lit (.bool false)], args := [d1, d2, d3] }
  | _ => none }
def MoneyAddsWrongFalsely : Prop := moneyAddsRow.holds Try.pinned (OpenSpec.ofChange moneyAddsWrong)

/-- 'bourselaw01.MoneyAll': WHATEVER THE INPUT: true; the input reads as it did. -/
def moneyAllSpec : ChangeSpec := { name := "moneyAll", fn := fun _ => fun
  | [d] => { results := [.lit (.bool true)], args := [d] }
  | _ => none }
def moneyAllRow : OpenClaim := { program := "ythmjmkbahneneaa", sum := "3e6a120d192a50fb20eb7fdbed7c725f731e0352a162bdbb45f6cbd28d44ee05", func := "bourse/bourselaw01.MoneyAll", spec := "moneyAll", inPlace := ["math/bits.Add64", "internal/abi.NoEscape", "math/bits.Sub64"], named := ["math/bits.divideError", "math/bits.overflowError"], apart := false }
def MoneyAllSaid : Prop := moneyAllRow.holds Try.pinned (OpenSpec.ofChange moneyAllSpec)

/-- ITS FALSE NEIGHBOUR: 'it returns false'. Refute it at one input. -/
def moneyAllWrong : ChangeSpec := { name := "moneyAll", fn := fun _ => fun
  | [d] => { results := [.lit (.bool false)], args := [d] }
  | _ => none }
def MoneyAllWrongFalsely : Prop := moneyAllRow.holds Try.pinned (OpenSpec.ofChange moneyAllWrong)

/- THE SECOND FORM. 'bulk': how many values and letters a reading holds, each counted each time it is reached (what is shared counts as often as it is met; a slice's spare places count too). A statement '..UptoSaid' is the law's where the arguments, and the package variables that the reading takes, are together of bulk at most 1048576: NARROWER than '..Said'. Prove '..Said' where nothing that the law and all that it calls make is longer than what came in: it says more and counts as full. Else prove '..UptoSaid'. A law counts once. -/
mutual
def uptoBulk {H : Type} : DataW H → Nat
  | .lit (.string bytes) => bytes.length + 1
  | .lit _ => 1
  | .nil => 1
  | .ptr d => uptoBulk d + 1
  | .slice elems spare => uptoBulkAll elems + uptoBulkAll spare + 1
  | .agg parts => uptoBulkAll parts + 1
  | .iface _ d => uptoBulk d + 1
  | .map entries => uptoBulkEntries entries + 1
  | .held _ => 1
def uptoBulkAll {H : Type} : List (DataW H) → Nat
  | [] => 0
  | d :: r => uptoBulk d + uptoBulkAll r
def uptoBulkEntries {H : Type} : List (Lit × DataW H) → Nat
  | [] => 0
  | x :: r => uptoBulkEntry x + uptoBulkEntries r
def uptoBulkEntry {H : Type} : Lit × DataW H → Nat
  | (.string bytes, d) => bytes.length + uptoBulk d + 1
  | (_, d) => uptoBulk d + 1
 end
def uptoSmall : (H : Type) → List (DataW H) → Bool := fun _ ds => decide (uptoBulkAll ds ≤ 1048576)
def OpenSpec.upto (s : _root_.Go.ChangeSpec) : _root_.Go.OpenSpec := { _root_.Go.OpenSpec.ofChange s with cond := some uptoSmall }

/-- 'bourselaw01.NumSums', WHERE WHAT IT READS IS OF BULK AT MOST 1048576: true; the input reads as it did. -/
def numSumsUptoRow : OpenClaim := { program := "ythmjmkbahneneaa", sum := "3e6a120d192a50fb20eb7fdbed7c725f731e0352a162bdbb45f6cbd28d44ee05", func := "bourse/bourselaw01.NumSums", spec := "numSums", inPlace := ["math/bits.Add64", "math/bits.Sub64"], apart := false, narrowed := true }
def NumSumsUptoSaid : Prop := numSumsUptoRow.holds Try.pinned (OpenSpec.upto numSumsSpec)

/-- 'bourselaw01.NumPart', WHERE WHAT IT READS IS OF BULK AT MOST 1048576: true; the input reads as it did. -/
def numPartUptoRow : OpenClaim := { program := "ythmjmkbahneneaa", sum := "3e6a120d192a50fb20eb7fdbed7c725f731e0352a162bdbb45f6cbd28d44ee05", func := "bourse/bourselaw01.NumPart", spec := "numPart", inPlace := ["math/bits.Add64"], named := ["math/bits.divideError", "math/bits.overflowError"], apart := false, narrowed := true }
def NumPartUptoSaid : Prop := numPartUptoRow.holds Try.pinned (OpenSpec.upto numPartSpec)

/-- 'bourselaw01.NumParts', WHERE WHAT IT READS IS OF BULK AT MOST 1048576: true; the input reads as it did. -/
def numPartsUptoRow : OpenClaim := { program := "ythmjmkbahneneaa", sum := "3e6a120d192a50fb20eb7fdbed7c725f731e0352a162bdbb45f6cbd28d44ee05", func := "bourse/bourselaw01.NumParts", spec := "numParts", inPlace := ["math/bits.Add64", "math/bits.Sub64"], named := ["math/bits.divideError", "math/bits.overflowError"], apart := false, narrowed := true }
def NumPartsUptoSaid : Prop := numPartsUptoRow.holds Try.pinned (OpenSpec.upto numPartsSpec)

/-- 'bourselaw01.NumShares', WHERE WHAT IT READS IS OF BULK AT MOST 1048576: true; the input reads as it did. -/
def numSharesUptoRow : OpenClaim := { program := "ythmjmkbahneneaa", sum := "3e6a120d192a50fb20eb7fdbed7c725f731e0352a162bdbb45f6cbd28d44ee05", func := "bourse/bourselaw01.NumShares", spec := "numShares", inPlace := ["math/bits.Add64"], named := ["math/bits.divideError", "math/bits.overflowError"], apart := false, narrowed := true }
def NumSharesUptoSaid : Prop := numSharesUptoRow.holds Try.pinned (OpenSpec.upto numSharesSpec)

/-- 'bourselaw01.NumShared', WHERE WHAT IT READS IS OF BULK AT MOST 1048576: true; the input reads as it did. -/
def numSharedUptoRow : OpenClaim := { program := "ythmjmkbahneneaa", sum := "3e6a120d192a50fb20eb7fdbed7c725f731e0352a162bdbb45f6cbd28d44ee05", func := "bourse/bourselaw01.NumShared", spec := "numShared", inPlace := ["math/bits.Add64"], named := ["math/bits.divideError", "math/bits.overflowError"], apart := false, narrowed := true }
def NumSharedUptoSaid : Prop := numSharedUptoRow.holds Try.pinned (OpenSpec.upto numSharedSpec)

/-- 'bourselaw01.MoneyReads', WHERE WHAT IT READS IS OF BULK AT MOST 1048576: true; the input reads as it did. -/
def moneyReadsUptoRow : OpenClaim := { program := "ythmjmkbahneneaa", sum := "3e6a120d192a50fb20eb7fdbed7c725f731e0352a162bdbb45f6cbd28d44ee05", func := "bourse/bourselaw01.MoneyReads", spec := "moneyReads", inPlace := ["math/bits.Add64", "internal/abi.NoEscape", "math/bits.Sub64"], named := ["math/bits.divideError", "math/bits.overflowError"], apart := false, narrowed := true }
def MoneyReadsUptoSaid : Prop := moneyReadsUptoRow.holds Try.pinned (OpenSpec.upto moneyReadsSpec)

/-- 'bourselaw01.MoneyAdds', WHERE WHAT IT READS IS OF BULK AT MOST 1048576: true; the input reads as it did. -/
def moneyAddsUptoRow : OpenClaim := { program := "ythmjmkbahneneaa", sum := "3e6a120d192a50fb20eb7fdbed7c725f731e0352a162bdbb45f6cbd28d44ee05", func := "bourse/bourselaw01.MoneyAdds", spec := "moneyAdds", inPlace := ["math/bits.Sub64", "math/bits.Add64", "internal/abi.NoEscape"], named := ["math/bits.divideError", "math/bits.overflowError"], apart := false, narrowed := true }
def MoneyAddsUptoSaid : Prop := moneyAddsUptoRow.holds Try.pinned (OpenSpec.upto moneyAddsSpec)

/-- 'bourselaw01.MoneyAll', WHERE WHAT IT READS IS OF BULK AT MOST 1048576: true; the input reads as it did. -/
def moneyAllUptoRow : OpenClaim := { program := "ythmjmkbahneneaa", sum := "3e6a120d192a50fb20eb7fdbed7c725f731e0352a162bdbb45f6cbd28d44ee05", func := "bourse/bourselaw01.MoneyAll", spec := "moneyAll", inPlace := ["math/bits.Add64", "internal/abi.NoEscape", "math/bits.Sub64"], named := ["math/bits.divideError", "math/bits.overflowError"], apart := false, narrowed := true }
def MoneyAllUptoSaid : Prop := moneyAllUptoRow.holds Try.pinned (OpenSpec.upto moneyAllSpec)

end Rows
end Go.Proofs.Ythmjmkbahneneaa
