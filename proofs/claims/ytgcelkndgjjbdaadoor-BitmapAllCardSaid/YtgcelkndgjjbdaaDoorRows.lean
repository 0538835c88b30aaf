/-
  NARROWER THAN 'FOR EVERY INPUT', by the rows' own cells (each row's printed sentence says how): BitmapCounts: laid · BitmapNear: laid · BitmapNumbers: laid · BitmapAll: laid.
  DERIVED. THE GIVEN ROWS OF THIS SEAT. 4 by the template 'for every input the law returns true; each argument reads behind the call as it read before'; 0 by the template 'total and deterministic' (their statements: YtgcelkndgjjbdaaDoorTotals.lean).
  GIVEN WITH THE SEED: the statements are not yours to turn. If you find one false, say at which input.
  Laid BY PROGRAM, IN A SANDBOX (cutbox-rows.mjs): the forced cells as the released guide's own fill.sh prints them over the translation 0549a8914bd44967… (all of the seat's roots in one cut). By AI agents, Wed Nov 11 2026. No macro, syntax, notation, axiom, sorry.
-/
import Derived.Test.YtgcelkndgjjbdaaDoorChecked
import GoSem.Claim
import GoSem.ClaimJoined
import GoSem.ClaimMapViews
import Derived.JoinedTies
import Derived.KernelRfl
namespace Go.Proofs.YtgcelkndgjjbdaaDoor
/- THE CELL 'sum', in the pinned program and in every row, IS THE sha256 OF THE DUMP (.gsa) THAT YtgcelkndgjjbdaaDoorProg.lean LOADS. Nothing in Lean hashes anything: it is a label: what it is worth is what the hold of that sum in a sandbox is worth. -/
noncomputable def Tryd.pinned : Pinned := { name := "ytgcelkndgjjbdaadoor", sum := "0549a8914bd449678129d8a0767c6edd85c91fdfad86c7ae80bf471c6978dd9a", checked := Tryd.checked }
namespace Rows
def none {H : Type} : Left H := { results := [], args := [] }

/- WHAT THE LISTED PACKAGE-LEVEL VARIABLES READ AS WHEN THE CALL BEGINS. Each datum BY PROGRAM (the guide's laid-datum.mjs) off the statement by which the dump's own 'gosem.cut.vars' lays the variable. In a bare row this is a premise. The card (YtgcelkndgjjbdaaDoorCards.lean) ties it to the program's text. -/
def laid_math_bits_deBruijn64tab {H : Type} : DataW H := .agg [.lit (.int .u8 0), .lit (.int .u8 1), .lit (.int .u8 56), .lit (.int .u8 2), .lit (.int .u8 57), .lit (.int .u8 49), .lit (.int .u8 28), .lit (.int .u8 3), .lit (.int .u8 61), .lit (.int .u8 58), .lit (.int .u8 42), .lit (.int .u8 50), .lit (.int .u8 38), .lit (.int .u8 29), .lit (.int .u8 17), .lit (.int .u8 4), .lit (.int .u8 62), .lit (.int .u8 47), .lit (.int .u8 59), .lit (.int .u8 36), .lit (.int .u8 45), .lit (.int .u8 43), .lit (.int .u8 51), .lit (.int .u8 22), .lit (.int .u8 53), .lit (.int .u8 39), .lit (.int .u8 33), .lit (.int .u8 30), .lit (.int .u8 24), .lit (.int .u8 18), .lit (.int .u8 12), .lit (.int .u8 5), .lit (.int .u8 63), .lit (.int .u8 55), .lit (.int .u8 48), .lit (.int .u8 27), .lit (.int .u8 60), .lit (.int .u8 41), .lit (.int .u8 37), .lit (.int .u8 16), .lit (.int .u8 46), .lit (.int .u8 35), .lit (.int .u8 44), .lit (.int .u8 21), .lit (.int .u8 52), .lit (.int .u8 32), .lit (.int .u8 23), .lit (.int .u8 11), .lit (.int .u8 54), .lit (.int .u8 26), .lit (.int .u8 40), .lit (.int .u8 15), .lit (.int .u8 34), .lit (.int .u8 20), .lit (.int .u8 31), .lit (.int .u8 10), .lit (.int .u8 25), .lit (.int .u8 14), .lit (.int .u8 19), .lit (.int .u8 9), .lit (.int .u8 13), .lit (.int .u8 8), .lit (.int .u8 7), .lit (.int .u8 6)]

/-- 'bourselaw06.BitmapCounts': WHATEVER THE INPUT: true; the input reads as it did. -/
def bitmapCountsSpec : ChangeSpec := { name := "bitmapCounts", fn := fun _ => fun
  | [d1, d2, d3, d4] => { results := [.lit (.bool true)], args := [d1, d2, d3, d4] }
  | _ => none }
def bitmapCountsRow : OpenClaim := { program := "ytgcelkndgjjbdaadoor", sum := "0549a8914bd449678129d8a0767c6edd85c91fdfad86c7ae80bf471c6978dd9a", func := "bourse/bourselaw06.BitmapCounts", spec := "bitmapCounts", named := ["math/bits.deBruijn64tab"], apart := false, laid := [("math/bits.deBruijn64tab", laid_math_bits_deBruijn64tab)] }
def BitmapCountsSaid : Prop := bitmapCountsRow.holds Tryd.pinned (OpenSpec.ofChange bitmapCountsSpec)

/-- ITS FALSE NEIGHBOUR: 'it returns false'. Refute it at one input. -/
def bitmapCountsWrong : ChangeSpec := { name := "bitmapCounts", fn := fun _ => fun
  | [d1, d2, d3, d4] => { results := [.lit (.bool false)], args := [d1, d2, d3, d4] }
  | _ => none }
def BitmapCountsWrongFalsely : Prop := bitmapCountsRow.holds Tryd.pinned (OpenSpec.ofChange bitmapCountsWrong)

/-- 'bourselaw06.BitmapNear': WHATEVER THE INPUT: true; the input reads as it did. -/
def bitmapNearSpec : ChangeSpec := { name := "bitmapNear", fn := fun _ => fun
  | [d1, d2] => { results := [.lit (.bool true)], args := [d1, d2] }
  | _ => none }
def bitmapNearRow : OpenClaim := { program := "ytgcelkndgjjbdaadoor", sum := "0549a8914bd449678129d8a0767c6edd85c91fdfad86c7ae80bf471c6978dd9a", func := "bourse/bourselaw06.BitmapNear", spec := "bitmapNear", named := ["math/bits.deBruijn64tab"], apart := false, laid := [("math/bits.deBruijn64tab", laid_math_bits_deBruijn64tab)] }
def BitmapNearSaid : Prop := bitmapNearRow.holds Tryd.pinned (OpenSpec.ofChange bitmapNearSpec)

/-- ITS FALSE NEIGHBOUR: 'it returns false'. Refute it at one input. -/
def bitmapNearWrong : ChangeSpec := { name := "bitmapNear", fn := fun _ => fun
  | [d1, d2] => { results := [.lit (.bool false)], args := [d1, d2] }
  | _ => none }
def BitmapNearWrongFalsely : Prop := bitmapNearRow.holds Tryd.pinned (OpenSpec.ofChange bitmapNearWrong)

/-- 'bourselaw06.BitmapNumbers': WHATEVER THE INPUT: true; the input reads as it did. -/
def bitmapNumbersSpec : ChangeSpec := { name := "bitmapNumbers", fn := fun _ => fun
  | [d1, d2, d3] => { results := [.lit (.bool true)], args := [d1, d2, d3] }
  | _ => none }
def bitmapNumbersRow : OpenClaim := { program := "ytgcelkndgjjbdaadoor", sum := "0549a8914bd449678129d8a0767c6edd85c91fdfad86c7ae80bf471c6978dd9a", func := "bourse/bourselaw06.BitmapNumbers", spec := "bitmapNumbers", unfollowed := true, recurses := true, named := ["math/bits.deBruijn64tab"], apart := false, laid := [("math/bits.deBruijn64tab", laid_math_bits_deBruijn64tab)] }
def BitmapNumbersSaid : Prop := bitmapNumbersRow.holds Tryd.pinned (OpenSpec.ofChange bitmapNumbersSpec)

/-- ITS FALSE NEIGHBOUR: 'it returns false'. Refute it at one input. -/
def bitmapNumbersWrong : ChangeSpec := { name := "bitmapNumbers", fn := fun _ => fun
  | [d1, d2, d3] => { results := [.lit (.bool false)], args := [d1, d2, d3] }
  | _ => none }
def BitmapNumbersWrongFalsely : Prop := bitmapNumbersRow.holds Tryd.pinned (OpenSpec.ofChange bitmapNumbersWrong)

/-- 'bourselaw06.BitmapAll': WHATEVER THE INPUT: true; the input reads as it did. -/
def bitmapAllSpec : ChangeSpec := { name := "bitmapAll", fn := fun _ => fun
  | [d] => { results := [.lit (.bool true)], args := [d] }
  | _ => none }
def bitmapAllRow : OpenClaim := { program := "ytgcelkndgjjbdaadoor", sum := "0549a8914bd449678129d8a0767c6edd85c91fdfad86c7ae80bf471c6978dd9a", func := "bourse/bourselaw06.BitmapAll", spec := "bitmapAll", unfollowed := true, recurses := true, named := ["math/bits.deBruijn64tab"], apart := false, laid := [("math/bits.deBruijn64tab", laid_math_bits_deBruijn64tab)] }
def BitmapAllSaid : Prop := bitmapAllRow.holds Tryd.pinned (OpenSpec.ofChange bitmapAllSpec)

/-- ITS FALSE NEIGHBOUR: 'it returns false'. Refute it at one input. -/
def bitmapAllWrong : ChangeSpec := { name := "bitmapAll", fn := fun _ => fun
  | [d] => { results := [.lit (.bool false)], args := [d] }
  | _ => none }
def BitmapAllWrongFalsely : Prop := bitmapAllRow.holds Tryd.pinned (OpenSpec.ofChange bitmapAllWrong)

/- THE SECOND FORM. 'bulk': how many values and letters a reading holds, each counted each time it is reached (what is shared counts as often as it is met; a slice's spare places count too). A statement '..UptoSaid' is the law's where the arguments, and the package variables that the reading takes, are together of bulk at most 1048576: NARROWER than '..Said'. Prove '..Said' where nothing that the law and all that it calls make is longer than what came in: it says more and counts as full. Else prove '..UptoSaid'. A law counts once. -/
mutual
def uptoBulk {H : Type} : DataW H → Nat
  | .lit (.string bytes) => bytes.length + 1
  | .lit _ => 1
  | .nil => 1
  | .ptr d => uptoBulk d + 1
  | .slice elems spare => uptoBulkAll elems + uptoBulkAll spare + 1
  | .agg parts => uptoBulkAll parts + 1
  | .iface _ d => uptoBulk d + 1
  | .map entries => uptoBulkEntries entries + 1
  | .held _ => 1
def uptoBulkAll {H : Type} : List (DataW H) → Nat
  | [] => 0
  | d :: r => uptoBulk d + uptoBulkAll r
def uptoBulkEntries {H : Type} : List (Lit × DataW H) → Nat
  | [] => 0
  | x :: r => uptoBulkEntry x + uptoBulkEntries r
def uptoBulkEntry {H : Type} : Lit × DataW H → Nat
  | (.string bytes, d) => bytes.length + uptoBulk d + 1
  | (_, d) => uptoBulk d + 1
 end
def uptoSmall : (H : Type) → List (DataW H) → Bool := fun _ ds => decide (uptoBulkAll ds ≤ 1048576)
def OpenSpec.upto (s : _root_.Go.ChangeSpec) : _root_.Go.OpenSpec := { _root_.Go.OpenSpec.ofChange s with cond := some uptoSmall }

/-- 'bourselaw06.BitmapCounts', WHERE WHAT IT READS IS OF BULK AT MOST 1048576: true; the input reads as it did. -/
def bitmapCountsUptoRow : OpenClaim := { program := "ytgcelkndgjjbdaadoor", sum := "0549a8914bd449678129d8a0767c6edd85c91fdfad86c7ae80bf471c6978dd9a", func := "bourse/bourselaw06.BitmapCounts", spec := "bitmapCounts", named := ["math/bits.deBruijn64tab"], apart := false, laid := [("math/bits.deBruijn64tab", laid_math_bits_deBruijn64tab)], narrowed := true }
def BitmapCountsUptoSaid : Prop := bitmapCountsUptoRow.holds Tryd.pinned (OpenSpec.upto bitmapCountsSpec)

/-- 'bourselaw06.BitmapNear', WHERE WHAT IT READS IS OF BULK AT MOST 1048576: true; the input reads as it did. -/
def bitmapNearUptoRow : OpenClaim := { program := "ytgcelkndgjjbdaadoor", sum := "0549a8914bd449678129d8a0767c6edd85c91fdfad86c7ae80bf471c6978dd9a", func := "bourse/bourselaw06.BitmapNear", spec := "bitmapNear", named := ["math/bits.deBruijn64tab"], apart := false, laid := [("math/bits.deBruijn64tab", laid_math_bits_deBruijn64tab)], narrowed := true }
def BitmapNearUptoSaid : Prop := bitmapNearUptoRow.holds Tryd.pinned (OpenSpec.upto bitmapNearSpec)

/-- 'bourselaw06.BitmapNumbers', WHERE WHAT IT READS IS OF BULK AT MOST 1048576: true; the input reads as it did. -/
def bitmapNumbersUptoRow : OpenClaim := { program := "ytgcelkndgjjbdaadoor", sum := "0549a8914bd449678129d8a0767c6edd85c91fdfad86c7ae80bf471c6978dd9a", func := "bourse/bourselaw06.BitmapNumbers", spec := "bitmapNumbers", unfollowed := true, recurses := true, named := ["math/bits.deBruijn64tab"], apart := false, laid := [("math/bits.deBruijn64tab", laid_math_bits_deBruijn64tab)], narrowed := true }
def BitmapNumbersUptoSaid : Prop := bitmapNumbersUptoRow.holds Tryd.pinned (OpenSpec.upto bitmapNumbersSpec)

/-- 'bourselaw06.BitmapAll', WHERE WHAT IT READS IS OF BULK AT MOST 1048576: true; the input reads as it did. -/
def bitmapAllUptoRow : OpenClaim := { program := "ytgcelkndgjjbdaadoor", sum := "0549a8914bd449678129d8a0767c6edd85c91fdfad86c7ae80bf471c6978dd9a", func := "bourse/bourselaw06.BitmapAll", spec := "bitmapAll", unfollowed := true, recurses := true, named := ["math/bits.deBruijn64tab"], apart := false, laid := [("math/bits.deBruijn64tab", laid_math_bits_deBruijn64tab)], narrowed := true }
def BitmapAllUptoSaid : Prop := bitmapAllUptoRow.holds Tryd.pinned (OpenSpec.upto bitmapAllSpec)

end Rows
end Go.Proofs.YtgcelkndgjjbdaaDoor
