/-
  No cell of these rows narrows 'for every input' (looked for: loops, veiled, ifaces, maps, wideKeys, modest, calm, conditions, laid).
  DERIVED. THE GIVEN ROWS OF THIS SEAT. 3 by the template 'for every input the law returns true; each argument reads behind the call as it read before'; 0 by the template 'total and deterministic' (their statements: YtgcelkndgjjbdaaTotals.lean).
  GIVEN WITH THE SEED: the statements are not yours to turn. If you find one false, say at which input.
  Laid BY PROGRAM, IN A SANDBOX (cutbox-rows.mjs): the forced cells as the released guide's own fill.sh prints them over the translation 79f87967b53bd398… (all of the seat's roots in one cut). By AI agents, Wed Nov 11 2026. No macro, syntax, notation, axiom, sorry.
-/
import Derived.Test.YtgcelkndgjjbdaaChecked
import GoSem.Claim
import GoSem.ClaimJoined
import GoSem.ClaimMapViews
import Derived.JoinedTies
import Derived.KernelRfl
namespace Go.Proofs.Ytgcelkndgjjbdaa
/- THE CELL 'sum', in the pinned program and in every row, IS THE sha256 OF THE DUMP (.gsa) THAT YtgcelkndgjjbdaaProg.lean LOADS. Nothing in Lean hashes anything: it is a label: what it is worth is what the hold of that sum in a sandbox is worth. -/
noncomputable def Try.pinned : Pinned := { name := "ytgcelkndgjjbdaa", sum := "79f87967b53bd3986dbe2b281c1475777980b329831eb871812ccb3d3f4d6900", checked := Try.checked }
namespace Rows
def none {H : Type} : Left H := { results := [], args := [] }

/-- 'bourselaw06.BitmapOrder': WHATEVER THE INPUT: true; the input reads as it did. -/
def bitmapOrderSpec : ChangeSpec := { name := "bitmapOrder", fn := fun _ => fun
  | [d1, d2, d3] => { results := [.lit (.bool true)], args := [d1, d2, d3] }
  | _ => none }
def bitmapOrderRow : OpenClaim := { program := "ytgcelkndgjjbdaa", sum := "79f87967b53bd3986dbe2b281c1475777980b329831eb871812ccb3d3f4d6900", func := "bourse/bourselaw06.BitmapOrder", spec := "bitmapOrder", apart := false }
def BitmapOrderSaid : Prop := bitmapOrderRow.holds Try.pinned (OpenSpec.ofChange bitmapOrderSpec)

/-- ITS FALSE NEIGHBOUR: 'it returns false'. Refute it at one input. -/
def bitmapOrderWrong : ChangeSpec := { name := "bitmapOrder", fn := fun _ => fun
  | [d1, d2, d3] => { results := [.lit (.bool false)], args := [d1, d2, d3] }
  | _ => none }
def BitmapOrderWrongFalsely : Prop := bitmapOrderRow.holds Try.pinned (OpenSpec.ofChange bitmapOrderWrong)

/-- 'bourselaw06.BitmapAgain': WHATEVER THE INPUT: true; the input reads as it did. -/
def bitmapAgainSpec : ChangeSpec := { name := "bitmapAgain", fn := fun _ => fun
  | [d1, d2] => { results := [.lit (.bool true)], args := [d1, d2] }
  | _ => none }
def bitmapAgainRow : OpenClaim := { program := "ytgcelkndgjjbdaa", sum := "79f87967b53bd3986dbe2b281c1475777980b329831eb871812ccb3d3f4d6900", func := "bourse/bourselaw06.BitmapAgain", spec := "bitmapAgain", apart := false }
def BitmapAgainSaid : Prop := bitmapAgainRow.holds Try.pinned (OpenSpec.ofChange bitmapAgainSpec)

/-- ITS FALSE NEIGHBOUR: 'it returns false'. Refute it at one input. -/
def bitmapAgainWrong : ChangeSpec := { name := "bitmapAgain", fn := fun _ => fun
  | [d1, d2] => { results := [.lit (.bool false)], args := [d1, d2] }
  | _ => none }
def BitmapAgainWrongFalsely : Prop := bitmapAgainRow.holds Try.pinned (OpenSpec.ofChange bitmapAgainWrong)

/-- 'bourselaw06.BitmapLevels': WHATEVER THE INPUT: true; the input reads as it did. -/
def bitmapLevelsSpec : ChangeSpec := { name := "bitmapLevels", fn := fun _ => fun
  | [d1, d2] => { results := [.lit (.bool true)], args := [d1, d2] }
  | _ => none }
def bitmapLevelsRow : OpenClaim := { program := "ytgcelkndgjjbdaa", sum := "79f87967b53bd3986dbe2b281c1475777980b329831eb871812ccb3d3f4d6900", func := "bourse/bourselaw06.BitmapLevels", spec := "bitmapLevels", apart := false }
def BitmapLevelsSaid : Prop := bitmapLevelsRow.holds Try.pinned (OpenSpec.ofChange bitmapLevelsSpec)

/-- ITS FALSE NEIGHBOUR: 'it returns false'. Refute it at one input. -/
def bitmapLevelsWrong : ChangeSpec := { name := "bitmapLevels", fn := fun _ => fun
  | [d1, d2] => { results := [.lit (.bool false)], args := [d1, d2] }
  | _ => none }
def BitmapLevelsWrongFalsely : Prop := bitmapLevelsRow.holds Try.pinned (OpenSpec.ofChange bitmapLevelsWrong)

/- THE SECOND FORM. 'bulk': how many values and letters a reading holds, each counted each time it is reached (what is shared counts as often as it is met; a slice's spare places count too). A statement '..UptoSaid' is the law's where the arguments, and the package variables that the reading takes, are together of bulk at most 1048576: NARROWER than '..Said'. Prove '..Said' where nothing that the law and all that it calls make is longer than what came in: it says more and counts as full. Else prove '..UptoSaid'. A law counts once. -/
mutual
def uptoBulk {H : Type} : DataW H → Nat
  | .lit (.string bytes) => bytes.length + 1
  | .lit _ => 1
  | .nil => 1
  | .ptr d => uptoBulk d + 1
  | .slice elems spare => uptoBulkAll elems + uptoBulkAll spare + 1
  | .agg parts => uptoBulkAll parts + 1
  | .iface _ d => uptoBulk d + 1
  | .map entries => uptoBulkEntries entries + 1
  | .held _ => 1
def uptoBulkAll {H : Type} : List (DataW H) → Nat
  | [] => 0
  | d :: r => uptoBulk d + uptoBulkAll r
def uptoBulkEntries {H : Type} : List (Lit × DataW H) → Nat
  | [] => 0
  | x :: r => uptoBulkEntry x + uptoBulkEntries r
def uptoBulkEntry {H : Type} : Lit × DataW H → Nat
  | (.string bytes, d) => bytes.length + uptoBulk d + 1
  | (_, d) => uptoBulk d + 1
 end
def uptoSmall : (H : Type) → List (DataW H) → Bool := fun _ ds => decide (uptoBulkAll ds ≤ 1048576)
def OpenSpec.upto (s : _root_.Go.ChangeSpec) : _root_.Go.OpenSpec := { _root_.Go.OpenSpec.ofChange s with cond := some uptoSmall }

/-- 'bourselaw06.BitmapOrder', WHERE WHAT IT READS IS OF BULK AT MOST 1048576: true; the input reads as it did. -/
def bitmapOrderUptoRow : OpenClaim := { program := "ytgcelkndgjjbdaa", sum := "79f87967b53bd3986dbe2b281c1475777980b329831eb871812ccb3d3f4d6900", func := "bourse/bourselaw06.BitmapOrder", spec := "bitmapOrder", apart := false, narrowed := true }
def BitmapOrderUptoSaid : Prop := bitmapOrderUptoRow.holds Try.pinned (OpenSpec.upto bitmapOrderSpec)

/-- 'bourselaw06.BitmapAgain', WHERE WHAT IT READS IS OF BULK AT MOST 1048576: true; the input reads as it did. -/
def bitmapAgainUptoRow : OpenClaim := { program := "ytgcelkndgjjbdaa", sum := "79f87967b53bd3986dbe2b281c1475777980b329831eb871812ccb3d3f4d6900", func := "bourse/bourselaw06.BitmapAgain", spec := "bitmapAgain", apart := false, narrowed := true }
def BitmapAgainUptoSaid : Prop := bitmapAgainUptoRow.holds Try.pinned (OpenSpec.upto bitmapAgainSpec)

/-- 'bourselaw06.BitmapLevels', WHERE WHAT IT READS IS OF BULK AT MOST 1048576: true; the input reads as it did. -/
def bitmapLevelsUptoRow : OpenClaim := { program := "ytgcelkndgjjbdaa", sum := "79f87967b53bd3986dbe2b281c1475777980b329831eb871812ccb3d3f4d6900", func := "bourse/bourselaw06.BitmapLevels", spec := "bitmapLevels", apart := false, narrowed := true }
def BitmapLevelsUptoSaid : Prop := bitmapLevelsUptoRow.holds Try.pinned (OpenSpec.upto bitmapLevelsSpec)

end Rows
end Go.Proofs.Ytgcelkndgjjbdaa
