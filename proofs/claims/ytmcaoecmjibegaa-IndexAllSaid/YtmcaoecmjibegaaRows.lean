/-
  No cell of these rows narrows 'for every input' (looked for: loops, veiled, ifaces, maps, wideKeys, modest, calm, conditions, laid).
  DERIVED. THE GIVEN ROWS OF THIS SEAT. 7 by the template 'for every input the law returns true; each argument reads behind the call as it read before'; 0 by the template 'total and deterministic' (their statements: YtmcaoecmjibegaaTotals.lean).
  GIVEN WITH THE SEED: the statements are not yours to turn. If you find one false, say at which input.
  Laid BY PROGRAM, IN A SANDBOX (cutbox-rows.mjs): the forced cells as the released guide's own fill.sh prints them over the translation 613e68f45c7ae457… (all of the seat's roots in one cut). By AI agents, Wed Nov 11 2026. No macro, syntax, notation, axiom, sorry.
-/
import Derived.Test.YtmcaoecmjibegaaChecked
import GoSem.Claim
import GoSem.ClaimJoined
import GoSem.ClaimMapViews
import Derived.JoinedTies
import Derived.KernelRfl
namespace Go.Proofs.Ytmcaoecmjibegaa
/- THE CELL 'sum', in the pinned program and in every row, IS THE sha256 OF THE DUMP (.gsa) THAT YtmcaoecmjibegaaProg.lean LOADS. Nothing in Lean hashes anything: it is a label: what it is worth is what the hold of that sum in a sandbox is worth. -/
noncomputable def Try.pinned : Pinned := { name := "ytmcaoecmjibegaa", sum := "613e68f45c7ae4575ea4a327d3b19ab92edfdd922333ef1a926f550c928e2a40", checked := Try.checked }
namespace Rows
def none {H : Type} : Left H := { results := [], args := [] }

/-- 'bourselaw08.IndexHomes': WHATEVER THE INPUT: true; the input reads as it did. -/
def indexHomesSpec : ChangeSpec := { name := "indexHomes", fn := fun _ => fun
  | [d1, d2] => { results := [.lit (.bool true)], args := [d1, d2] }
  | _ => none }
def indexHomesRow : OpenClaim := { program := "ytmcaoecmjibegaa", sum := "613e68f45c7ae4575ea4a327d3b19ab92edfdd922333ef1a926f550c928e2a40", func := "bourse/bourselaw08.IndexHomes", spec := "indexHomes", apart := false }
def IndexHomesSaid : Prop := indexHomesRow.holds Try.pinned (OpenSpec.ofChange indexHomesSpec)

/-- ITS FALSE NEIGHBOUR: 'it returns false'. Refute it at one input. -/
def indexHomesWrong : ChangeSpec := { name := "indexHomes", fn := fun _ => fun
  | [d1, d2] => { results := [.lit (.bool false)], args := [d1, d2] }
  | _ => none }
def IndexHomesWrongFalsely : Prop := indexHomesRow.holds Try.pinned (OpenSpec.ofChange indexHomesWrong)

/-- 'bourselaw08.IndexNews': WHATEVER THE INPUT: true; the input reads as it did. -/
def indexNewsSpec : ChangeSpec := { name := "indexNews", fn := fun _ => fun
  | [d] => { results := [.lit (.bool true)], args := [d] }
  | _ => none }
def indexNewsRow : OpenClaim := { program := "ytmcaoecmjibegaa", sum := "613e68f45c7ae4575ea4a327d3b19ab92edfdd922333ef1a926f550c928e2a40", func := "bourse/bourselaw08.IndexNews", spec := "indexNews", apart := false }
def IndexNewsSaid : Prop := indexNewsRow.holds Try.pinned (OpenSpec.ofChange indexNewsSpec)

/-- ITS FALSE NEIGHBOUR: 'it returns false'. Refute it at one input. -/
def indexNewsWrong : ChangeSpec := { name := "indexNews", fn := fun _ => fun
  | [d] => { results := [.lit (.bool false)], args := [d] }
  | _ => none }
def IndexNewsWrongFalsely : Prop := indexNewsRow.holds Try.pinned (OpenSpec.ofChange indexNewsWrong)

/-- 'bourselaw08.IndexMap': WHATEVER THE INPUT: true; the input reads as it did. -/
def indexMapSpec : ChangeSpec := { name := "indexMap", fn := fun _ => fun
  | [d1, d2, d3] => { results := [.lit (.bool true)], args := [d1, d2, d3] }
  | _ => none }
def indexMapRow : OpenClaim := { program := "ytmcaoecmjibegaa", sum := "613e68f45c7ae4575ea4a327d3b19ab92edfdd922333ef1a926f550c928e2a40", func := "bourse/bourselaw08.IndexMap", spec := "indexMap", apart := false }
def IndexMapSaid : Prop := indexMapRow.holds Try.pinned (OpenSpec.ofChange indexMapSpec)

/-- ITS FALSE NEIGHBOUR: 'it returns false'. Refute it at one input. -/
def indexMapWrong : ChangeSpec := { name := "indexMap", fn := fun _ => fun
  | [d1, d2, d3] => { results := [.lit (.bool false)], args := [d1, d2, d3] }
  | _ => none }
def IndexMapWrongFalsely : Prop := indexMapRow.holds Try.pinned (OpenSpec.ofChange indexMapWrong)

/-- 'bourselaw08.IndexTidy': WHATEVER THE INPUT: true; the input reads as it did. -/
def indexTidySpec : ChangeSpec := { name := "indexTidy", fn := fun _ => fun
  | [d1, d2] => { results := [.lit (.bool true)], args := [d1, d2] }
  | _ => none }
def indexTidyRow : OpenClaim := { program := "ytmcaoecmjibegaa", sum := "613e68f45c7ae4575ea4a327d3b19ab92edfdd922333ef1a926f550c928e2a40", func := "bourse/bourselaw08.IndexTidy", spec := "indexTidy", apart := false }
def IndexTidySaid : Prop := indexTidyRow.holds Try.pinned (OpenSpec.ofChange indexTidySpec)

/-- ITS FALSE NEIGHBOUR: 'it returns false'. Refute it at one input. -/
def indexTidyWrong : ChangeSpec := { name := "indexTidy", fn := fun _ => fun
  | [d1, d2] => { results := [.lit (.bool false)], args := [d1, d2] }
  | _ => none }
def IndexTidyWrongFalsely : Prop := indexTidyRow.holds Try.pinned (OpenSpec.ofChange indexTidyWrong)

/-- 'bourselaw08.IndexTraces': WHATEVER THE INPUT: true; the input reads as it did. -/
def indexTracesSpec : ChangeSpec := { name := "indexTraces", fn := fun _ => fun
  | [d1, d2] => { results := [.lit (.bool true)], args := [d1, d2] }
  | _ => none }
def indexTracesRow : OpenClaim := { program := "ytmcaoecmjibegaa", sum := "613e68f45c7ae4575ea4a327d3b19ab92edfdd922333ef1a926f550c928e2a40", func := "bourse/bourselaw08.IndexTraces", spec := "indexTraces", unfollowed := true, recurses := true, apart := false }
def IndexTracesSaid : Prop := indexTracesRow.holds Try.pinned (OpenSpec.ofChange indexTracesSpec)

/-- ITS FALSE NEIGHBOUR: 'it returns false'. Refute it at one input. -/
def indexTracesWrong : ChangeSpec := { name := "indexTraces", fn := fun _ => fun
  | [d1, d2] => { results := [.lit (.bool false)], args := [d1, d2] }
  | _ => none }
def IndexTracesWrongFalsely : Prop := indexTracesRow.holds Try.pinned (OpenSpec.ofChange indexTracesWrong)

/-- 'bourselaw08.IndexAll': WHATEVER THE INPUT: true; the input reads as it did. -/
def indexAllSpec : ChangeSpec := { name := "indexAll", fn := fun _ => fun
  | [d1, d2, d3] => { results := [.lit (.bool true)], args := [d1, d2, d3] }
  | _ => none }
def indexAllRow : OpenClaim := { program := "ytmcaoecmjibegaa", sum := "613e68f45c7ae4575ea4a327d3b19ab92edfdd922333ef1a926f550c928e2a40", func := "bourse/bourselaw08.IndexAll", spec := "indexAll", unfollowed := true, recurses := true, apart := false }
def IndexAllSaid : Prop := indexAllRow.holds Try.pinned (OpenSpec.ofChange indexAllSpec)

/-- ITS FALSE NEIGHBOUR: 'it returns false'. Refute it at one input. -/
def indexAllWrong : ChangeSpec := { name := "indexAll", fn := fun _ => fun
  | [d1, d2, d3] => { results := [.lit (.bool false)], args := [d1, d2, d3] }
  | _ => none }
def IndexAllWrongFalsely : Prop := indexAllRow.holds Try.pinned (OpenSpec.ofChange indexAllWrong)

/-- 'bourselaw08.IndexTwo': WHATEVER THE INPUT: true; the input reads as it did. -/
def indexTwoSpec : ChangeSpec := { name := "indexTwo", fn := fun _ => fun
  | [d1, d2, d3, d4] => { results := [.lit (.bool true)], args := [d1, d2, d3, d4] }
  | _ => none }
def indexTwoRow : OpenClaim := { program := "ytmcaoecmjibegaa", sum := "613e68f45c7ae4575ea4a327d3b19ab92edfdd922333ef1a926f550c928e2a40", func := "bourse/bourselaw08.IndexTwo", spec := "indexTwo", unfollowed := true, recurses := true, apart := false }
def IndexTwoSaid : Prop := indexTwoRow.holds Try.pinned (OpenSpec.ofChange indexTwoSpec)

/-- ITS FALSE NEIGHBOUR: 'it returns false'. Refute it at one input. -/
def indexTwoWrong : ChangeSpec := { name := "indexTwo", fn := fun _ => fun
  | [d1, d2, d3, d4] => { results := [.lit (.bool false)], args := [d1, d2, d3, d4] }
  | _ => none }
def IndexTwoWrongFalsely : Prop := indexTwoRow.holds Try.pinned (OpenSpec.ofChange indexTwoWrong)

/- THE SECOND FORM. 'bulk': how many values and letters a reading holds, each counted each time it is reached (what is shared counts as often as it is met; a slice's spare places count too). A statement '..UptoSaid' is the law's where the arguments, and the package variables that the reading takes, are together of bulk at most 1048576: NARROWER than '..Said'. Prove '..Said' where nothing that the law and all that it calls make is longer than what came in: it says more and counts as full. Else prove '..UptoSaid'. A law counts once. -/
mutual
def uptoBulk {H : Type} : DataW H → Nat
  | .lit (.string bytes) => bytes.length + 1
  | .lit _ => 1
  | .nil => 1
  | .ptr d => uptoBulk d + 1
  | .slice elems spare => uptoBulkAll elems + uptoBulkAll spare + 1
  | .agg parts => uptoBulkAll parts + 1
  | .iface _ d => uptoBulk d + 1
  | .map entries => uptoBulkEntries entries + 1
  | .held _ => 1
def uptoBulkAll {H : Type} : List (DataW H) → Nat
  | [] => 0
  | d :: r => uptoBulk d + uptoBulkAll r
def uptoBulkEntries {H : Type} : List (Lit × DataW H) → Nat
  | [] => 0
  | x :: r => uptoBulkEntry x + uptoBulkEntries r
def uptoBulkEntry {H : Type} : Lit × DataW H → Nat
  | (.string bytes, d) => bytes.length + uptoBulk d + 1
  | (_, d) => uptoBulk d + 1
 end
def uptoSmall : (H : Type) → List (DataW H) → Bool := fun _ ds => decide (uptoBulkAll ds ≤ 1048576)
def OpenSpec.upto (s : _root_.Go.ChangeSpec) : _root_.Go.OpenSpec := { _root_.Go.OpenSpec.ofChange s with cond := some uptoSmall }

/-- 'bourselaw08.IndexHomes', WHERE WHAT IT READS IS OF BULK AT MOST 1048576: true; the input reads as it did. -/
def indexHomesUptoRow : OpenClaim := { program := "ytmcaoecmjibegaa", sum := "613e68f45c7ae4575ea4a327d3b19ab92edfdd922333ef1a926f550c928e2a40", func := "bourse/bourselaw08.IndexHomes", spec := "indexHomes", apart := false, narrowed := true }
def IndexHomesUptoSaid : Prop := indexHomesUptoRow.holds Try.pinned (OpenSpec.upto indexHomesSpec)

/-- 'bourselaw08.IndexNews', WHERE WHAT IT READS IS OF BULK AT MOST 1048576: true; the input reads as it did. -/
def indexNewsUptoRow : OpenClaim := { program := "ytmcaoecmjibegaa", sum := "613e68f45c7ae4575ea4a327d3b19ab92edfdd922333ef1a926f550c928e2a40", func := "bourse/bourselaw08.IndexNews", spec := "indexNews", apart := false, narrowed := true }
def IndexNewsUptoSaid : Prop := indexNewsUptoRow.holds Try.pinned (OpenSpec.upto indexNewsSpec)

/-- 'bourselaw08.IndexMap', WHERE WHAT IT READS IS OF BULK AT MOST 1048576: true; the input reads as it did. -/
def indexMapUptoRow : OpenClaim := { program := "ytmcaoecmjibegaa", sum := "613e68f45c7ae4575ea4a327d3b19ab92edfdd922333ef1a926f550c928e2a40", func := "bourse/bourselaw08.IndexMap", spec := "indexMap", apart := false, narrowed := true }
def IndexMapUptoSaid : Prop := indexMapUptoRow.holds Try.pinned (OpenSpec.upto indexMapSpec)

/-- 'bourselaw08.IndexTidy', WHERE WHAT IT READS IS OF BULK AT MOST 1048576: true; the input reads as it did. -/
def indexTidyUptoRow : OpenClaim := { program := "ytmcaoecmjibegaa", sum := "613e68f45c7ae4575ea4a327d3b19ab92edfdd922333ef1a926f550c928e2a40", func := "bourse/bourselaw08.IndexTidy", spec := "indexTidy", apart := false, narrowed := true }
def IndexTidyUptoSaid : Prop := indexTidyUptoRow.holds Try.pinned (OpenSpec.upto indexTidySpec)

/-- 'bourselaw08.IndexTraces', WHERE WHAT IT READS IS OF BULK AT MOST 1048576: true; the input reads as it did. -/
def indexTracesUptoRow : OpenClaim := { program := "ytmcaoecmjibegaa", sum := "613e68f45c7ae4575ea4a327d3b19ab92edfdd922333ef1a926f550c928e2a40", func := "bourse/bourselaw08.IndexTraces", spec := "indexTraces", unfollowed := true, recurses := true, apart := false, narrowed := true }
def IndexTracesUptoSaid : Prop := indexTracesUptoRow.holds Try.pinned (OpenSpec.upto indexTracesSpec)

/-- 'bourselaw08.IndexAll', WHERE WHAT IT READS IS OF BULK AT MOST 1048576: true; the input reads as it did. -/
def indexAllUptoRow : OpenClaim := { program := "ytmcaoecmjibegaa", sum := "613e68f45c7ae4575ea4a327d3b19ab92edfdd922333ef1a926f550c928e2a40", func := "bourse/bourselaw08.IndexAll", spec := "indexAll", unfollowed := true, recurses := true, apart := false, narrowed := true }
def IndexAllUptoSaid : Prop := indexAllUptoRow.holds Try.pinned (OpenSpec.upto indexAllSpec)

/-- 'bourselaw08.IndexTwo', WHERE WHAT IT READS IS OF BULK AT MOST 1048576: true; the input reads as it did. -/
def indexTwoUptoRow : OpenClaim := { program := "ytmcaoecmjibegaa", sum := "613e68f45c7ae4575ea4a327d3b19ab92edfdd922333ef1a926f550c928e2a40", func := "bourse/bourselaw08.IndexTwo", spec := "indexTwo", unfollowed := true, recurses := true, apart := false, narrowed := true }
def IndexTwoUptoSaid : Prop := indexTwoUptoRow.holds Try.pinned (OpenSpec.upto indexTwoSpec)

end Rows
end Go.Proofs.Ytmcaoecmjibegaa
