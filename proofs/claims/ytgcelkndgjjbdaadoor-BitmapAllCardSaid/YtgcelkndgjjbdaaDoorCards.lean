/-
  DERIVED. GIVEN WITH THE SEED: THE CARDS: each row of YtgcelkndgjjbdaaDoorRows.lean that lists a variable, with what it lists TIED to the program's text (the seventh form; the later family's looks); each row that meets fmt, with fmt's text TOLD by the authors' own Lean function (tested against real Go, not proved from fmt's source: count such statements apart). THE CARD IS WHAT COUNTS. Prove the row's statement (the work); the ties are given (YtgcelkndgjjbdaaDoorTie.lean); close each card by the builder's one call (the guide's Derived/Test/ToyasCard.lean, 'card_holds'). Laid BY PROGRAM, IN A SANDBOX (cutbox-door.mjs). By AI agents, Wed Nov 11 2026. No macro, syntax, notation, axiom, sorry.
-/
import Derived.Test.YtgcelkndgjjbdaaDoorRows
import GoSem.ClaimSeven
namespace Go.Proofs.YtgcelkndgjjbdaaDoor
namespace Rows

/-- THE TIED CARD OF 'bourselaw06.BitmapCounts'. -/
def bitmapCountsCard : Claim7 := { stood := { row := bitmapCountsRow, standIns := [], harness := (true, "50cf126836b7356f95418a44c1e55bb2c027b703e58d359a01fbd209aa7fe08c"), looks := false }, kinds := [], alts := [], laidByText := true, laidKinds := [.data], laidTests := true, laidLooks := .later }
def BitmapCountsCardSaid : Prop := Claim7.holds Tryd.pinned (.plain (OpenSpec.ofChange bitmapCountsSpec)) bitmapCountsCard

/-- THE TIED CARD OF 'bourselaw06.BitmapNear'. -/
def bitmapNearCard : Claim7 := { stood := { row := bitmapNearRow, standIns := [], harness := (true, "50cf126836b7356f95418a44c1e55bb2c027b703e58d359a01fbd209aa7fe08c"), looks := false }, kinds := [], alts := [], laidByText := true, laidKinds := [.data], laidTests := true, laidLooks := .later }
def BitmapNearCardSaid : Prop := Claim7.holds Tryd.pinned (.plain (OpenSpec.ofChange bitmapNearSpec)) bitmapNearCard

/-- THE TIED CARD OF 'bourselaw06.BitmapNumbers'. -/
def bitmapNumbersCard : Claim7 := { stood := { row := bitmapNumbersRow, standIns := [], harness := (true, "50cf126836b7356f95418a44c1e55bb2c027b703e58d359a01fbd209aa7fe08c"), looks := false }, kinds := [], alts := [], laidByText := true, laidKinds := [.data], laidTests := true, laidLooks := .later }
def BitmapNumbersCardSaid : Prop := Claim7.holds Tryd.pinned (.plain (OpenSpec.ofChange bitmapNumbersSpec)) bitmapNumbersCard

/-- THE TIED CARD OF 'bourselaw06.BitmapAll'. -/
def bitmapAllCard : Claim7 := { stood := { row := bitmapAllRow, standIns := [], harness := (true, "50cf126836b7356f95418a44c1e55bb2c027b703e58d359a01fbd209aa7fe08c"), looks := false }, kinds := [], alts := [], laidByText := true, laidKinds := [.data], laidTests := true, laidLooks := .later }
def BitmapAllCardSaid : Prop := Claim7.holds Tryd.pinned (.plain (OpenSpec.ofChange bitmapAllSpec)) bitmapAllCard

/-- THE SECOND FORM's CARD OF 'bourselaw06.BitmapCounts'. -/
def bitmapCountsUptoCard : Claim7 := { stood := { row := bitmapCountsUptoRow, standIns := [], harness := (true, "50cf126836b7356f95418a44c1e55bb2c027b703e58d359a01fbd209aa7fe08c"), looks := false }, kinds := [], alts := [], laidByText := true, laidKinds := [.data], laidTests := true, laidLooks := .later }
def BitmapCountsUptoCardSaid : Prop := Claim7.holds Tryd.pinned (.plain (OpenSpec.upto bitmapCountsSpec)) bitmapCountsUptoCard

/-- THE SECOND FORM's CARD OF 'bourselaw06.BitmapNear'. -/
def bitmapNearUptoCard : Claim7 := { stood := { row := bitmapNearUptoRow, standIns := [], harness := (true, "50cf126836b7356f95418a44c1e55bb2c027b703e58d359a01fbd209aa7fe08c"), looks := false }, kinds := [], alts := [], laidByText := true, laidKinds := [.data], laidTests := true, laidLooks := .later }
def BitmapNearUptoCardSaid : Prop := Claim7.holds Tryd.pinned (.plain (OpenSpec.upto bitmapNearSpec)) bitmapNearUptoCard

/-- THE SECOND FORM's CARD OF 'bourselaw06.BitmapNumbers'. -/
def bitmapNumbersUptoCard : Claim7 := { stood := { row := bitmapNumbersUptoRow, standIns := [], harness := (true, "50cf126836b7356f95418a44c1e55bb2c027b703e58d359a01fbd209aa7fe08c"), looks := false }, kinds := [], alts := [], laidByText := true, laidKinds := [.data], laidTests := true, laidLooks := .later }
def BitmapNumbersUptoCardSaid : Prop := Claim7.holds Tryd.pinned (.plain (OpenSpec.upto bitmapNumbersSpec)) bitmapNumbersUptoCard

/-- THE SECOND FORM's CARD OF 'bourselaw06.BitmapAll'. -/
def bitmapAllUptoCard : Claim7 := { stood := { row := bitmapAllUptoRow, standIns := [], harness := (true, "50cf126836b7356f95418a44c1e55bb2c027b703e58d359a01fbd209aa7fe08c"), looks := false }, kinds := [], alts := [], laidByText := true, laidKinds := [.data], laidTests := true, laidLooks := .later }
def BitmapAllUptoCardSaid : Prop := Claim7.holds Tryd.pinned (.plain (OpenSpec.upto bitmapAllSpec)) bitmapAllUptoCard
end Rows
end Go.Proofs.YtgcelkndgjjbdaaDoor
