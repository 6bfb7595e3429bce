/-
  DERIVED. GIVEN WITH THE SEED: THE CARDS: each row of YtfbjlakcolipaaaDoorRows.lean that lists a variable, with what it lists TIED to the program's text (the seventh form; the later family's looks); each row that meets fmt, with fmt's text TOLD by the authors' own Lean function (tested against real Go, not proved from fmt's source: count such statements apart). THE CARD IS WHAT COUNTS. Prove the row's statement (the work); the ties are given (YtfbjlakcolipaaaDoorTie.lean); close each card by the builder's one call (the guide's Derived/Test/ToyasCard.lean, 'card_holds'). Laid BY PROGRAM, IN A SANDBOX (cutbox-door.mjs). By AI agents, Wed Nov 11 2026. No macro, syntax, notation, axiom, sorry.
-/
import Derived.Test.YtfbjlakcolipaaaDoorRows
import GoSem.ClaimSeven
namespace Go.Proofs.YtfbjlakcolipaaaDoor
namespace Rows

/-- THE TIED CARD OF 'sizarlaw25.SeatsCapacity'. -/
def seatsCapacityCard : Claim7 := { stood := { row := seatsCapacityRow, standIns := [], harness := (true, "ea48bd483f58081626cceaa1b65340b9a4f7388038406e1f9b78b818464de938"), looks := true }, kinds := [], alts := [], laidByText := true, laidKinds := [.handle], laidTests := true, laidLooks := .later }
def SeatsCapacityCardSaid : Prop := Claim7.holds Tryd.pinned (.plain (OpenSpec.ofChange seatsCapacitySpec)) seatsCapacityCard

/-- THE TIED CARD OF 'sizarlaw25.SeatsFree'. -/
def seatsFreeCard : Claim7 := { stood := { row := seatsFreeRow, standIns := [], harness := (true, "ea48bd483f58081626cceaa1b65340b9a4f7388038406e1f9b78b818464de938"), looks := true }, kinds := [], alts := [], laidByText := true, laidKinds := [.handle], laidTests := true, laidLooks := .later }
def SeatsFreeCardSaid : Prop := Claim7.holds Tryd.pinned (.plain (OpenSpec.ofChange seatsFreeSpec)) seatsFreeCard

/-- THE TIED CARD OF 'sizarlaw25.SeatsBack'. -/
def seatsBackCard : Claim7 := { stood := { row := seatsBackRow, standIns := [], harness := (true, "ea48bd483f58081626cceaa1b65340b9a4f7388038406e1f9b78b818464de938"), looks := true }, kinds := [], alts := [], laidByText := true, laidKinds := [.handle], laidTests := true, laidLooks := .later }
def SeatsBackCardSaid : Prop := Claim7.holds Tryd.pinned (.plain (OpenSpec.ofChange seatsBackSpec)) seatsBackCard

/-- THE TIED CARD OF 'sizarlaw25.SeatsReserved'. -/
def seatsReservedCard : Claim7 := { stood := { row := seatsReservedRow, standIns := [], harness := (true, "ea48bd483f58081626cceaa1b65340b9a4f7388038406e1f9b78b818464de938"), looks := true }, kinds := [], alts := [], laidByText := true, laidKinds := [.handle], laidTests := true, laidLooks := .later }
def SeatsReservedCardSaid : Prop := Claim7.holds Tryd.pinned (.plain (OpenSpec.ofChange seatsReservedSpec)) seatsReservedCard

/-- THE TIED CARD OF 'sizarlaw25.SeatsTime'. -/
def seatsTimeCard : Claim7 := { stood := { row := seatsTimeRow, standIns := [], harness := (true, "ea48bd483f58081626cceaa1b65340b9a4f7388038406e1f9b78b818464de938"), looks := true }, kinds := [], alts := [], laidByText := true, laidKinds := [.handle], laidTests := true, laidLooks := .later }
def SeatsTimeCardSaid : Prop := Claim7.holds Tryd.pinned (.plain (OpenSpec.ofChange seatsTimeSpec)) seatsTimeCard

/-- THE TIED CARD OF 'sizarlaw25.SeatsOthers'. -/
def seatsOthersCard : Claim7 := { stood := { row := seatsOthersRow, standIns := [], harness := (true, "ea48bd483f58081626cceaa1b65340b9a4f7388038406e1f9b78b818464de938"), looks := true }, kinds := [], alts := [], laidByText := true, laidKinds := [.handle], laidTests := true, laidLooks := .later }
def SeatsOthersCardSaid : Prop := Claim7.holds Tryd.pinned (.plain (OpenSpec.ofChange seatsOthersSpec)) seatsOthersCard

/-- THE SECOND FORM's CARD OF 'sizarlaw25.SeatsCapacity'. -/
def seatsCapacityUptoCard : Claim7 := { stood := { row := seatsCapacityUptoRow, standIns := [], harness := (true, "ea48bd483f58081626cceaa1b65340b9a4f7388038406e1f9b78b818464de938"), looks := true }, kinds := [], alts := [], laidByText := true, laidKinds := [.handle], laidTests := true, laidLooks := .later }
def SeatsCapacityUptoCardSaid : Prop := Claim7.holds Tryd.pinned (.plain (OpenSpec.upto seatsCapacitySpec)) seatsCapacityUptoCard

/-- THE SECOND FORM's CARD OF 'sizarlaw25.SeatsFree'. -/
def seatsFreeUptoCard : Claim7 := { stood := { row := seatsFreeUptoRow, standIns := [], harness := (true, "ea48bd483f58081626cceaa1b65340b9a4f7388038406e1f9b78b818464de938"), looks := true }, kinds := [], alts := [], laidByText := true, laidKinds := [.handle], laidTests := true, laidLooks := .later }
def SeatsFreeUptoCardSaid : Prop := Claim7.holds Tryd.pinned (.plain (OpenSpec.upto seatsFreeSpec)) seatsFreeUptoCard

/-- THE SECOND FORM's CARD OF 'sizarlaw25.SeatsBack'. -/
def seatsBackUptoCard : Claim7 := { stood := { row := seatsBackUptoRow, standIns := [], harness := (true, "ea48bd483f58081626cceaa1b65340b9a4f7388038406e1f9b78b818464de938"), looks := true }, kinds := [], alts := [], laidByText := true, laidKinds := [.handle], laidTests := true, laidLooks := .later }
def SeatsBackUptoCardSaid : Prop := Claim7.holds Tryd.pinned (.plain (OpenSpec.upto seatsBackSpec)) seatsBackUptoCard

/-- THE SECOND FORM's CARD OF 'sizarlaw25.SeatsReserved'. -/
def seatsReservedUptoCard : Claim7 := { stood := { row := seatsReservedUptoRow, standIns := [], harness := (true, "ea48bd483f58081626cceaa1b65340b9a4f7388038406e1f9b78b818464de938"), looks := true }, kinds := [], alts := [], laidByText := true, laidKinds := [.handle], laidTests := true, laidLooks := .later }
def SeatsReservedUptoCardSaid : Prop := Claim7.holds Tryd.pinned (.plain (OpenSpec.upto seatsReservedSpec)) seatsReservedUptoCard

/-- THE SECOND FORM's CARD OF 'sizarlaw25.SeatsTime'. -/
def seatsTimeUptoCard : Claim7 := { stood := { row := seatsTimeUptoRow, standIns := [], harness := (true, "ea48bd483f58081626cceaa1b65340b9a4f7388038406e1f9b78b818464de938"), looks := true }, kinds := [], alts := [], laidByText := true, laidKinds := [.handle], laidTests := true, laidLooks := .later }
def SeatsTimeUptoCardSaid : Prop := Claim7.holds Tryd.pinned (.plain (OpenSpec.upto seatsTimeSpec)) seatsTimeUptoCard

/-- THE SECOND FORM's CARD OF 'sizarlaw25.SeatsOthers'. -/
def seatsOthersUptoCard : Claim7 := { stood := { row := seatsOthersUptoRow, standIns := [], harness := (true, "ea48bd483f58081626cceaa1b65340b9a4f7388038406e1f9b78b818464de938"), looks := true }, kinds := [], alts := [], laidByText := true, laidKinds := [.handle], laidTests := true, laidLooks := .later }
def SeatsOthersUptoCardSaid : Prop := Claim7.holds Tryd.pinned (.plain (OpenSpec.upto seatsOthersSpec)) seatsOthersUptoCard
end Rows
end Go.Proofs.YtfbjlakcolipaaaDoor
