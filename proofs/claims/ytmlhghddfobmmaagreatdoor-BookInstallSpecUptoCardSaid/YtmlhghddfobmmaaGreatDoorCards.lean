/-
  DERIVED. GIVEN WITH THE SEED: THE CARDS: each row of YtmlhghddfobmmaaGreatDoorRows.lean that lists a variable, with what it lists TIED to the program's text (the seventh form; the later family's looks); each row that meets fmt, with fmt's text TOLD by the authors' own Lean function (tested against real Go, not proved from fmt's source: count such statements apart). THE CARD IS WHAT COUNTS. Prove the row's statement (the work); the ties are given (YtmlhghddfobmmaaGreatDoorTie.lean); close each card by the builder's one call (the guide's Derived/Test/ToyasCard.lean, 'card_holds'). Laid BY PROGRAM, IN A SANDBOX (cutbox-door.mjs). By AI agents, Wed Nov 11 2026. No macro, syntax, notation, axiom, sorry.
-/
import Derived.Test.YtmlhghddfobmmaaGreatDoorRows
import GoSem.ClaimSeven
namespace Go.Proofs.YtmlhghddfobmmaaGreatDoor
namespace Rows

/-- THE TIED CARD OF 'sizarlaw14.BookInstallSpec'. -/
def bookInstallSpecCard : Claim7 := { stood := { row := bookInstallSpecRow, standIns := [], harness := (true, "820569908eeee29bfb57ab197e6c4e42187f44ca2804ec639368d76df583f164"), looks := true }, kinds := [], alts := [], laidByText := true, laidKinds := [.funcs], laidTests := true, laidLooks := .later }
def BookInstallSpecCardSaid : Prop := Claim7.holds Tryz.pinned (.plain (OpenSpec.ofChange bookInstallSpecSpec)) bookInstallSpecCard

/-- THE TIED CARD OF 'sizarlaw14.BookEqualSpec'. -/
def bookEqualSpecCard : Claim7 := { stood := { row := bookEqualSpecRow, standIns := [], harness := (true, "820569908eeee29bfb57ab197e6c4e42187f44ca2804ec639368d76df583f164"), looks := true }, kinds := [], alts := [], laidByText := true, laidKinds := [.funcs], laidTests := true, laidLooks := .later }
def BookEqualSpecCardSaid : Prop := Claim7.holds Tryz.pinned (.plain (OpenSpec.ofChange bookEqualSpecSpec)) bookEqualSpecCard

/-- THE TIED CARD OF 'sizarlaw14.BookEquals'. -/
def bookEqualsCard : Claim7 := { stood := { row := bookEqualsRow, standIns := [], harness := (true, "820569908eeee29bfb57ab197e6c4e42187f44ca2804ec639368d76df583f164"), looks := true }, kinds := [], alts := [], laidByText := true, laidKinds := [.funcs], laidTests := true, laidLooks := .later }
def BookEqualsCardSaid : Prop := Claim7.holds Tryz.pinned (.plain (OpenSpec.ofChange bookEqualsSpec)) bookEqualsCard

/-- THE TIED CARD OF 'sizarlaw14.BookNumbers'. -/
def bookNumbersCard : Claim7 := { stood := { row := bookNumbersRow, standIns := [], harness := (true, "820569908eeee29bfb57ab197e6c4e42187f44ca2804ec639368d76df583f164"), looks := true }, kinds := [], alts := [], laidByText := true, laidKinds := [.funcs], laidTests := true, laidLooks := .later }
def BookNumbersCardSaid : Prop := Claim7.holds Tryz.pinned (.plain (OpenSpec.ofChange bookNumbersSpec)) bookNumbersCard

/-- THE TIED CARD OF 'sizarlaw14.BookLookSpec'. -/
def bookLookSpecCard : Claim7 := { stood := { row := bookLookSpecRow, standIns := [], harness := (true, "820569908eeee29bfb57ab197e6c4e42187f44ca2804ec639368d76df583f164"), looks := true }, kinds := [], alts := [], laidByText := true, laidKinds := [.funcs], laidTests := true, laidLooks := .later }
def BookLookSpecCardSaid : Prop := Claim7.holds Tryz.pinned (.plain (OpenSpec.ofChange bookLookSpecSpec)) bookLookSpecCard

/-- THE TIED CARD OF 'sizarlaw14.BookValid'. -/
def bookValidCard : Claim7 := { stood := { row := bookValidRow, standIns := [], harness := (true, "820569908eeee29bfb57ab197e6c4e42187f44ca2804ec639368d76df583f164"), looks := true }, kinds := [], alts := [], laidByText := true, laidKinds := [.funcs], laidTests := true, laidLooks := .later }
def BookValidCardSaid : Prop := Claim7.holds Tryz.pinned (.plain (OpenSpec.ofChange bookValidSpec)) bookValidCard

/-- THE TIED CARD OF 'sizarlaw14.BookInstalled'. -/
def bookInstalledCard : Claim7 := { stood := { row := bookInstalledRow, standIns := [], harness := (true, "820569908eeee29bfb57ab197e6c4e42187f44ca2804ec639368d76df583f164"), looks := true }, kinds := [], alts := [], laidByText := true, laidKinds := [.funcs], laidTests := true, laidLooks := .later }
def BookInstalledCardSaid : Prop := Claim7.holds Tryz.pinned (.plain (OpenSpec.ofChange bookInstalledSpec)) bookInstalledCard

/-- THE TIED CARD OF 'sizarlaw14.BookAlike'. -/
def bookAlikeCard : Claim7 := { stood := { row := bookAlikeRow, standIns := [], harness := (true, "820569908eeee29bfb57ab197e6c4e42187f44ca2804ec639368d76df583f164"), looks := true }, kinds := [], alts := [], laidByText := true, laidKinds := [.funcs], laidTests := true, laidLooks := .later }
def BookAlikeCardSaid : Prop := Claim7.holds Tryz.pinned (.plain (OpenSpec.ofChange bookAlikeSpec)) bookAlikeCard

/-- THE SECOND FORM's CARD OF 'sizarlaw14.BookInstallSpec'. -/
def bookInstallSpecUptoCard : Claim7 := { stood := { row := bookInstallSpecUptoRow, standIns := [], harness := (true, "820569908eeee29bfb57ab197e6c4e42187f44ca2804ec639368d76df583f164"), looks := true }, kinds := [], alts := [], laidByText := true, laidKinds := [.funcs], laidTests := true, laidLooks := .later }
def BookInstallSpecUptoCardSaid : Prop := Claim7.holds Tryz.pinned (.plain (OpenSpec.upto bookInstallSpecSpec)) bookInstallSpecUptoCard

/-- THE SECOND FORM's CARD OF 'sizarlaw14.BookEqualSpec'. -/
def bookEqualSpecUptoCard : Claim7 := { stood := { row := bookEqualSpecUptoRow, standIns := [], harness := (true, "820569908eeee29bfb57ab197e6c4e42187f44ca2804ec639368d76df583f164"), looks := true }, kinds := [], alts := [], laidByText := true, laidKinds := [.funcs], laidTests := true, laidLooks := .later }
def BookEqualSpecUptoCardSaid : Prop := Claim7.holds Tryz.pinned (.plain (OpenSpec.upto bookEqualSpecSpec)) bookEqualSpecUptoCard

/-- THE SECOND FORM's CARD OF 'sizarlaw14.BookEquals'. -/
def bookEqualsUptoCard : Claim7 := { stood := { row := bookEqualsUptoRow, standIns := [], harness := (true, "820569908eeee29bfb57ab197e6c4e42187f44ca2804ec639368d76df583f164"), looks := true }, kinds := [], alts := [], laidByText := true, laidKinds := [.funcs], laidTests := true, laidLooks := .later }
def BookEqualsUptoCardSaid : Prop := Claim7.holds Tryz.pinned (.plain (OpenSpec.upto bookEqualsSpec)) bookEqualsUptoCard

/-- THE SECOND FORM's CARD OF 'sizarlaw14.BookNumbers'. -/
def bookNumbersUptoCard : Claim7 := { stood := { row := bookNumbersUptoRow, standIns := [], harness := (true, "820569908eeee29bfb57ab197e6c4e42187f44ca2804ec639368d76df583f164"), looks := true }, kinds := [], alts := [], laidByText := true, laidKinds := [.funcs], laidTests := true, laidLooks := .later }
def BookNumbersUptoCardSaid : Prop := Claim7.holds Tryz.pinned (.plain (OpenSpec.upto bookNumbersSpec)) bookNumbersUptoCard

/-- THE SECOND FORM's CARD OF 'sizarlaw14.BookLookSpec'. -/
def bookLookSpecUptoCard : Claim7 := { stood := { row := bookLookSpecUptoRow, standIns := [], harness := (true, "820569908eeee29bfb57ab197e6c4e42187f44ca2804ec639368d76df583f164"), looks := true }, kinds := [], alts := [], laidByText := true, laidKinds := [.funcs], laidTests := true, laidLooks := .later }
def BookLookSpecUptoCardSaid : Prop := Claim7.holds Tryz.pinned (.plain (OpenSpec.upto bookLookSpecSpec)) bookLookSpecUptoCard

/-- THE SECOND FORM's CARD OF 'sizarlaw14.BookValid'. -/
def bookValidUptoCard : Claim7 := { stood := { row := bookValidUptoRow, standIns := [], harness := (true, "820569908eeee29bfb57ab197e6c4e42187f44ca2804ec639368d76df583f164"), looks := true }, kinds := [], alts := [], laidByText := true, laidKinds := [.funcs], laidTests := true, laidLooks := .later }
def BookValidUptoCardSaid : Prop := Claim7.holds Tryz.pinned (.plain (OpenSpec.upto bookValidSpec)) bookValidUptoCard

/-- THE SECOND FORM's CARD OF 'sizarlaw14.BookInstalled'. -/
def bookInstalledUptoCard : Claim7 := { stood := { row := bookInstalledUptoRow, standIns := [], harness := (true, "820569908eeee29bfb57ab197e6c4e42187f44ca2804ec639368d76df583f164"), looks := true }, kinds := [], alts := [], laidByText := true, laidKinds := [.funcs], laidTests := true, laidLooks := .later }
def BookInstalledUptoCardSaid : Prop := Claim7.holds Tryz.pinned (.plain (OpenSpec.upto bookInstalledSpec)) bookInstalledUptoCard

/-- THE SECOND FORM's CARD OF 'sizarlaw14.BookAlike'. -/
def bookAlikeUptoCard : Claim7 := { stood := { row := bookAlikeUptoRow, standIns := [], harness := (true, "820569908eeee29bfb57ab197e6c4e42187f44ca2804ec639368d76df583f164"), looks := true }, kinds := [], alts := [], laidByText := true, laidKinds := [.funcs], laidTests := true, laidLooks := .later }
def BookAlikeUptoCardSaid : Prop := Claim7.holds Tryz.pinned (.plain (OpenSpec.upto bookAlikeSpec)) bookAlikeUptoCard
end Rows
end Go.Proofs.YtmlhghddfobmmaaGreatDoor
