/-
  DERIVED. GIVEN WITH THE SEED: THE CARDS: each row of YtkjmomadndmeaaaGreatDoorRows.lean that lists a variable, with what it lists TIED to the program's text (the seventh form; the later family's looks); each row that meets fmt, with fmt's text TOLD by the authors' own Lean function (tested against real Go, not proved from fmt's source: count such statements apart). THE CARD IS WHAT COUNTS. Prove the row's statement (the work); the ties are given (YtkjmomadndmeaaaGreatDoorTie.lean); close each card by the builder's one call (the guide's Derived/Test/ToyasCard.lean, 'card_holds'). Laid BY PROGRAM, IN A SANDBOX (cutbox-door.mjs). By AI agents, Wed Nov 11 2026. No macro, syntax, notation, axiom, sorry.
-/
import Derived.Test.YtkjmomadndmeaaaGreatDoorRows
import GoSem.ClaimSeven
namespace Go.Proofs.YtkjmomadndmeaaaGreatDoor
namespace Rows

/-- THE TIED CARD OF 'sizarlaw28.AdmissionSpec'. -/
def admissionSpecCard : Claim7 := { stood := { row := admissionSpecRow, standIns := [], harness := (true, "ce041589cce08407461416763a5fe601d0f45b4e72c79f26783d58c5f200c39d"), looks := true }, kinds := [], alts := [], laidByText := true, laidKinds := [.funcs], laidTests := true, laidLooks := .later }
def AdmissionSpecCardSaid : Prop := Claim7.holds Tryz.pinned (.plain (OpenSpec.ofChange admissionSpecSpec)) admissionSpecCard

/-- THE TIED CARD OF 'sizarlaw28.AdmissionHolds'. -/
def admissionHoldsCard : Claim7 := { stood := { row := admissionHoldsRow, standIns := [], harness := (true, "ce041589cce08407461416763a5fe601d0f45b4e72c79f26783d58c5f200c39d"), looks := true }, kinds := [], alts := [], laidByText := true, laidKinds := [.funcs], laidTests := true, laidLooks := .later }
def AdmissionHoldsCardSaid : Prop := Claim7.holds Tryz.pinned (.plain (OpenSpec.ofChange admissionHoldsSpec)) admissionHoldsCard

/-- THE TIED CARD OF 'sizarlaw28.AdmissionWhy'. -/
def admissionWhyCard : Claim7 := { stood := { row := admissionWhyRow, standIns := [], harness := (true, "ce041589cce08407461416763a5fe601d0f45b4e72c79f26783d58c5f200c39d"), looks := true }, kinds := [], alts := [], laidByText := true, laidKinds := [.funcs], laidTests := true, laidLooks := .later }
def AdmissionWhyCardSaid : Prop := Claim7.holds Tryz.pinned (.plain (OpenSpec.ofChange admissionWhySpec)) admissionWhyCard

/-- THE TIED CARD OF 'sizarlaw28.AdmissionAlike'. -/
def admissionAlikeCard : Claim7 := { stood := { row := admissionAlikeRow, standIns := [], harness := (true, "ce041589cce08407461416763a5fe601d0f45b4e72c79f26783d58c5f200c39d"), looks := true }, kinds := [], alts := [], laidByText := true, laidKinds := [.funcs], laidTests := true, laidLooks := .later }
def AdmissionAlikeCardSaid : Prop := Claim7.holds Tryz.pinned (.plain (OpenSpec.ofChange admissionAlikeSpec)) admissionAlikeCard

/-- THE TIED CARD OF 'sizarlaw28.AdmissionPetition'. -/
def admissionPetitionCard : Claim7 := { stood := { row := admissionPetitionRow, standIns := [], harness := (true, "ce041589cce08407461416763a5fe601d0f45b4e72c79f26783d58c5f200c39d"), looks := true }, kinds := [], alts := [], laidByText := true, laidKinds := [.funcs], laidTests := true, laidLooks := .later }
def AdmissionPetitionCardSaid : Prop := Claim7.holds Tryz.pinned (.plain (OpenSpec.ofChange admissionPetitionSpec)) admissionPetitionCard

/-- THE TIED CARD OF 'sizarlaw28.AdmissionApartSpec'. -/
def admissionApartSpecCard : Claim7 := { stood := { row := admissionApartSpecRow, standIns := [], harness := (true, "ce041589cce08407461416763a5fe601d0f45b4e72c79f26783d58c5f200c39d"), looks := true }, kinds := [], alts := [], laidByText := true, laidKinds := [.handle, .funcs], laidTests := true, laidLooks := .later }
def AdmissionApartSpecCardSaid : Prop := Claim7.holds Tryz.pinned (.plain (OpenSpec.ofChange admissionApartSpecSpec)) admissionApartSpecCard

/-- THE SECOND FORM's CARD OF 'sizarlaw28.AdmissionSpec'. -/
def admissionSpecUptoCard : Claim7 := { stood := { row := admissionSpecUptoRow, standIns := [], harness := (true, "ce041589cce08407461416763a5fe601d0f45b4e72c79f26783d58c5f200c39d"), looks := true }, kinds := [], alts := [], laidByText := true, laidKinds := [.funcs], laidTests := true, laidLooks := .later }
def AdmissionSpecUptoCardSaid : Prop := Claim7.holds Tryz.pinned (.plain (OpenSpec.upto admissionSpecSpec)) admissionSpecUptoCard

/-- THE SECOND FORM's CARD OF 'sizarlaw28.AdmissionHolds'. -/
def admissionHoldsUptoCard : Claim7 := { stood := { row := admissionHoldsUptoRow, standIns := [], harness := (true, "ce041589cce08407461416763a5fe601d0f45b4e72c79f26783d58c5f200c39d"), looks := true }, kinds := [], alts := [], laidByText := true, laidKinds := [.funcs], laidTests := true, laidLooks := .later }
def AdmissionHoldsUptoCardSaid : Prop := Claim7.holds Tryz.pinned (.plain (OpenSpec.upto admissionHoldsSpec)) admissionHoldsUptoCard

/-- THE SECOND FORM's CARD OF 'sizarlaw28.AdmissionWhy'. -/
def admissionWhyUptoCard : Claim7 := { stood := { row := admissionWhyUptoRow, standIns := [], harness := (true, "ce041589cce08407461416763a5fe601d0f45b4e72c79f26783d58c5f200c39d"), looks := true }, kinds := [], alts := [], laidByText := true, laidKinds := [.funcs], laidTests := true, laidLooks := .later }
def AdmissionWhyUptoCardSaid : Prop := Claim7.holds Tryz.pinned (.plain (OpenSpec.upto admissionWhySpec)) admissionWhyUptoCard

/-- THE SECOND FORM's CARD OF 'sizarlaw28.AdmissionAlike'. -/
def admissionAlikeUptoCard : Claim7 := { stood := { row := admissionAlikeUptoRow, standIns := [], harness := (true, "ce041589cce08407461416763a5fe601d0f45b4e72c79f26783d58c5f200c39d"), looks := true }, kinds := [], alts := [], laidByText := true, laidKinds := [.funcs], laidTests := true, laidLooks := .later }
def AdmissionAlikeUptoCardSaid : Prop := Claim7.holds Tryz.pinned (.plain (OpenSpec.upto admissionAlikeSpec)) admissionAlikeUptoCard

/-- THE SECOND FORM's CARD OF 'sizarlaw28.AdmissionPetition'. -/
def admissionPetitionUptoCard : Claim7 := { stood := { row := admissionPetitionUptoRow, standIns := [], harness := (true, "ce041589cce08407461416763a5fe601d0f45b4e72c79f26783d58c5f200c39d"), looks := true }, kinds := [], alts := [], laidByText := true, laidKinds := [.funcs], laidTests := true, laidLooks := .later }
def AdmissionPetitionUptoCardSaid : Prop := Claim7.holds Tryz.pinned (.plain (OpenSpec.upto admissionPetitionSpec)) admissionPetitionUptoCard

/-- THE SECOND FORM's CARD OF 'sizarlaw28.AdmissionApartSpec'. -/
def admissionApartSpecUptoCard : Claim7 := { stood := { row := admissionApartSpecUptoRow, standIns := [], harness := (true, "ce041589cce08407461416763a5fe601d0f45b4e72c79f26783d58c5f200c39d"), looks := true }, kinds := [], alts := [], laidByText := true, laidKinds := [.handle, .funcs], laidTests := true, laidLooks := .later }
def AdmissionApartSpecUptoCardSaid : Prop := Claim7.holds Tryz.pinned (.plain (OpenSpec.upto admissionApartSpecSpec)) admissionApartSpecUptoCard
end Rows
end Go.Proofs.YtkjmomadndmeaaaGreatDoor
