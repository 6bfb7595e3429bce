/-
  NARROWER THAN 'FOR EVERY INPUT', by the rows' own cells (each row's printed sentence says how): SeatsCapacity: laid · SeatsFree: laid · SeatsBack: laid · SeatsReserved: laid · SeatsTime: laid · SeatsOthers: laid.
  DERIVED. THE GIVEN ROWS OF THIS SEAT. 6 by the template 'for every input the law returns true; each argument reads behind the call as it read before'; 0 by the template 'total and deterministic' (their statements: YtfbjlakcolipaaaDoorTotals.lean).
  GIVEN WITH THE SEED: the statements are not yours to turn. If you find one false, say at which input.
  Laid BY PROGRAM, IN A SANDBOX (cutbox-rows.mjs): the forced cells as the released guide's own fill.sh prints them over the translation c689490cf298dfe5… (all of the seat's roots in one cut). By AI agents, Wed Nov 11 2026. No macro, syntax, notation, axiom, sorry.
-/
import Derived.Test.YtfbjlakcolipaaaDoorChecked
import GoSem.Claim
import GoSem.ClaimJoined
import GoSem.ClaimMapViews
import Derived.JoinedTies
import Derived.KernelRfl
namespace Go.Proofs.YtfbjlakcolipaaaDoor
/- THE CELL 'sum', in the pinned program and in every row, IS THE sha256 OF THE DUMP (.gsa) THAT YtfbjlakcolipaaaDoorProg.lean LOADS. Nothing in Lean hashes anything: it is a label: what it is worth is what the hold of that sum in a sandbox is worth. -/
noncomputable def Tryd.pinned : Pinned := { name := "ytfbjlakcolipaaadoor", sum := "c689490cf298dfe56cdd058bf46e68d1eb356c480e56987f0389a3daa0ec3fd5", checked := Tryd.checked }
namespace Rows
def none {H : Type} : Left H := { results := [], args := [] }

/- WHAT THE LISTED PACKAGE-LEVEL VARIABLES READ AS WHEN THE CALL BEGINS. Each datum BY PROGRAM (the guide's laid-datum.mjs) off the statement by which the dump's own 'gosem.cut.vars' lays the variable. In a bare row this is a premise. The card (YtfbjlakcolipaaaDoorCards.lean) ties it to the program's text. -/
def laid_errors_errorType {H : Type} : DataW H := .iface "internal/reflectlite.rtype" (.agg [.ptr (.lit (.string [101, 114, 114, 111, 114]))])

/-- 'sizarlaw25.SeatsCapacity': WHATEVER THE INPUT: true; the input reads as it did. -/
def seatsCapacitySpec : ChangeSpec := { name := "seatsCapacity", fn := fun _ => fun
  | [d1, d2] => { results := [.lit (.bool true)], args := [d1, d2] }
  | _ => none }
def seatsCapacityRow : OpenClaim := { program := "ytfbjlakcolipaaadoor", sum := "c689490cf298dfe56cdd058bf46e68d1eb356c480e56987f0389a3daa0ec3fd5", func := "sizar/sizarlaw25.SeatsCapacity", spec := "seatsCapacity", inPlace := ["internal/reflectlite.ValueOf", "(internal/reflectlite.Value).Type", "(internal/reflectlite.Value).IsNil", "internal/reflectlite.TypeOf", "(internal/reflectlite.Value).Elem", "(internal/reflectlite.Value).Set", "slices.overlaps[sizar/api.Seat]"], unfollowed := true, recurses := true, named := ["errors.errorType"], apart := false, laid := [("errors.errorType", laid_errors_errorType)] }
def SeatsCapacitySaid : Prop := seatsCapacityRow.holds Tryd.pinned (OpenSpec.ofChange seatsCapacitySpec)

/-- ITS FALSE NEIGHBOUR: 'it returns false'. Refute it at one input. -/
def seatsCapacityWrong : ChangeSpec := { name := "seatsCapacity", fn := fun _ => fun
  | [d1, d2] => { results := [.lit (.bool false)], args := [d1, d2] }
  | _ => none }
def SeatsCapacityWrongFalsely : Prop := seatsCapacityRow.holds Tryd.pinned (OpenSpec.ofChange seatsCapacityWrong)

/-- 'sizarlaw25.SeatsFree': WHATEVER THE INPUT: true; the input reads as it did. -/
def seatsFreeSpec : ChangeSpec := { name := "seatsFree", fn := fun _ => fun
  | [d1, d2, d3, d4, d5] => { results := [.lit (.bool true)], args := [d1, d2, d3, d4, d5] }
  | _ => none }
def seatsFreeRow : OpenClaim := { program := "ytfbjlakcolipaaadoor", sum := "c689490cf298dfe56cdd058bf46e68d1eb356c480e56987f0389a3daa0ec3fd5", func := "sizar/sizarlaw25.SeatsFree", spec := "seatsFree", inPlace := ["internal/reflectlite.ValueOf", "(internal/reflectlite.Value).Type", "(internal/reflectlite.Value).IsNil", "internal/reflectlite.TypeOf", "(internal/reflectlite.Value).Elem", "(internal/reflectlite.Value).Set", "slices.overlaps[sizar/api.Seat]"], unfollowed := true, recurses := true, named := ["errors.errorType"], apart := false, laid := [("errors.errorType", laid_errors_errorType)] }
def SeatsFreeSaid : Prop := seatsFreeRow.holds Tryd.pinned (OpenSpec.ofChange seatsFreeSpec)

/-- ITS FALSE NEIGHBOUR: 'it returns false'. Refute it at one input. -/
def seatsFreeWrong : ChangeSpec := { name := "seatsFree", fn := fun _ => fun
  | [d1, d2, d3, d4, d5] => { results := [.lit (.bool false)], args := [d1, d2, d3, d4, d5] }
  | _ => none }
def SeatsFreeWrongFalsely : Prop := seatsFreeRow.holds Tryd.pinned (OpenSpec.ofChange seatsFreeWrong)

/-- 'sizarlaw25.SeatsBack': WHATEVER THE INPUT: true; the input reads as it did. -/
def seatsBackSpec : ChangeSpec := { name := "seatsBack", fn := fun _ => fun
  | [d1, d2, d3, d4, d5] => { results := [.lit (.bool true)], args := [d1, d2, d3, d4, d5] }
  | _ => none }
def seatsBackRow : OpenClaim := { program := "ytfbjlakcolipaaadoor", sum := "c689490cf298dfe56cdd058bf46e68d1eb356c480e56987f0389a3daa0ec3fd5", func := "sizar/sizarlaw25.SeatsBack", spec := "seatsBack", inPlace := ["internal/reflectlite.ValueOf", "(internal/reflectlite.Value).Type", "(internal/reflectlite.Value).IsNil", "internal/reflectlite.TypeOf", "(internal/reflectlite.Value).Elem", "(internal/reflectlite.Value).Set", "slices.overlaps[sizar/api.Seat]"], unfollowed := true, recurses := true, named := ["errors.errorType"], apart := false, laid := [("errors.errorType", laid_errors_errorType)] }
def SeatsBackSaid : Prop := seatsBackRow.holds Tryd.pinned (OpenSpec.ofChange seatsBackSpec)

/-- ITS FALSE NEIGHBOUR: 'it returns false'. Refute it at one input. -/
def seatsBackWrong : ChangeSpec := { name := "seatsBack", fn := fun _ => fun
  | [d1, d2, d3, d4, d5] => { results := [.lit (.bool false)], args := [d1, d2, d3, d4, d5] }
  | _ => none }
def SeatsBackWrongFalsely : Prop := seatsBackRow.holds Tryd.pinned (OpenSpec.ofChange seatsBackWrong)

/-- 'sizarlaw25.SeatsReserved': WHATEVER THE INPUT: true; the input reads as it did. -/
def seatsReservedSpec : ChangeSpec := { name := "seatsReserved", fn := fun _ => fun
  | [d1, d2, d3, d4, d5] => { results := [.lit (.bool true)], args := [d1, d2, d3, d4, d5] }
  | _ => none }
def seatsReservedRow : OpenClaim := { program := "ytfbjlakcolipaaadoor", sum := "c689490cf298dfe56cdd058bf46e68d1eb356c480e56987f0389a3daa0ec3fd5", func := "sizar/sizarlaw25.SeatsReserved", spec := "seatsReserved", inPlace := ["internal/reflectlite.ValueOf", "(internal/reflectlite.Value).Type", "(internal/reflectlite.Value).IsNil", "internal/reflectlite.TypeOf", "(internal/reflectlite.Value).Elem", "(internal/reflectlite.Value).Set", "slices.overlaps[sizar/api.Seat]"], unfollowed := true, recurses := true, named := ["errors.errorType"], apart := false, laid := [("errors.errorType", laid_errors_errorType)] }
def SeatsReservedSaid : Prop := seatsReservedRow.holds Tryd.pinned (OpenSpec.ofChange seatsReservedSpec)

/-- ITS FALSE NEIGHBOUR: 'it returns false'. Refute it at one input. -/
def seatsReservedWrong : ChangeSpec := { name := "seatsReserved", fn := fun _ => fun
  | [d1, d2, d3, d4, d5] => { results := [.lit (.bool false)], args := [d1, d2, d3, d4, d5] }
  | _ => none }
def SeatsReservedWrongFalsely : Prop := seatsReservedRow.holds Tryd.pinned (OpenSpec.ofChange seatsReservedWrong)

/-- 'sizarlaw25.SeatsTime': WHATEVER THE INPUT: true; the input reads as it did. -/
def seatsTimeSpec : ChangeSpec := { name := "seatsTime", fn := fun _ => fun
  | [d1, d2, d3, d4, d5, d6] => { results := [.lit (.bool true)], args := [d1, d2, d3, d4, d5, d6] }
  | _ => none }
def seatsTimeRow : OpenClaim := { program := "ytfbjlakcolipaaadoor", sum := "c689490cf298dfe56cdd058bf46e68d1eb356c480e56987f0389a3daa0ec3fd5", func := "sizar/sizarlaw25.SeatsTime", spec := "seatsTime", inPlace := ["internal/reflectlite.ValueOf", "(internal/reflectlite.Value).Type", "(internal/reflectlite.Value).IsNil", "internal/reflectlite.TypeOf", "(internal/reflectlite.Value).Elem", "(internal/reflectlite.Value).Set", "slices.overlaps[sizar/api.Seat]"], unfollowed := true, recurses := true, named := ["errors.errorType"], apart := false, laid := [("errors.errorType", laid_errors_errorType)] }
def SeatsTimeSaid : Prop := seatsTimeRow.holds Tryd.pinned (OpenSpec.ofChange seatsTimeSpec)

/-- ITS FALSE NEIGHBOUR: 'it returns false'. Refute it at one input. -/
def seatsTimeWrong : ChangeSpec := { name := "seatsTime", fn := fun _ => fun
  | [d1, d2, d3, d4, d5, d6] => { results := [.lit (.bool false)], args := [d1, d2, d3, d4, d5, d6] }
  | _ => none }
def SeatsTimeWrongFalsely : Prop := seatsTimeRow.holds Tryd.pinned (OpenSpec.ofChange seatsTimeWrong)

/-- 'sizarlaw25.SeatsOthers': WHATEVER THE INPUT: true; the input reads as it did. -/
def seatsOthersSpec : ChangeSpec := { name := "seatsOthers", fn := fun _ => fun
  | [d1, d2, d3, d4, d5] => { results := [.lit (.bool true)], args := [d1, d2, d3, d4, d5] }
  | _ => none }
def seatsOthersRow : OpenClaim := { program := "ytfbjlakcolipaaadoor", sum := "c689490cf298dfe56cdd058bf46e68d1eb356c480e56987f0389a3daa0ec3fd5", func := "sizar/sizarlaw25.SeatsOthers", spec := "seatsOthers", inPlace := ["internal/reflectlite.ValueOf", "(internal/reflectlite.Value).Type", "(internal/reflectlite.Value).IsNil", "internal/reflectlite.TypeOf", "(internal/reflectlite.Value).Elem", "(internal/reflectlite.Value).Set", "slices.overlaps[sizar/api.Seat]"], unfollowed := true, recurses := true, named := ["errors.errorType"], apart := false, laid := [("errors.errorType", laid_errors_errorType)] }
def SeatsOthersSaid : Prop := seatsOthersRow.holds Tryd.pinned (OpenSpec.ofChange seatsOthersSpec)

/-- ITS FALSE NEIGHBOUR: 'it returns false'. Refute it at one input. -/
def seatsOthersWrong : ChangeSpec := { name := "seatsOthers", fn := fun _ => fun
  | [d1, d2, d3, d4, d5] => { results := [.lit (.bool false)], args := [d1, d2, d3, d4, d5] }
  | _ => none }
def SeatsOthersWrongFalsely : Prop := seatsOthersRow.holds Tryd.pinned (OpenSpec.ofChange seatsOthersWrong)

/- THE SECOND FORM. 'bulk': how many values and letters a reading holds, each counted each time it is reached (what is shared counts as often as it is met; a slice's spare places count too). A statement '..UptoSaid' is the law's where the arguments, and the package variables that the reading takes, are together of bulk at most 1048576: NARROWER than '..Said'. Prove '..Said' where nothing that the law and all that it calls make is longer than what came in: it says more and counts as full. Else prove '..UptoSaid'. A law counts once. -/
mutual
def uptoBulk {H : Type} : DataW H → Nat
  | .lit (.string bytes) => bytes.length + 1
  | .lit _ => 1
  | .nil => 1
  | .ptr d => uptoBulk d + 1
  | .slice elems spare => uptoBulkAll elems + uptoBulkAll spare + 1
  | .agg parts => uptoBulkAll parts + 1
  | .iface _ d => uptoBulk d + 1
  | .map entries => uptoBulkEntries entries + 1
  | .held _ => 1
def uptoBulkAll {H : Type} : List (DataW H) → Nat
  | [] => 0
  | d :: r => uptoBulk d + uptoBulkAll r
def uptoBulkEntries {H : Type} : List (Lit × DataW H) → Nat
  | [] => 0
  | x :: r => uptoBulkEntry x + uptoBulkEntries r
def uptoBulkEntry {H : Type} : Lit × DataW H → Nat
  | (.string bytes, d) => bytes.length + uptoBulk d + 1
  | (_, d) => uptoBulk d + 1
 end
def uptoSmall : (H : Type) → List (DataW H) → Bool := fun _ ds => decide (uptoBulkAll ds ≤ 1048576)
def OpenSpec.upto (s : _root_.Go.ChangeSpec) : _root_.Go.OpenSpec := { _root_.Go.OpenSpec.ofChange s with cond := some uptoSmall }

/-- 'sizarlaw25.SeatsCapacity', WHERE WHAT IT READS IS OF BULK AT MOST 1048576: true; the input reads as it did. -/
def seatsCapacityUptoRow : OpenClaim := { program := "ytfbjlakcolipaaadoor", sum := "c689490cf298dfe56cdd058bf46e68d1eb356c480e56987f0389a3daa0ec3fd5", func := "sizar/sizarlaw25.SeatsCapacity", spec := "seatsCapacity", inPlace := ["internal/reflectlite.ValueOf", "(internal/reflectlite.Value).Type", "(internal/reflectlite.Value).IsNil", "internal/reflectlite.TypeOf", "(internal/reflectlite.Value).Elem", "(internal/reflectlite.Value).Set", "slices.overlaps[sizar/api.Seat]"], unfollowed := true, recurses := true, named := ["errors.errorType"], apart := false, laid := [("errors.errorType", laid_errors_errorType)], narrowed := true }
def SeatsCapacityUptoSaid : Prop := seatsCapacityUptoRow.holds Tryd.pinned (OpenSpec.upto seatsCapacitySpec)

/-- 'sizarlaw25.SeatsFree', WHERE WHAT IT READS IS OF BULK AT MOST 1048576: true; the input reads as it did. -/
def seatsFreeUptoRow : OpenClaim := { program := "ytfbjlakcolipaaadoor", sum := "c689490cf298dfe56cdd058bf46e68d1eb356c480e56987f0389a3daa0ec3fd5", func := "sizar/sizarlaw25.SeatsFree", spec := "seatsFree", inPlace := ["internal/reflectlite.ValueOf", "(internal/reflectlite.Value).Type", "(internal/reflectlite.Value).IsNil", "internal/reflectlite.TypeOf", "(internal/reflectlite.Value).Elem", "(internal/reflectlite.Value).Set", "slices.overlaps[sizar/api.Seat]"], unfollowed := true, recurses := true, named := ["errors.errorType"], apart := false, laid := [("errors.errorType", laid_errors_errorType)], narrowed := true }
def SeatsFreeUptoSaid : Prop := seatsFreeUptoRow.holds Tryd.pinned (OpenSpec.upto seatsFreeSpec)

/-- 'sizarlaw25.SeatsBack', WHERE WHAT IT READS IS OF BULK AT MOST 1048576: true; the input reads as it did. -/
def seatsBackUptoRow : OpenClaim := { program := "ytfbjlakcolipaaadoor", sum := "c689490cf298dfe56cdd058bf46e68d1eb356c480e56987f0389a3daa0ec3fd5", func := "sizar/sizarlaw25.SeatsBack", spec := "seatsBack", inPlace := ["internal/reflectlite.ValueOf", "(internal/reflectlite.Value).Type", "(internal/reflectlite.Value).IsNil", "internal/reflectlite.TypeOf", "(internal/reflectlite.Value).Elem", "(internal/reflectlite.Value).Set", "slices.overlaps[sizar/api.Seat]"], unfollowed := true, recurses := true, named := ["errors.errorType"], apart := false, laid := [("errors.errorType", laid_errors_errorType)], narrowed := true }
def SeatsBackUptoSaid : Prop := seatsBackUptoRow.holds Tryd.pinned (OpenSpec.upto seatsBackSpec)

/-- 'sizarlaw25.SeatsReserved', WHERE WHAT IT READS IS OF BULK AT MOST 1048576: true; the input reads as it did. -/
def seatsReservedUptoRow : OpenClaim := { program := "ytfbjlakcolipaaadoor", sum := "c689490cf298dfe56cdd058bf46e68d1eb356c480e56987f0389a3daa0ec3fd5", func := "sizar/sizarlaw25.SeatsReserved", spec := "seatsReserved", inPlace := ["internal/reflectlite.ValueOf", "(internal/reflectlite.Value).Type", "(internal/reflectlite.Value).IsNil", "internal/reflectlite.TypeOf", "(internal/reflectlite.Value).Elem", "(internal/reflectlite.Value).Set", "slices.overlaps[sizar/api.Seat]"], unfollowed := true, recurses := true, named := ["errors.errorType"], apart := false, laid := [("errors.errorType", laid_errors_errorType)], narrowed := true }
def SeatsReservedUptoSaid : Prop := seatsReservedUptoRow.holds Tryd.pinned (OpenSpec.upto seatsReservedSpec)

/-- 'sizarlaw25.SeatsTime', WHERE WHAT IT READS IS OF BULK AT MOST 1048576: true; the input reads as it did. -/
def seatsTimeUptoRow : OpenClaim := { program := "ytfbjlakcolipaaadoor", sum := "c689490cf298dfe56cdd058bf46e68d1eb356c480e56987f0389a3daa0ec3fd5", func := "sizar/sizarlaw25.SeatsTime", spec := "seatsTime", inPlace := ["internal/reflectlite.ValueOf", "(internal/reflectlite.Value).Type", "(internal/reflectlite.Value).IsNil", "internal/reflectlite.TypeOf", "(internal/reflectlite.Value).Elem", "(internal/reflectlite.Value).Set", "slices.overlaps[sizar/api.Seat]"], unfollowed := true, recurses := true, named := ["errors.errorType"], apart := false, laid := [("errors.errorType", laid_errors_errorType)], narrowed := true }
def SeatsTimeUptoSaid : Prop := seatsTimeUptoRow.holds Tryd.pinned (OpenSpec.upto seatsTimeSpec)

/-- 'sizarlaw25.SeatsOthers', WHERE WHAT IT READS IS OF BULK AT MOST 1048576: true; the input reads as it did. -/
def seatsOthersUptoRow : OpenClaim := { program := "ytfbjlakcolipaaadoor", sum := "c689490cf298dfe56cdd058bf46e68d1eb356c480e56987f0389a3daa0ec3fd5", func := "sizar/sizarlaw25.SeatsOthers", spec := "seatsOthers", inPlace := ["internal/reflectlite.ValueOf", "(internal/reflectlite.Value).Type", "(internal/reflectlite.Value).IsNil", "internal/reflectlite.TypeOf", "(internal/reflectlite.Value).Elem", "(internal/reflectlite.Value).Set", "slices.overlaps[sizar/api.Seat]"], unfollowed := true, recurses := true, named := ["errors.errorType"], apart := false, laid := [("errors.errorType", laid_errors_errorType)], narrowed := true }
def SeatsOthersUptoSaid : Prop := seatsOthersUptoRow.holds Tryd.pinned (OpenSpec.upto seatsOthersSpec)

end Rows
end Go.Proofs.YtfbjlakcolipaaaDoor
