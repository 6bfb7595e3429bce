/-
  NARROWER THAN 'FOR EVERY INPUT', by the rows' own cells (each row's printed sentence says how): AdmissionSpec: loops, laid · AdmissionHolds: loops, laid · AdmissionWhy: loops, laid · AdmissionAlike: loops, laid · AdmissionPetition: loops, laid · AdmissionApartSpec: loops, laid.
  DERIVED. THE GIVEN ROWS OF THIS SEAT. 6 by the template 'for every input the law returns true; each argument reads behind the call as it read before'; 0 by the template 'total and deterministic' (their statements: YtkjmomadndmeaaaGreatDoorTotals.lean).
  GIVEN WITH THE SEED: the statements are not yours to turn. If you find one false, say at which input.
  Laid BY PROGRAM, IN A SANDBOX (cutbox-rows.mjs): the forced cells as the released guide's own fill.sh prints them over the translation 7da047a5d3d4a199… (all of the seat's roots in one cut). By AI agents, Wed Nov 11 2026. No macro, syntax, notation, axiom, sorry.
-/
import Derived.Test.YtkjmomadndmeaaaGreatDoorChecked
import GoSem.Claim
import GoSem.ClaimJoined
import GoSem.ClaimMapViews
import Derived.JoinedTies
import Derived.KernelRfl
namespace Go.Proofs.YtkjmomadndmeaaaGreatDoor
/- THE CELL 'sum', in the pinned program and in every row, IS THE sha256 OF THE DUMP (.gsa) THAT YtkjmomadndmeaaaGreatDoorProg.lean LOADS. Nothing in Lean hashes anything: it is a label: what it is worth is what the hold of that sum in a sandbox is worth. -/
noncomputable def Tryz.pinned : Pinned := { name := "ytkjmomadndmeaaagreatdoor", sum := "7da047a5d3d4a199ddf637839737705b0709605363e3cf80aeccadee08538eff", checked := Tryz.checked }
namespace Rows
def none {H : Type} : Left H := { results := [], args := [] }

/- WHAT THE LISTED PACKAGE-LEVEL VARIABLES READ AS WHEN THE CALL BEGINS. Each datum BY PROGRAM (the guide's laid-datum.mjs) off the statement by which the dump's own 'gosem.cut.vars' lays the variable. In a bare row this is a premise. The card (YtkjmomadndmeaaaGreatDoorCards.lean) ties it to the program's text. -/
def laid_sizar_rules_kinds {H : Type} : DataW H := .iface "func table" (.agg [.agg [.lit (.bool false), .lit (.bool false), .lit (.bool false), .lit (.bool false), .nil, .nil], .agg [.lit (.bool false), .lit (.bool false), .lit (.bool false), .lit (.bool true), .iface "func" (.lit (.string [115, 105, 122, 97, 114, 47, 114, 117, 108, 101, 115, 46, 107, 105, 110, 100, 115, 36, 49])), .iface "func" (.lit (.string [115, 105, 122, 97, 114, 47, 114, 117, 108, 101, 115, 46, 107, 105, 110, 100, 115, 36, 50]))], .agg [.lit (.bool false), .lit (.bool false), .lit (.bool false), .lit (.bool true), .iface "func" (.lit (.string [115, 105, 122, 97, 114, 47, 114, 117, 108, 101, 115, 46, 107, 105, 110, 100, 115, 36, 51])), .iface "func" (.lit (.string [115, 105, 122, 97, 114, 47, 114, 117, 108, 101, 115, 46, 107, 105, 110, 100, 115, 36, 52]))], .agg [.lit (.bool false), .lit (.bool true), .lit (.bool false), .lit (.bool true), .iface "func" (.lit (.string [115, 105, 122, 97, 114, 47, 114, 117, 108, 101, 115, 46, 107, 105, 110, 100, 115, 36, 53])), .iface "func" (.lit (.string [115, 105, 122, 97, 114, 47, 114, 117, 108, 101, 115, 46, 107, 105, 110, 100, 115, 36, 54]))], .agg [.lit (.bool false), .lit (.bool false), .lit (.bool false), .lit (.bool true), .iface "func" (.lit (.string [115, 105, 122, 97, 114, 47, 114, 117, 108, 101, 115, 46, 107, 105, 110, 100, 115, 36, 55])), .iface "func" (.lit (.string [115, 105, 122, 97, 114, 47, 114, 117, 108, 101, 115, 46, 107, 105, 110, 100, 115, 36, 56]))], .agg [.lit (.bool true), .lit (.bool true), .lit (.bool false), .lit (.bool false), .iface "func" (.lit (.string [115, 105, 122, 97, 114, 47, 114, 117, 108, 101, 115, 46, 107, 105, 110, 100, 115, 36, 57])), .iface "func" (.lit (.string [115, 105, 122, 97, 114, 47, 114, 117, 108, 101, 115, 46, 107, 105, 110, 100, 115, 36, 49, 48]))], .agg [.lit (.bool true), .lit (.bool true), .lit (.bool false), .lit (.bool false), .iface "func" (.lit (.string [115, 105, 122, 97, 114, 47, 114, 117, 108, 101, 115, 46, 107, 105, 110, 100, 115, 36, 49, 49])), .iface "func" (.lit (.string [115, 105, 122, 97, 114, 47, 114, 117, 108, 101, 115, 46, 107, 105, 110, 100, 115, 36, 49, 50]))], .agg [.lit (.bool false), .lit (.bool true), .lit (.bool false), .lit (.bool false), .iface "func" (.lit (.string [115, 105, 122, 97, 114, 47, 114, 117, 108, 101, 115, 46, 107, 105, 110, 100, 115, 36, 49, 51])), .iface "func" (.lit (.string [115, 105, 122, 97, 114, 47, 114, 117, 108, 101, 115, 46, 107, 105, 110, 100, 115, 36, 49, 52]))], .agg [.lit (.bool false), .lit (.bool true), .lit (.bool true), .lit (.bool false), .iface "func" (.lit (.string [115, 105, 122, 97, 114, 47, 114, 117, 108, 101, 115, 46, 107, 105, 110, 100, 115, 36, 49, 53])), .iface "func" (.lit (.string [115, 105, 122, 97, 114, 47, 114, 117, 108, 101, 115, 46, 107, 105, 110, 100, 115, 36, 49, 54]))], .agg [.lit (.bool true), .lit (.bool false), .lit (.bool false), .lit (.bool false), .iface "func" (.lit (.string [115, 105, 122, 97, 114, 47, 114, 117, 108, 101, 115, 46, 99, 111, 117, 114, 115, 101])), .iface "func" (.lit (.string [115, 105, 122, 97, 114, 47, 114, 117, 108, 101, 115, 46, 107, 105, 110, 100, 115, 36, 49, 55]))]])
def laid_errors_errorType {H : Type} : DataW H := .iface "internal/reflectlite.rtype" (.agg [.ptr (.lit (.string [101, 114, 114, 111, 114]))])

/-- 'sizarlaw28.AdmissionSpec': WHATEVER THE INPUT: true; the input reads as it did. -/
def admissionSpecSpec : ChangeSpec := { name := "admissionSpec", fn := fun _ => fun
  | [d1, d2, d3, d4, d5, d6] => { results := [.lit (.bool true)], args := [d1, d2, d3, d4, d5, d6] }
  | _ => none }
def admissionSpecRow : OpenClaim := { program := "ytkjmomadndmeaaagreatdoor", sum := "7da047a5d3d4a199ddf637839737705b0709605363e3cf80aeccadee08538eff", func := "sizar/sizarlaw28.AdmissionSpec", spec := "admissionSpec", unfollowed := true, recurses := true, named := ["sizar/rules.kinds"], loops := true, apart := false, laid := [("sizar/rules.kinds", laid_sizar_rules_kinds)] }
def AdmissionSpecSaid : Prop := admissionSpecRow.holds Tryz.pinned (OpenSpec.ofChange admissionSpecSpec)

/-- ITS FALSE NEIGHBOUR: 'it returns false'. Refute it at one input. -/
def admissionSpecWrong : ChangeSpec := { name := "admissionSpec", fn := fun _ => fun
  | [d1, d2, d3, d4, d5, d6] => { results := [.lit (.bool false)], args := [d1, d2, d3, d4, d5, d6] }
  | _ => none }
def AdmissionSpecWrongFalsely : Prop := admissionSpecRow.holds Tryz.pinned (OpenSpec.ofChange admissionSpecWrong)

/-- 'sizarlaw28.AdmissionHolds': WHATEVER THE INPUT: true; the input reads as it did. -/
def admissionHoldsSpec : ChangeSpec := { name := "admissionHolds", fn := fun _ => fun
  | [d1, d2, d3, d4, d5, d6] => { results := [.lit (.bool true)], args := [d1, d2, d3, d4, d5, d6] }
  | _ => none }
def admissionHoldsRow : OpenClaim := { program := "ytkjmomadndmeaaagreatdoor", sum := "7da047a5d3d4a199ddf637839737705b0709605363e3cf80aeccadee08538eff", func := "sizar/sizarlaw28.AdmissionHolds", spec := "admissionHolds", unfollowed := true, recurses := true, named := ["sizar/rules.kinds"], loops := true, apart := false, laid := [("sizar/rules.kinds", laid_sizar_rules_kinds)] }
def AdmissionHoldsSaid : Prop := admissionHoldsRow.holds Tryz.pinned (OpenSpec.ofChange admissionHoldsSpec)

/-- ITS FALSE NEIGHBOUR: 'it returns false'. Refute it at one input. -/
def admissionHoldsWrong : ChangeSpec := { name := "admissionHolds", fn := fun _ => fun
  | [d1, d2, d3, d4, d5, d6] => { results := [.lit (.bool false)], args := [d1, d2, d3, d4, d5, d6] }
  | _ => none }
def AdmissionHoldsWrongFalsely : Prop := admissionHoldsRow.holds Tryz.pinned (OpenSpec.ofChange admissionHoldsWrong)

/-- 'sizarlaw28.AdmissionWhy': WHATEVER THE INPUT: true; the input reads as it did. -/
def admissionWhySpec : ChangeSpec := { name := "admissionWhy", fn := fun _ => fun
  | [d1, d2, d3, d4, d5, d6] => { results := [.lit (.bool true)], args := [d1, d2, d3, d4, d5, d6] }
  | _ => none }
def admissionWhyRow : OpenClaim := { program := "ytkjmomadndmeaaagreatdoor", sum := "7da047a5d3d4a199ddf637839737705b0709605363e3cf80aeccadee08538eff", func := "sizar/sizarlaw28.AdmissionWhy", spec := "admissionWhy", unfollowed := true, recurses := true, named := ["sizar/rules.kinds"], loops := true, apart := false, laid := [("sizar/rules.kinds", laid_sizar_rules_kinds)] }
def AdmissionWhySaid : Prop := admissionWhyRow.holds Tryz.pinned (OpenSpec.ofChange admissionWhySpec)

/-- ITS FALSE NEIGHBOUR: 'it returns false'. Refute it at one input. -/
def admissionWhyWrong : ChangeSpec := { name := "admissionWhy", fn := fun _ => fun
  | [d1, d2, d3, d4, d5, d6] => { results := [.lit (.bool false)], args := [d1, d2, d3, d4, d5, d6] }
  | _ => none }
def AdmissionWhyWrongFalsely : Prop := admissionWhyRow.holds Tryz.pinned (OpenSpec.ofChange admissionWhyWrong)

/-- 'sizarlaw28.AdmissionAlike': WHATEVER THE INPUT: true; the input reads as it did. -/
def admissionAlikeSpec : ChangeSpec := { name := "admissionAlike", fn := fun _ => fun
  | [d1, d2, d3, d4, d5, d6, d7] => { results := [.lit (.bool true)], args := [d1, d2, d3, d4, d5, d6, d7] }
  | _ => none }
def admissionAlikeRow : OpenClaim := { program := "ytkjmomadndmeaaagreatdoor", sum := "7da047a5d3d4a199ddf637839737705b0709605363e3cf80aeccadee08538eff", func := "sizar/sizarlaw28.AdmissionAlike", spec := "admissionAlike", unfollowed := true, recurses := true, named := ["sizar/rules.kinds"], loops := true, apart := false, laid := [("sizar/rules.kinds", laid_sizar_rules_kinds)] }
def AdmissionAlikeSaid : Prop := admissionAlikeRow.holds Tryz.pinned (OpenSpec.ofChange admissionAlikeSpec)

/-- ITS FALSE NEIGHBOUR: 'it returns false'. Refute it at one input. -/
def admissionAlikeWrong : ChangeSpec := { name := "admissionAlike", fn := fun _ => fun
  | [d1, d2, d3, d4, d5, d6, d7] => { results := [.lit (.bool false)], args := [d1, d2, d3, d4, d5, d6, d7] }
  | _ => none }
def AdmissionAlikeWrongFalsely : Prop := admissionAlikeRow.holds Tryz.pinned (OpenSpec.ofChange admissionAlikeWrong)

/-- 'sizarlaw28.AdmissionPetition': WHATEVER THE INPUT: true; the input reads as it did. -/
def admissionPetitionSpec : ChangeSpec := { name := "admissionPetition", fn := fun _ => fun
  | [d1, d2, d3, d4, d5, d6, d7] => { results := [.lit (.bool true)], args := [d1, d2, d3, d4, d5, d6, d7] }
  | _ => none }
def admissionPetitionRow : OpenClaim := { program := "ytkjmomadndmeaaagreatdoor", sum := "7da047a5d3d4a199ddf637839737705b0709605363e3cf80aeccadee08538eff", func := "sizar/sizarlaw28.AdmissionPetition", spec := "admissionPetition", unfollowed := true, recurses := true, named := ["sizar/rules.kinds"], loops := true, apart := false, laid := [("sizar/rules.kinds", laid_sizar_rules_kinds)] }
def AdmissionPetitionSaid : Prop := admissionPetitionRow.holds Tryz.pinned (OpenSpec.ofChange admissionPetitionSpec)

/-- ITS FALSE NEIGHBOUR: 'it returns false'. Refute it at one input. -/
def admissionPetitionWrong : ChangeSpec := { name := "admissionPetition", fn := fun _ => fun
  | [d1, d2, d3, d4, d5, d6, d7] => { results := [.lit (.bool false)], args := [d1, d2, d3, d4, d5, d6, d7] }
  | _ => none }
def AdmissionPetitionWrongFalsely : Prop := admissionPetitionRow.holds Tryz.pinned (OpenSpec.ofChange admissionPetitionWrong)

/-- 'sizarlaw28.AdmissionApartSpec': WHATEVER THE INPUT: true; the input reads as it did. -/
def admissionApartSpecSpec : ChangeSpec := { name := "admissionApartSpec", fn := fun _ => fun
  | [d1, d2, d3, d4, d5, d6, d7, d8] => { results := [.lit (.bool true)], args := [d1, d2, d3, d4, d5, d6, d7, d8] }
  | _ => none }
def admissionApartSpecRow : OpenClaim := { program := "ytkjmomadndmeaaagreatdoor", sum := "7da047a5d3d4a199ddf637839737705b0709605363e3cf80aeccadee08538eff", func := "sizar/sizarlaw28.AdmissionApartSpec", spec := "admissionApartSpec", inPlace := ["internal/reflectlite.ValueOf", "(internal/reflectlite.Value).Type", "(internal/reflectlite.Value).IsNil", "internal/reflectlite.TypeOf", "(internal/reflectlite.Value).Elem", "(internal/reflectlite.Value).Set"], unfollowed := true, recurses := true, named := ["sizar/rules.kinds", "errors.errorType"], loops := true, apart := false, laid := [("errors.errorType", laid_errors_errorType), ("sizar/rules.kinds", laid_sizar_rules_kinds)] }
def AdmissionApartSpecSaid : Prop := admissionApartSpecRow.holds Tryz.pinned (OpenSpec.ofChange admissionApartSpecSpec)

/-- ITS FALSE NEIGHBOUR: 'it returns false'. Refute it at one input. -/
def admissionApartSpecWrong : ChangeSpec := { name := "admissionApartSpec", fn := fun _ => fun
  | [d1, d2, d3, d4, d5, d6, d7, d8] => { results := [.lit (.bool false)], args := [d1, d2, d3, d4, d5, d6, d7, d8] }
  | _ => none }
def AdmissionApartSpecWrongFalsely : Prop := admissionApartSpecRow.holds Tryz.pinned (OpenSpec.ofChange admissionApartSpecWrong)

/- THE SECOND FORM. 'bulk': how many values and letters a reading holds, each counted each time it is reached (what is shared counts as often as it is met; a slice's spare places count too). A statement '..UptoSaid' is the law's where the arguments, and the package variables that the reading takes, are together of bulk at most 1048576: NARROWER than '..Said'. Prove '..Said' where nothing that the law and all that it calls make is longer than what came in: it says more and counts as full. Else prove '..UptoSaid'. A law counts once. -/
mutual
def uptoBulk {H : Type} : DataW H → Nat
  | .lit (.string bytes) => bytes.length + 1
  | .lit _ => 1
  | .nil => 1
  | .ptr d => uptoBulk d + 1
  | .slice elems spare => uptoBulkAll elems + uptoBulkAll spare + 1
  | .agg parts => uptoBulkAll parts + 1
  | .iface _ d => uptoBulk d + 1
  | .map entries => uptoBulkEntries entries + 1
  | .held _ => 1
def uptoBulkAll {H : Type} : List (DataW H) → Nat
  | [] => 0
  | d :: r => uptoBulk d + uptoBulkAll r
def uptoBulkEntries {H : Type} : List (Lit × DataW H) → Nat
  | [] => 0
  | x :: r => uptoBulkEntry x + uptoBulkEntries r
def uptoBulkEntry {H : Type} : Lit × DataW H → Nat
  | (.string bytes, d) => bytes.length + uptoBulk d + 1
  | (_, d) => uptoBulk d + 1
 end
def uptoSmall : (H : Type) → List (DataW H) → Bool := fun _ ds => decide (uptoBulkAll ds ≤ 1048576)
def OpenSpec.upto (s : _root_.Go.ChangeSpec) : _root_.Go.OpenSpec := { _root_.Go.OpenSpec.ofChange s with cond := some uptoSmall }

/-- 'sizarlaw28.AdmissionSpec', WHERE WHAT IT READS IS OF BULK AT MOST 1048576: true; the input reads as it did. -/
def admissionSpecUptoRow : OpenClaim := { program := "ytkjmomadndmeaaagreatdoor", sum := "7da047a5d3d4a199ddf637839737705b0709605363e3cf80aeccadee08538eff", func := "sizar/sizarlaw28.AdmissionSpec", spec := "admissionSpec", unfollowed := true, recurses := true, named := ["sizar/rules.kinds"], loops := true, apart := false, laid := [("sizar/rules.kinds", laid_sizar_rules_kinds)], narrowed := true }
def AdmissionSpecUptoSaid : Prop := admissionSpecUptoRow.holds Tryz.pinned (OpenSpec.upto admissionSpecSpec)

/-- 'sizarlaw28.AdmissionHolds', WHERE WHAT IT READS IS OF BULK AT MOST 1048576: true; the input reads as it did. -/
def admissionHoldsUptoRow : OpenClaim := { program := "ytkjmomadndmeaaagreatdoor", sum := "7da047a5d3d4a199ddf637839737705b0709605363e3cf80aeccadee08538eff", func := "sizar/sizarlaw28.AdmissionHolds", spec := "admissionHolds", unfollowed := true, recurses := true, named := ["sizar/rules.kinds"], loops := true, apart := false, laid := [("sizar/rules.kinds", laid_sizar_rules_kinds)], narrowed := true }
def AdmissionHoldsUptoSaid : Prop := admissionHoldsUptoRow.holds Tryz.pinned (OpenSpec.upto admissionHoldsSpec)

/-- 'sizarlaw28.AdmissionWhy', WHERE WHAT IT READS IS OF BULK AT MOST 1048576: true; the input reads as it did. -/
def admissionWhyUptoRow : OpenClaim := { program := "ytkjmomadndmeaaagreatdoor", sum := "7da047a5d3d4a199ddf637839737705b0709605363e3cf80aeccadee08538eff", func := "sizar/sizarlaw28.AdmissionWhy", spec := "admissionWhy", unfollowed := true, recurses := true, named := ["sizar/rules.kinds"], loops := true, apart := false, laid := [("sizar/rules.kinds", laid_sizar_rules_kinds)], narrowed := true }
def AdmissionWhyUptoSaid : Prop := admissionWhyUptoRow.holds Tryz.pinned (OpenSpec.upto admissionWhySpec)

/-- 'sizarlaw28.AdmissionAlike', WHERE WHAT IT READS IS OF BULK AT MOST 1048576: true; the input reads as it did. -/
def admissionAlikeUptoRow : OpenClaim := { program := "ytkjmomadndmeaaagreatdoor", sum := "7da047a5d3d4a199ddf637839737705b0709605363e3cf80aeccadee08538eff", func := "sizar/sizarlaw28.AdmissionAlike", spec := "admissionAlike", unfollowed := true, recurses := true, named := ["sizar/rules.kinds"], loops := true, apart := false, laid := [("sizar/rules.kinds", laid_sizar_rules_kinds)], narrowed := true }
def AdmissionAlikeUptoSaid : Prop := admissionAlikeUptoRow.holds Tryz.pinned (OpenSpec.upto admissionAlikeSpec)

/-- 'sizarlaw28.AdmissionPetition', WHERE WHAT IT READS IS OF BULK AT MOST 1048576: true; the input reads as it did. -/
def admissionPetitionUptoRow : OpenClaim := { program := "ytkjmomadndmeaaagreatdoor", sum := "7da047a5d3d4a199ddf637839737705b0709605363e3cf80aeccadee08538eff", func := "sizar/sizarlaw28.AdmissionPetition", spec := "admissionPetition", unfollowed := true, recurses := true, named := ["sizar/rules.kinds"], loops := true, apart := false, laid := [("sizar/rules.kinds", laid_sizar_rules_kinds)], narrowed := true }
def AdmissionPetitionUptoSaid : Prop := admissionPetitionUptoRow.holds Tryz.pinned (OpenSpec.upto admissionPetitionSpec)

/-- 'sizarlaw28.AdmissionApartSpec', WHERE WHAT IT READS IS OF BULK AT MOST 1048576: true; the input reads as it did. -/
def admissionApartSpecUptoRow : OpenClaim := { program := "ytkjmomadndmeaaagreatdoor", sum := "7da047a5d3d4a199ddf637839737705b0709605363e3cf80aeccadee08538eff", func := "sizar/sizarlaw28.AdmissionApartSpec", spec := "admissionApartSpec", inPlace := ["internal/reflectlite.ValueOf", "(internal/reflectlite.Value).Type", "(internal/reflectlite.Value).IsNil", "internal/reflectlite.TypeOf", "(internal/reflectlite.Value).Elem", "(internal/reflectlite.Value).Set"], unfollowed := true, recurses := true, named := ["sizar/rules.kinds", "errors.errorType"], loops := true, apart := false, laid := [("errors.errorType", laid_errors_errorType), ("sizar/rules.kinds", laid_sizar_rules_kinds)], narrowed := true }
def AdmissionApartSpecUptoSaid : Prop := admissionApartSpecUptoRow.holds Tryz.pinned (OpenSpec.upto admissionApartSpecSpec)

end Rows
end Go.Proofs.YtkjmomadndmeaaaGreatDoor
