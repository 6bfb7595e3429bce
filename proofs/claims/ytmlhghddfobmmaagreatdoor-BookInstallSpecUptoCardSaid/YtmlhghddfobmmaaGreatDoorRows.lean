/-
  NARROWER THAN 'FOR EVERY INPUT', by the rows' own cells (each row's printed sentence says how): BookInstallSpec: loops, laid · BookEqualSpec: loops, laid · BookEquals: loops, laid · BookNumbers: loops, laid · BookLookSpec: loops, laid · BookValid: loops, laid · BookInstalled: loops, laid · BookAlike: loops, laid.
  DERIVED. THE GIVEN ROWS OF THIS SEAT. 8 by the template 'for every input the law returns true; each argument reads behind the call as it read before'; 0 by the template 'total and deterministic' (their statements: YtmlhghddfobmmaaGreatDoorTotals.lean).
  GIVEN WITH THE SEED: the statements are not yours to turn. If you find one false, say at which input.
  Laid BY PROGRAM, IN A SANDBOX (cutbox-rows.mjs): the forced cells as the released guide's own fill.sh prints them over the translation c9a9f6f8fcaa283a… (all of the seat's roots in one cut). By AI agents, Wed Nov 11 2026. No macro, syntax, notation, axiom, sorry.
-/
import Derived.Test.YtmlhghddfobmmaaGreatDoorChecked
import GoSem.Claim
import GoSem.ClaimJoined
import GoSem.ClaimMapViews
import Derived.JoinedTies
import Derived.KernelRfl
namespace Go.Proofs.YtmlhghddfobmmaaGreatDoor
/- THE CELL 'sum', in the pinned program and in every row, IS THE sha256 OF THE DUMP (.gsa) THAT YtmlhghddfobmmaaGreatDoorProg.lean LOADS. Nothing in Lean hashes anything: it is a label: what it is worth is what the hold of that sum in a sandbox is worth. -/
noncomputable def Tryz.pinned : Pinned := { name := "ytmlhghddfobmmaagreatdoor", sum := "c9a9f6f8fcaa283a16c62790dc13b472db9a9f7cea1cddbbbd930d4f497dd242", checked := Tryz.checked }
namespace Rows
def none {H : Type} : Left H := { results := [], args := [] }

/- WHAT THE LISTED PACKAGE-LEVEL VARIABLES READ AS WHEN THE CALL BEGINS. Each datum BY PROGRAM (the guide's laid-datum.mjs) off the statement by which the dump's own 'gosem.cut.vars' lays the variable. In a bare row this is a premise. The card (YtmlhghddfobmmaaGreatDoorCards.lean) ties it to the program's text. -/
def laid_sizar_rules_kinds {H : Type} : DataW H := .iface "func table" (.agg [.agg [.lit (.bool false), .lit (.bool false), .lit (.bool false), .lit (.bool false), .nil, .nil], .agg [.lit (.bool false), .lit (.bool false), .lit (.bool false), .lit (.bool true), .iface "func" (.lit (.string [115, 105, 122, 97, 114, 47, 114, 117, 108, 101, 115, 46, 107, 105, 110, 100, 115, 36, 49])), .iface "func" (.lit (.string [115, 105, 122, 97, 114, 47, 114, 117, 108, 101, 115, 46, 107, 105, 110, 100, 115, 36, 50]))], .agg [.lit (.bool false), .lit (.bool false), .lit (.bool false), .lit (.bool true), .iface "func" (.lit (.string [115, 105, 122, 97, 114, 47, 114, 117, 108, 101, 115, 46, 107, 105, 110, 100, 115, 36, 51])), .iface "func" (.lit (.string [115, 105, 122, 97, 114, 47, 114, 117, 108, 101, 115, 46, 107, 105, 110, 100, 115, 36, 52]))], .agg [.lit (.bool false), .lit (.bool true), .lit (.bool false), .lit (.bool true), .iface "func" (.lit (.string [115, 105, 122, 97, 114, 47, 114, 117, 108, 101, 115, 46, 107, 105, 110, 100, 115, 36, 53])), .iface "func" (.lit (.string [115, 105, 122, 97, 114, 47, 114, 117, 108, 101, 115, 46, 107, 105, 110, 100, 115, 36, 54]))], .agg [.lit (.bool false), .lit (.bool false), .lit (.bool false), .lit (.bool true), .iface "func" (.lit (.string [115, 105, 122, 97, 114, 47, 114, 117, 108, 101, 115, 46, 107, 105, 110, 100, 115, 36, 55])), .iface "func" (.lit (.string [115, 105, 122, 97, 114, 47, 114, 117, 108, 101, 115, 46, 107, 105, 110, 100, 115, 36, 56]))], .agg [.lit (.bool true), .lit (.bool true), .lit (.bool false), .lit (.bool false), .iface "func" (.lit (.string [115, 105, 122, 97, 114, 47, 114, 117, 108, 101, 115, 46, 107, 105, 110, 100, 115, 36, 57])), .iface "func" (.lit (.string [115, 105, 122, 97, 114, 47, 114, 117, 108, 101, 115, 46, 107, 105, 110, 100, 115, 36, 49, 48]))], .agg [.lit (.bool true), .lit (.bool true), .lit (.bool false), .lit (.bool false), .iface "func" (.lit (.string [115, 105, 122, 97, 114, 47, 114, 117, 108, 101, 115, 46, 107, 105, 110, 100, 115, 36, 49, 49])), .iface "func" (.lit (.string [115, 105, 122, 97, 114, 47, 114, 117, 108, 101, 115, 46, 107, 105, 110, 100, 115, 36, 49, 50]))], .agg [.lit (.bool false), .lit (.bool true), .lit (.bool false), .lit (.bool false), .iface "func" (.lit (.string [115, 105, 122, 97, 114, 47, 114, 117, 108, 101, 115, 46, 107, 105, 110, 100, 115, 36, 49, 51])), .iface "func" (.lit (.string [115, 105, 122, 97, 114, 47, 114, 117, 108, 101, 115, 46, 107, 105, 110, 100, 115, 36, 49, 52]))], .agg [.lit (.bool false), .lit (.bool true), .lit (.bool true), .lit (.bool false), .iface "func" (.lit (.string [115, 105, 122, 97, 114, 47, 114, 117, 108, 101, 115, 46, 107, 105, 110, 100, 115, 36, 49, 53])), .iface "func" (.lit (.string [115, 105, 122, 97, 114, 47, 114, 117, 108, 101, 115, 46, 107, 105, 110, 100, 115, 36, 49, 54]))], .agg [.lit (.bool true), .lit (.bool false), .lit (.bool false), .lit (.bool false), .iface "func" (.lit (.string [115, 105, 122, 97, 114, 47, 114, 117, 108, 101, 115, 46, 99, 111, 117, 114, 115, 101])), .iface "func" (.lit (.string [115, 105, 122, 97, 114, 47, 114, 117, 108, 101, 115, 46, 107, 105, 110, 100, 115, 36, 49, 55]))]])

/-- 'sizarlaw14.BookInstallSpec': WHATEVER THE INPUT: true; the input reads as it did. -/
def bookInstallSpecSpec : ChangeSpec := { name := "bookInstallSpec", fn := fun _ => fun
  | [d1, d2, d3, d4] => { results := [.lit (.bool true)], args := [d1, d2, d3, d4] }
  | _ => none }
def bookInstallSpecRow : OpenClaim := { program := "ytmlhghddfobmmaagreatdoor", sum := "c9a9f6f8fcaa283a16c62790dc13b472db9a9f7cea1cddbbbd930d4f497dd242", func := "sizar/sizarlaw14.BookInstallSpec", spec := "bookInstallSpec", unfollowed := true, recurses := true, named := ["sizar/rules.kinds"], loops := true, apart := false, laid := [("sizar/rules.kinds", laid_sizar_rules_kinds)] }
def BookInstallSpecSaid : Prop := bookInstallSpecRow.holds Tryz.pinned (OpenSpec.ofChange bookInstallSpecSpec)

/-- ITS FALSE NEIGHBOUR: 'it returns false'. Refute it at one input. -/
def bookInstallSpecWrong : ChangeSpec := { name := "bookInstallSpec", fn := fun _ => fun
  | [d1, d2, d3, d4] => { results := [.lit (.bool false)], args := [d1, d2, d3, d4] }
  | _ => none }
def BookInstallSpecWrongFalsely : Prop := bookInstallSpecRow.holds Tryz.pinned (OpenSpec.ofChange bookInstallSpecWrong)

/-- 'sizarlaw14.BookEqualSpec': WHATEVER THE INPUT: true; the input reads as it did. -/
def bookEqualSpecSpec : ChangeSpec := { name := "bookEqualSpec", fn := fun _ => fun
  | [d1, d2, d3, d4] => { results := [.lit (.bool true)], args := [d1, d2, d3, d4] }
  | _ => none }
def bookEqualSpecRow : OpenClaim := { program := "ytmlhghddfobmmaagreatdoor", sum := "c9a9f6f8fcaa283a16c62790dc13b472db9a9f7cea1cddbbbd930d4f497dd242", func := "sizar/sizarlaw14.BookEqualSpec", spec := "bookEqualSpec", unfollowed := true, recurses := true, named := ["sizar/rules.kinds"], loops := true, apart := false, laid := [("sizar/rules.kinds", laid_sizar_rules_kinds)] }
def BookEqualSpecSaid : Prop := bookEqualSpecRow.holds Tryz.pinned (OpenSpec.ofChange bookEqualSpecSpec)

/-- ITS FALSE NEIGHBOUR: 'it returns false'. Refute it at one input. -/
def bookEqualSpecWrong : ChangeSpec := { name := "bookEqualSpec", fn := fun _ => fun
  | [d1, d2, d3, d4] => { results := [.lit (.bool false)], args := [d1, d2, d3, d4] }
  | _ => none }
def BookEqualSpecWrongFalsely : Prop := bookEqualSpecRow.holds Tryz.pinned (OpenSpec.ofChange bookEqualSpecWrong)

/-- 'sizarlaw14.BookEquals': WHATEVER THE INPUT: true; the input reads as it did. -/
def bookEqualsSpec : ChangeSpec := { name := "bookEquals", fn := fun _ => fun
  | [d1, d2, d3, d4, d5] => { results := [.lit (.bool true)], args := [d1, d2, d3, d4, d5] }
  | _ => none }
def bookEqualsRow : OpenClaim := { program := "ytmlhghddfobmmaagreatdoor", sum := "c9a9f6f8fcaa283a16c62790dc13b472db9a9f7cea1cddbbbd930d4f497dd242", func := "sizar/sizarlaw14.BookEquals", spec := "bookEquals", unfollowed := true, recurses := true, named := ["sizar/rules.kinds"], loops := true, apart := false, laid := [("sizar/rules.kinds", laid_sizar_rules_kinds)] }
def BookEqualsSaid : Prop := bookEqualsRow.holds Tryz.pinned (OpenSpec.ofChange bookEqualsSpec)

/-- ITS FALSE NEIGHBOUR: 'it returns false'. Refute it at one input. -/
def bookEqualsWrong : ChangeSpec := { name := "bookEquals", fn := fun _ => fun
  | [d1, d2, d3, d4, d5] => { results := [.lit (.bool false)], args := [d1, d2, d3, d4, d5] }
  | _ => none }
def BookEqualsWrongFalsely : Prop := bookEqualsRow.holds Tryz.pinned (OpenSpec.ofChange bookEqualsWrong)

/-- 'sizarlaw14.BookNumbers': WHATEVER THE INPUT: true; the input reads as it did. -/
def bookNumbersSpec : ChangeSpec := { name := "bookNumbers", fn := fun _ => fun
  | [d1, d2, d3, d4] => { results := [.lit (.bool true)], args := [d1, d2, d3, d4] }
  | _ => none }
def bookNumbersRow : OpenClaim := { program := "ytmlhghddfobmmaagreatdoor", sum := "c9a9f6f8fcaa283a16c62790dc13b472db9a9f7cea1cddbbbd930d4f497dd242", func := "sizar/sizarlaw14.BookNumbers", spec := "bookNumbers", unfollowed := true, recurses := true, named := ["sizar/rules.kinds"], loops := true, apart := false, laid := [("sizar/rules.kinds", laid_sizar_rules_kinds)] }
def BookNumbersSaid : Prop := bookNumbersRow.holds Tryz.pinned (OpenSpec.ofChange bookNumbersSpec)

/-- ITS FALSE NEIGHBOUR: 'it returns false'. Refute it at one input. -/
def bookNumbersWrong : ChangeSpec := { name := "bookNumbers", fn := fun _ => fun
  | [d1, d2, d3, d4] => { results := [.lit (.bool false)], args := [d1, d2, d3, d4] }
  | _ => none }
def BookNumbersWrongFalsely : Prop := bookNumbersRow.holds Tryz.pinned (OpenSpec.ofChange bookNumbersWrong)

/-- 'sizarlaw14.BookLookSpec': WHATEVER THE INPUT: true; the input reads as it did. -/
def bookLookSpecSpec : ChangeSpec := { name := "bookLookSpec", fn := fun _ => fun
  | [d1, d2, d3, d4] => { results := [.lit (.bool true)], args := [d1, d2, d3, d4] }
  | _ => none }
def bookLookSpecRow : OpenClaim := { program := "ytmlhghddfobmmaagreatdoor", sum := "c9a9f6f8fcaa283a16c62790dc13b472db9a9f7cea1cddbbbd930d4f497dd242", func := "sizar/sizarlaw14.BookLookSpec", spec := "bookLookSpec", unfollowed := true, recurses := true, named := ["sizar/rules.kinds"], loops := true, apart := false, laid := [("sizar/rules.kinds", laid_sizar_rules_kinds)] }
def BookLookSpecSaid : Prop := bookLookSpecRow.holds Tryz.pinned (OpenSpec.ofChange bookLookSpecSpec)

/-- ITS FALSE NEIGHBOUR: 'it returns false'. Refute it at one input. -/
def bookLookSpecWrong : ChangeSpec := { name := "bookLookSpec", fn := fun _ => fun
  | [d1, d2, d3, d4] => { results := [.lit (.bool false)], args := [d1, d2, d3, d4] }
  | _ => none }
def BookLookSpecWrongFalsely : Prop := bookLookSpecRow.holds Tryz.pinned (OpenSpec.ofChange bookLookSpecWrong)

/-- 'sizarlaw14.BookValid': WHATEVER THE INPUT: true; the input reads as it did. -/
def bookValidSpec : ChangeSpec := { name := "bookValid", fn := fun _ => fun
  | [d1, d2, d3, d4] => { results := [.lit (.bool true)], args := [d1, d2, d3, d4] }
  | _ => none }
def bookValidRow : OpenClaim := { program := "ytmlhghddfobmmaagreatdoor", sum := "c9a9f6f8fcaa283a16c62790dc13b472db9a9f7cea1cddbbbd930d4f497dd242", func := "sizar/sizarlaw14.BookValid", spec := "bookValid", unfollowed := true, recurses := true, named := ["sizar/rules.kinds"], loops := true, apart := false, laid := [("sizar/rules.kinds", laid_sizar_rules_kinds)] }
def BookValidSaid : Prop := bookValidRow.holds Tryz.pinned (OpenSpec.ofChange bookValidSpec)

/-- ITS FALSE NEIGHBOUR: 'it returns false'. Refute it at one input. -/
def bookValidWrong : ChangeSpec := { name := "bookValid", fn := fun _ => fun
  | [d1, d2, d3, d4] => { results := [.lit (.bool false)], args := [d1, d2, d3, d4] }
  | _ => none }
def BookValidWrongFalsely : Prop := bookValidRow.holds Tryz.pinned (OpenSpec.ofChange bookValidWrong)

/-- 'sizarlaw14.BookInstalled': WHATEVER THE INPUT: true; the input reads as it did. -/
def bookInstalledSpec : ChangeSpec := { name := "bookInstalled", fn := fun _ => fun
  | [d1, d2, d3, d4, d5, d6, d7] => { results := [.lit (.bool true)], args := [d1, d2, d3, d4, d5, d6, d7] }
  | _ => none }
def bookInstalledRow : OpenClaim := { program := "ytmlhghddfobmmaagreatdoor", sum := "c9a9f6f8fcaa283a16c62790dc13b472db9a9f7cea1cddbbbd930d4f497dd242", func := "sizar/sizarlaw14.BookInstalled", spec := "bookInstalled", unfollowed := true, recurses := true, named := ["sizar/rules.kinds"], loops := true, apart := false, laid := [("sizar/rules.kinds", laid_sizar_rules_kinds)] }
def BookInstalledSaid : Prop := bookInstalledRow.holds Tryz.pinned (OpenSpec.ofChange bookInstalledSpec)

/-- ITS FALSE NEIGHBOUR: 'it returns false'. Refute it at one input. -/
def bookInstalledWrong : ChangeSpec := { name := "bookInstalled", fn := fun _ => fun
  | [d1, d2, d3, d4, d5, d6, d7] => { results := [.lit (.bool false)], args := [d1, d2, d3, d4, d5, d6, d7] }
  | _ => none }
def BookInstalledWrongFalsely : Prop := bookInstalledRow.holds Tryz.pinned (OpenSpec.ofChange bookInstalledWrong)

/-- 'sizarlaw14.BookAlike': WHATEVER THE INPUT: true; the input reads as it did. -/
def bookAlikeSpec : ChangeSpec := { name := "bookAlike", fn := fun _ => fun
  | [d1, d2, d3, d4, d5] => { results := [.lit (.bool true)], args := [d1, d2, d3, d4, d5] }
  | _ => none }
def bookAlikeRow : OpenClaim := { program := "ytmlhghddfobmmaagreatdoor", sum := "c9a9f6f8fcaa283a16c62790dc13b472db9a9f7cea1cddbbbd930d4f497dd242", func := "sizar/sizarlaw14.BookAlike", spec := "bookAlike", unfollowed := true, recurses := true, named := ["sizar/rules.kinds"], loops := true, apart := false, laid := [("sizar/rules.kinds", laid_sizar_rules_kinds)] }
def BookAlikeSaid : Prop := bookAlikeRow.holds Tryz.pinned (OpenSpec.ofChange bookAlikeSpec)

/-- ITS FALSE NEIGHBOUR: 'it returns false'. Refute it at one input. -/
def bookAlikeWrong : ChangeSpec := { name := "bookAlike", fn := fun _ => fun
  | [d1, d2, d3, d4, d5] => { results := [.lit (.bool false)], args := [d1, d2, d3, d4, d5] }
  | _ => none }
def BookAlikeWrongFalsely : Prop := bookAlikeRow.holds Tryz.pinned (OpenSpec.ofChange bookAlikeWrong)

/- THE SECOND FORM. 'bulk': how many values and letters a reading holds, each counted each time it is reached (what is shared counts as often as it is met; a slice's spare places count too). A statement '..UptoSaid' is the law's where the arguments, and the package variables that the reading takes, are together of bulk at most 1048576: NARROWER than '..Said'. Prove '..Said' where nothing that the law and all that it calls make is longer than what came in: it says more and counts as full. Else prove '..UptoSaid'. A law counts once. -/
mutual
def uptoBulk {H : Type} : DataW H → Nat
  | .lit (.string bytes) => bytes.length + 1
  | .lit _ => 1
  | .nil => 1
  | .ptr d => uptoBulk d + 1
  | .slice elems spare => uptoBulkAll elems + uptoBulkAll spare + 1
  | .agg parts => uptoBulkAll parts + 1
  | .iface _ d => uptoBulk d + 1
  | .map entries => uptoBulkEntries entries + 1
  | .held _ => 1
def uptoBulkAll {H : Type} : List (DataW H) → Nat
  | [] => 0
  | d :: r => uptoBulk d + uptoBulkAll r
def uptoBulkEntries {H : Type} : List (Lit × DataW H) → Nat
  | [] => 0
  | x :: r => uptoBulkEntry x + uptoBulkEntries r
def uptoBulkEntry {H : Type} : Lit × DataW H → Nat
  | (.string bytes, d) => bytes.length + uptoBulk d + 1
  | (_, d) => uptoBulk d + 1
 end
def uptoSmall : (H : Type) → List (DataW H) → Bool := fun _ ds => decide (uptoBulkAll ds ≤ 1048576)
def OpenSpec.upto (s : _root_.Go.ChangeSpec) : _root_.Go.OpenSpec := { _root_.Go.OpenSpec.ofChange s with cond := some uptoSmall }

/-- 'sizarlaw14.BookInstallSpec', WHERE WHAT IT READS IS OF BULK AT MOST 1048576: true; the input reads as it did. -/
def bookInstallSpecUptoRow : OpenClaim := { program := "ytmlhghddfobmmaagreatdoor", sum := "c9a9f6f8fcaa283a16c62790dc13b472db9a9f7cea1cddbbbd930d4f497dd242", func := "sizar/sizarlaw14.BookInstallSpec", spec := "bookInstallSpec", unfollowed := true, recurses := true, named := ["sizar/rules.kinds"], loops := true, apart := false, laid := [("sizar/rules.kinds", laid_sizar_rules_kinds)], narrowed := true }
def BookInstallSpecUptoSaid : Prop := bookInstallSpecUptoRow.holds Tryz.pinned (OpenSpec.upto bookInstallSpecSpec)

/-- 'sizarlaw14.BookEqualSpec', WHERE WHAT IT READS IS OF BULK AT MOST 1048576: true; the input reads as it did. -/
def bookEqualSpecUptoRow : OpenClaim := { program := "ytmlhghddfobmmaagreatdoor", sum := "c9a9f6f8fcaa283a16c62790dc13b472db9a9f7cea1cddbbbd930d4f497dd242", func := "sizar/sizarlaw14.BookEqualSpec", spec := "bookEqualSpec", unfollowed := true, recurses := true, named := ["sizar/rules.kinds"], loops := true, apart := false, laid := [("sizar/rules.kinds", laid_sizar_rules_kinds)], narrowed := true }
def BookEqualSpecUptoSaid : Prop := bookEqualSpecUptoRow.holds Tryz.pinned (OpenSpec.upto bookEqualSpecSpec)

/-- 'sizarlaw14.BookEquals', WHERE WHAT IT READS IS OF BULK AT MOST 1048576: true; the input reads as it did. -/
def bookEqualsUptoRow : OpenClaim := { program := "ytmlhghddfobmmaagreatdoor", sum := "c9a9f6f8fcaa283a16c62790dc13b472db9a9f7cea1cddbbbd930d4f497dd242", func := "sizar/sizarlaw14.BookEquals", spec := "bookEquals", unfollowed := true, recurses := true, named := ["sizar/rules.kinds"], loops := true, apart := false, laid := [("sizar/rules.kinds", laid_sizar_rules_kinds)], narrowed := true }
def BookEqualsUptoSaid : Prop := bookEqualsUptoRow.holds Tryz.pinned (OpenSpec.upto bookEqualsSpec)

/-- 'sizarlaw14.BookNumbers', WHERE WHAT IT READS IS OF BULK AT MOST 1048576: true; the input reads as it did. -/
def bookNumbersUptoRow : OpenClaim := { program := "ytmlhghddfobmmaagreatdoor", sum := "c9a9f6f8fcaa283a16c62790dc13b472db9a9f7cea1cddbbbd930d4f497dd242", func := "sizar/sizarlaw14.BookNumbers", spec := "bookNumbers", unfollowed := true, recurses := true, named := ["sizar/rules.kinds"], loops := true, apart := false, laid := [("sizar/rules.kinds", laid_sizar_rules_kinds)], narrowed := true }
def BookNumbersUptoSaid : Prop := bookNumbersUptoRow.holds Tryz.pinned (OpenSpec.upto bookNumbersSpec)

/-- 'sizarlaw14.BookLookSpec', WHERE WHAT IT READS IS OF BULK AT MOST 1048576: true; the input reads as it did. -/
def bookLookSpecUptoRow : OpenClaim := { program := "ytmlhghddfobmmaagreatdoor", sum := "c9a9f6f8fcaa283a16c62790dc13b472db9a9f7cea1cddbbbd930d4f497dd242", func := "sizar/sizarlaw14.BookLookSpec", spec := "bookLookSpec", unfollowed := true, recurses := true, named := ["sizar/rules.kinds"], loops := true, apart := false, laid := [("sizar/rules.kinds", laid_sizar_rules_kinds)], narrowed := true }
def BookLookSpecUptoSaid : Prop := bookLookSpecUptoRow.holds Tryz.pinned (OpenSpec.upto bookLookSpecSpec)

/-- 'sizarlaw14.BookValid', WHERE WHAT IT READS IS OF BULK AT MOST 1048576: true; the input reads as it did. -/
def bookValidUptoRow : OpenClaim := { program := "ytmlhghddfobmmaagreatdoor", sum := "c9a9f6f8fcaa283a16c62790dc13b472db9a9f7cea1cddbbbd930d4f497dd242", func := "sizar/sizarlaw14.BookValid", spec := "bookValid", unfollowed := true, recurses := true, named := ["sizar/rules.kinds"], loops := true, apart := false, laid := [("sizar/rules.kinds", laid_sizar_rules_kinds)], narrowed := true }
def BookValidUptoSaid : Prop := bookValidUptoRow.holds Tryz.pinned (OpenSpec.upto bookValidSpec)

/-- 'sizarlaw14.BookInstalled', WHERE WHAT IT READS IS OF BULK AT MOST 1048576: true; the input reads as it did. -/
def bookInstalledUptoRow : OpenClaim := { program := "ytmlhghddfobmmaagreatdoor", sum := "c9a9f6f8fcaa283a16c62790dc13b472db9a9f7cea1cddbbbd930d4f497dd242", func := "sizar/sizarlaw14.BookInstalled", spec := "bookInstalled", unfollowed := true, recurses := true, named := ["sizar/rules.kinds"], loops := true, apart := false, laid := [("sizar/rules.kinds", laid_sizar_rules_kinds)], narrowed := true }
def BookInstalledUptoSaid : Prop := bookInstalledUptoRow.holds Tryz.pinned (OpenSpec.upto bookInstalledSpec)

/-- 'sizarlaw14.BookAlike', WHERE WHAT IT READS IS OF BULK AT MOST 1048576: true; the input reads as it did. -/
def bookAlikeUptoRow : OpenClaim := { program := "ytmlhghddfobmmaagreatdoor", sum := "c9a9f6f8fcaa283a16c62790dc13b472db9a9f7cea1cddbbbd930d4f497dd242", func := "sizar/sizarlaw14.BookAlike", spec := "bookAlike", unfollowed := true, recurses := true, named := ["sizar/rules.kinds"], loops := true, apart := false, laid := [("sizar/rules.kinds", laid_sizar_rules_kinds)], narrowed := true }
def BookAlikeUptoSaid : Prop := bookAlikeUptoRow.holds Tryz.pinned (OpenSpec.upto bookAlikeSpec)

end Rows
end Go.Proofs.YtmlhghddfobmmaaGreatDoor
