/-
  No cell of these rows narrows 'for every input' (looked for: loops, veiled, ifaces, maps, wideKeys, modest, calm, conditions, laid).
  DERIVED. THE GIVEN ROWS OF THIS SEAT. 7 by the template 'for every input the law returns true; each argument reads behind the call as it read before'; 0 by the template 'total and deterministic' (their statements: YthghfcbnhdjmiaaTotals.lean).
  GIVEN WITH THE SEED: the statements are not yours to turn. If you find one false, say at which input.
  Laid BY PROGRAM, IN A SANDBOX (cutbox-rows.mjs): the forced cells as the released guide's own fill.sh prints them over the translation e84b421b9b8c9487… (all of the seat's roots in one cut). By AI agents, Wed Nov 11 2026. No macro, syntax, notation, axiom, sorry.
-/
import Derived.Test.YthghfcbnhdjmiaaChecked
import GoSem.Claim
import GoSem.ClaimJoined
import GoSem.ClaimMapViews
import Derived.JoinedTies
import Derived.KernelRfl
namespace Go.Proofs.Ythghfcbnhdjmiaa
/- THE CELL 'sum', in the pinned program and in every row, IS THE sha256 OF THE DUMP (.gsa) THAT YthghfcbnhdjmiaaProg.lean LOADS. Nothing in Lean hashes anything: it is a label: what it is worth is what the hold of that sum in a sandbox is worth. -/
noncomputable def Try.pinned : Pinned := { name := "ythghfcbnhdjmiaa", sum := "e84b421b9b8c948717caa336f88112d59cf783e3744038abcff5e3c90be25895", checked := Try.checked }
namespace Rows
def none {H : Type} : Left H := { results := [], args := [] }

/-- 'sizarlaw06.TermsCountSpec': WHATEVER THE INPUT: true; the input reads as it did. -/
def termsCountSpecSpec : ChangeSpec := { name := "termsCountSpec", fn := fun _ => fun
  | [d1, d2] => { results := [.lit (.bool true)], args := [d1, d2] }
  | _ => none }
def termsCountSpecRow : OpenClaim := { program := "ythghfcbnhdjmiaa", sum := "e84b421b9b8c948717caa336f88112d59cf783e3744038abcff5e3c90be25895", func := "sizar/sizarlaw06.TermsCountSpec", spec := "termsCountSpec", unfollowed := true, recurses := true, apart := false }
def TermsCountSpecSaid : Prop := termsCountSpecRow.holds Try.pinned (OpenSpec.ofChange termsCountSpecSpec)

/-- ITS FALSE NEIGHBOUR: 'it returns false'. Refute it at one input. -/
def termsCountSpecWrong : ChangeSpec := { name := "termsCountSpec", fn := fun _ => fun
  | [d1, d2] => { results := [.lit (.bool false)], args := [d1, d2] }
  | _ => none }
def TermsCountSpecWrongFalsely : Prop := termsCountSpecRow.holds Try.pinned (OpenSpec.ofChange termsCountSpecWrong)

/-- 'sizarlaw06.TermsUnionSpec': WHATEVER THE INPUT: true; the input reads as it did. -/
def termsUnionSpecSpec : ChangeSpec := { name := "termsUnionSpec", fn := fun _ => fun
  | [d1, d2] => { results := [.lit (.bool true)], args := [d1, d2] }
  | _ => none }
def termsUnionSpecRow : OpenClaim := { program := "ythghfcbnhdjmiaa", sum := "e84b421b9b8c948717caa336f88112d59cf783e3744038abcff5e3c90be25895", func := "sizar/sizarlaw06.TermsUnionSpec", spec := "termsUnionSpec", unfollowed := true, recurses := true, apart := false }
def TermsUnionSpecSaid : Prop := termsUnionSpecRow.holds Try.pinned (OpenSpec.ofChange termsUnionSpecSpec)

/-- ITS FALSE NEIGHBOUR: 'it returns false'. Refute it at one input. -/
def termsUnionSpecWrong : ChangeSpec := { name := "termsUnionSpec", fn := fun _ => fun
  | [d1, d2] => { results := [.lit (.bool false)], args := [d1, d2] }
  | _ => none }
def TermsUnionSpecWrongFalsely : Prop := termsUnionSpecRow.holds Try.pinned (OpenSpec.ofChange termsUnionSpecWrong)

/-- 'sizarlaw06.TermsMembers': WHATEVER THE INPUT: true; the input reads as it did. -/
def termsMembersSpec : ChangeSpec := { name := "termsMembers", fn := fun _ => fun
  | [d1, d2, d3] => { results := [.lit (.bool true)], args := [d1, d2, d3] }
  | _ => none }
def termsMembersRow : OpenClaim := { program := "ythghfcbnhdjmiaa", sum := "e84b421b9b8c948717caa336f88112d59cf783e3744038abcff5e3c90be25895", func := "sizar/sizarlaw06.TermsMembers", spec := "termsMembers", unfollowed := true, recurses := true, apart := false }
def TermsMembersSaid : Prop := termsMembersRow.holds Try.pinned (OpenSpec.ofChange termsMembersSpec)

/-- ITS FALSE NEIGHBOUR: 'it returns false'. Refute it at one input. -/
def termsMembersWrong : ChangeSpec := { name := "termsMembers", fn := fun _ => fun
  | [d1, d2, d3] => { results := [.lit (.bool false)], args := [d1, d2, d3] }
  | _ => none }
def TermsMembersWrongFalsely : Prop := termsMembersRow.holds Try.pinned (OpenSpec.ofChange termsMembersWrong)

/-- 'sizarlaw06.TermsUnique': WHATEVER THE INPUT: true; the input reads as it did. -/
def termsUniqueSpec : ChangeSpec := { name := "termsUnique", fn := fun _ => fun
  | [d1, d2] => { results := [.lit (.bool true)], args := [d1, d2] }
  | _ => none }
def termsUniqueRow : OpenClaim := { program := "ythghfcbnhdjmiaa", sum := "e84b421b9b8c948717caa336f88112d59cf783e3744038abcff5e3c90be25895", func := "sizar/sizarlaw06.TermsUnique", spec := "termsUnique", unfollowed := true, recurses := true, apart := false }
def TermsUniqueSaid : Prop := termsUniqueRow.holds Try.pinned (OpenSpec.ofChange termsUniqueSpec)

/-- ITS FALSE NEIGHBOUR: 'it returns false'. Refute it at one input. -/
def termsUniqueWrong : ChangeSpec := { name := "termsUnique", fn := fun _ => fun
  | [d1, d2] => { results := [.lit (.bool false)], args := [d1, d2] }
  | _ => none }
def TermsUniqueWrongFalsely : Prop := termsUniqueRow.holds Try.pinned (OpenSpec.ofChange termsUniqueWrong)

/-- 'sizarlaw06.TermsParts': WHATEVER THE INPUT: true; the input reads as it did. -/
def termsPartsSpec : ChangeSpec := { name := "termsParts", fn := fun _ => fun
  | [d1, d2] => { results := [.lit (.bool true)], args := [d1, d2] }
  | _ => none }
def termsPartsRow : OpenClaim := { program := "ythghfcbnhdjmiaa", sum := "e84b421b9b8c948717caa336f88112d59cf783e3744038abcff5e3c90be25895", func := "sizar/sizarlaw06.TermsParts", spec := "termsParts", unfollowed := true, recurses := true, apart := false }
def TermsPartsSaid : Prop := termsPartsRow.holds Try.pinned (OpenSpec.ofChange termsPartsSpec)

/-- ITS FALSE NEIGHBOUR: 'it returns false'. Refute it at one input. -/
def termsPartsWrong : ChangeSpec := { name := "termsParts", fn := fun _ => fun
  | [d1, d2] => { results := [.lit (.bool false)], args := [d1, d2] }
  | _ => none }
def TermsPartsWrongFalsely : Prop := termsPartsRow.holds Try.pinned (OpenSpec.ofChange termsPartsWrong)

/-- 'sizarlaw06.TermsSizes': WHATEVER THE INPUT: true; the input reads as it did. -/
def termsSizesSpec : ChangeSpec := { name := "termsSizes", fn := fun _ => fun
  | [d1, d2] => { results := [.lit (.bool true)], args := [d1, d2] }
  | _ => none }
def termsSizesRow : OpenClaim := { program := "ythghfcbnhdjmiaa", sum := "e84b421b9b8c948717caa336f88112d59cf783e3744038abcff5e3c90be25895", func := "sizar/sizarlaw06.TermsSizes", spec := "termsSizes", unfollowed := true, recurses := true, apart := false }
def TermsSizesSaid : Prop := termsSizesRow.holds Try.pinned (OpenSpec.ofChange termsSizesSpec)

/-- ITS FALSE NEIGHBOUR: 'it returns false'. Refute it at one input. -/
def termsSizesWrong : ChangeSpec := { name := "termsSizes", fn := fun _ => fun
  | [d1, d2] => { results := [.lit (.bool false)], args := [d1, d2] }
  | _ => none }
def TermsSizesWrongFalsely : Prop := termsSizesRow.holds Try.pinned (OpenSpec.ofChange termsSizesWrong)

/-- 'sizarlaw06.TermsOrder': WHATEVER THE INPUT: true; the input reads as it did. -/
def termsOrderSpec : ChangeSpec := { name := "termsOrder", fn := fun _ => fun
  | [d1, d2, d3] => { results := [.lit (.bool true)], args := [d1, d2, d3] }
  | _ => none }
def termsOrderRow : OpenClaim := { program := "ythghfcbnhdjmiaa", sum := "e84b421b9b8c948717caa336f88112d59cf783e3744038abcff5e3c90be25895", func := "sizar/sizarlaw06.TermsOrder", spec := "termsOrder", unfollowed := true, recurses := true, apart := false }
def TermsOrderSaid : Prop := termsOrderRow.holds Try.pinned (OpenSpec.ofChange termsOrderSpec)

/-- ITS FALSE NEIGHBOUR: 'it returns false'. Refute it at one input. -/
def termsOrderWrong : ChangeSpec := { name := "termsOrder", fn := fun _ => fun
  | [d1, d2, d3] => { results := [.lit (.bool false)], args := [d1, d2, d3] }
  | _ => none }
def TermsOrderWrongFalsely : Prop := termsOrderRow.holds Try.pinned (OpenSpec.ofChange termsOrderWrong)

/- THE SECOND FORM. 'bulk': how many values and letters a reading holds, each counted each time it is reached (what is shared counts as often as it is met; a slice's spare places count too). A statement '..UptoSaid' is the law's where the arguments, and the package variables that the reading takes, are together of bulk at most 1048576: NARROWER than '..Said'. Prove '..Said' where nothing that the law and all that it calls make is longer than what came in: it says more and counts as full. Else prove '..UptoSaid'. A law counts once. -/
mutual
def uptoBulk {H : Type} : DataW H → Nat
  | .lit (.string bytes) => bytes.length + 1
  | .lit _ => 1
  | .nil => 1
  | .ptr d => uptoBulk d + 1
  | .slice elems spare => uptoBulkAll elems + uptoBulkAll spare + 1
  | .agg parts => uptoBulkAll parts + 1
  | .iface _ d => uptoBulk d + 1
  | .map entries => uptoBulkEntries entries + 1
  | .held _ => 1
def uptoBulkAll {H : Type} : List (DataW H) → Nat
  | [] => 0
  | d :: r => uptoBulk d + uptoBulkAll r
def uptoBulkEntries {H : Type} : List (Lit × DataW H) → Nat
  | [] => 0
  | x :: r => uptoBulkEntry x + uptoBulkEntries r
def uptoBulkEntry {H : Type} : Lit × DataW H → Nat
  | (.string bytes, d) => bytes.length + uptoBulk d + 1
  | (_, d) => uptoBulk d + 1
 end
def uptoSmall : (H : Type) → List (DataW H) → Bool := fun _ ds => decide (uptoBulkAll ds ≤ 1048576)
def OpenSpec.upto (s : _root_.Go.ChangeSpec) : _root_.Go.OpenSpec := { _root_.Go.OpenSpec.ofChange s with cond := some uptoSmall }

/-- 'sizarlaw06.TermsCountSpec', WHERE WHAT IT READS IS OF BULK AT MOST 1048576: true; the input reads as it did. -/
def termsCountSpecUptoRow : OpenClaim := { program := "ythghfcbnhdjmiaa", sum := "e84b421b9b8c948717caa336f88112d59cf783e3744038abcff5e3c90be25895", func := "sizar/sizarlaw06.TermsCountSpec", spec := "termsCountSpec", unfollowed := true, recurses := true, apart := false, narrowed := true }
def TermsCountSpecUptoSaid : Prop := termsCountSpecUptoRow.holds Try.pinned (OpenSpec.upto termsCountSpecSpec)

/-- 'sizarlaw06.TermsUnionSpec', WHERE WHAT IT READS IS OF BULK AT MOST 1048576: true; the input reads as it did. -/
def termsUnionSpecUptoRow : OpenClaim := { program := "ythghfcbnhdjmiaa", sum := "e84b421b9b8c948717caa336f88112d59cf783e3744038abcff5e3c90be25895", func := "sizar/sizarlaw06.TermsUnionSpec", spec := "termsUnionSpec", unfollowed := true, recurses := true, apart := false, narrowed := true }
def TermsUnionSpecUptoSaid : Prop := termsUnionSpecUptoRow.holds Try.pinned (OpenSpec.upto termsUnionSpecSpec)

/-- 'sizarlaw06.TermsMembers', WHERE WHAT IT READS IS OF BULK AT MOST 1048576: true; the input reads as it did. -/
def termsMembersUptoRow : OpenClaim := { program := "ythghfcbnhdjmiaa", sum := "e84b421b9b8c948717caa336f88112d59cf783e3744038abcff5e3c90be25895", func := "sizar/sizarlaw06.TermsMembers", spec := "termsMembers", unfollowed := true, recurses := true, apart := false, narrowed := true }
def TermsMembersUptoSaid : Prop := termsMembersUptoRow.holds Try.pinned (OpenSpec.upto termsMembersSpec)

/-- 'sizarlaw06.TermsUnique', WHERE WHAT IT READS IS OF BULK AT MOST 1048576: true; the input reads as it did. -/
def termsUniqueUptoRow : OpenClaim := { program := "ythghfcbnhdjmiaa", sum := "e84b421b9b8c948717caa336f88112d59cf783e3744038abcff5e3c90be25895", func := "sizar/sizarlaw06.TermsUnique", spec := "termsUnique", unfollowed := true, recurses := true, apart := false, narrowed := true }
def TermsUniqueUptoSaid : Prop := termsUniqueUptoRow.holds Try.pinned (OpenSpec.upto termsUniqueSpec)

/-- 'sizarlaw06.TermsParts', WHERE WHAT IT READS IS OF BULK AT MOST 1048576: true; the input reads as it did. -/
def termsPartsUptoRow : OpenClaim := { program := "ythghfcbnhdjmiaa", sum := "e84b421b9b8c948717caa336f88112d59cf783e3744038abcff5e3c90be25895", func := "sizar/sizarlaw06.TermsParts", spec := "termsParts", unfollowed := true, recurses := true, apart := false, narrowed := true }
def TermsPartsUptoSaid : Prop := termsPartsUptoRow.holds Try.pinned (OpenSpec.upto termsPartsSpec)

/-- 'sizarlaw06.TermsSizes', WHERE WHAT IT READS IS OF BULK AT MOST 1048576: true; the input reads as it did. -/
def termsSizesUptoRow : OpenClaim := { program := "ythghfcbnhdjmiaa", sum := "e84b421b9b8c948717caa336f88112d59cf783e3744038abcff5e3c90be25895", func := "sizar/sizarlaw06.TermsSizes", spec := "termsSizes", unfollowed := true, recurses := true, apart := false, narrowed := true }
def TermsSizesUptoSaid : Prop := termsSizesUptoRow.holds Try.pinned (OpenSpec.upto termsSizesSpec)

/-- 'sizarlaw06.TermsOrder', WHERE WHAT IT READS IS OF BULK AT MOST 1048576: true; the input reads as it did. -/
def termsOrderUptoRow : OpenClaim := { program := "ythghfcbnhdjmiaa", sum := "e84b421b9b8c948717caa336f88112d59cf783e3744038abcff5e3c90be25895", func := "sizar/sizarlaw06.TermsOrder", spec := "termsOrder", unfollowed := true, recurses := true, apart := false, narrowed := true }
def TermsOrderUptoSaid : Prop := termsOrderUptoRow.holds Try.pinned (OpenSpec.upto termsOrderSpec)

end Rows
end Go.Proofs.Ythghfcbnhdjmiaa
