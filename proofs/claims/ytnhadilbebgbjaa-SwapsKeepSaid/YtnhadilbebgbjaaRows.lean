/-
  No cell of these rows narrows 'for every input' (looked for: loops, veiled, ifaces, maps, wideKeys, modest, calm, conditions, laid).
  DERIVED. THE GIVEN ROWS OF THIS SEAT. 7 by the template 'for every input the law returns true; each argument reads behind the call as it read before'; 0 by the template 'total and deterministic' (their statements: YtnhadilbebgbjaaTotals.lean).
  GIVEN WITH THE SEED: the statements are not yours to turn. If you find one false, say at which input.
  Laid BY PROGRAM, IN A SANDBOX (cutbox-rows.mjs): the forced cells as the released guide's own fill.sh prints them over the translation 0fa89b05e223286f… (all of the seat's roots in one cut). By AI agents, Wed Nov 11 2026. No macro, syntax, notation, axiom, sorry.
-/
import Derived.Test.YtnhadilbebgbjaaChecked
import GoSem.Claim
import GoSem.ClaimJoined
import GoSem.ClaimMapViews
import Derived.JoinedTies
import Derived.KernelRfl
namespace Go.Proofs.Ytnhadilbebgbjaa
/- THE CELL 'sum', in the pinned program and in every row, IS THE sha256 OF THE DUMP (.gsa) THAT YtnhadilbebgbjaaProg.lean LOADS. Nothing in Lean hashes anything: it is a label: what it is worth is what the hold of that sum in a sandbox is worth. -/
noncomputable def Try.pinned : Pinned := { name := "ytnhadilbebgbjaa", sum := "0fa89b05e223286fddb58d4bd6446962b91466c48bac69dbfd2a39c1170678b0", checked := Try.checked }
namespace Rows
def none {H : Type} : Left H := { results := [], args := [] }

/-- 'sizarlaw30.SwapsAddSpec': WHATEVER THE INPUT: true; the input reads as it did. -/
def swapsAddSpecSpec : ChangeSpec := { name := "swapsAddSpec", fn := fun _ => fun
  | [d1, d2, d3, d4] => { results := [.lit (.bool true)], args := [d1, d2, d3, d4] }
  | _ => none }
def swapsAddSpecRow : OpenClaim := { program := "ytnhadilbebgbjaa", sum := "0fa89b05e223286fddb58d4bd6446962b91466c48bac69dbfd2a39c1170678b0", func := "sizar/sizarlaw30.SwapsAddSpec", spec := "swapsAddSpec", unfollowed := true, recurses := true, plainKeys := false, apart := false }
def SwapsAddSpecSaid : Prop := swapsAddSpecRow.holds Try.pinned (OpenSpec.ofChange swapsAddSpecSpec)

/-- ITS FALSE NEIGHBOUR: 'it returns false'. Refute it at one input. -/
def swapsAddSpecWrong : ChangeSpec := { name := "swapsAddSpec", fn := fun _ => fun
  | [d1, d2, d3, d4] => { results := [.lit (.bool false)], args := [d1, d2, d3, d4] }
  | _ => none }
def SwapsAddSpecWrongFalsely : Prop := swapsAddSpecRow.holds Try.pinned (OpenSpec.ofChange swapsAddSpecWrong)

/-- 'sizarlaw30.SwapsCycleSpec': WHATEVER THE INPUT: true; the input reads as it did. -/
def swapsCycleSpecSpec : ChangeSpec := { name := "swapsCycleSpec", fn := fun _ => fun
  | [d] => { results := [.lit (.bool true)], args := [d] }
  | _ => none }
def swapsCycleSpecRow : OpenClaim := { program := "ytnhadilbebgbjaa", sum := "0fa89b05e223286fddb58d4bd6446962b91466c48bac69dbfd2a39c1170678b0", func := "sizar/sizarlaw30.SwapsCycleSpec", spec := "swapsCycleSpec", unfollowed := true, recurses := true, plainKeys := false, apart := false }
def SwapsCycleSpecSaid : Prop := swapsCycleSpecRow.holds Try.pinned (OpenSpec.ofChange swapsCycleSpecSpec)

/-- ITS FALSE NEIGHBOUR: 'it returns false'. Refute it at one input. -/
def swapsCycleSpecWrong : ChangeSpec := { name := "swapsCycleSpec", fn := fun _ => fun
  | [d] => { results := [.lit (.bool false)], args := [d] }
  | _ => none }
def SwapsCycleSpecWrongFalsely : Prop := swapsCycleSpecRow.holds Try.pinned (OpenSpec.ofChange swapsCycleSpecWrong)

/-- 'sizarlaw30.SwapsExecuteSpec': WHATEVER THE INPUT: true; the input reads as it did. -/
def swapsExecuteSpecSpec : ChangeSpec := { name := "swapsExecuteSpec", fn := fun _ => fun
  | [d1, d2, d3] => { results := [.lit (.bool true)], args := [d1, d2, d3] }
  | _ => none }
def swapsExecuteSpecRow : OpenClaim := { program := "ytnhadilbebgbjaa", sum := "0fa89b05e223286fddb58d4bd6446962b91466c48bac69dbfd2a39c1170678b0", func := "sizar/sizarlaw30.SwapsExecuteSpec", spec := "swapsExecuteSpec", unfollowed := true, recurses := true, plainKeys := false, apart := false }
def SwapsExecuteSpecSaid : Prop := swapsExecuteSpecRow.holds Try.pinned (OpenSpec.ofChange swapsExecuteSpecSpec)

/-- ITS FALSE NEIGHBOUR: 'it returns false'. Refute it at one input. -/
def swapsExecuteSpecWrong : ChangeSpec := { name := "swapsExecuteSpec", fn := fun _ => fun
  | [d1, d2, d3] => { results := [.lit (.bool false)], args := [d1, d2, d3] }
  | _ => none }
def SwapsExecuteSpecWrongFalsely : Prop := swapsExecuteSpecRow.holds Try.pinned (OpenSpec.ofChange swapsExecuteSpecWrong)

/-- 'sizarlaw30.SwapsFound': WHATEVER THE INPUT: true; the input reads as it did. -/
def swapsFoundSpec : ChangeSpec := { name := "swapsFound", fn := fun _ => fun
  | [d] => { results := [.lit (.bool true)], args := [d] }
  | _ => none }
def swapsFoundRow : OpenClaim := { program := "ytnhadilbebgbjaa", sum := "0fa89b05e223286fddb58d4bd6446962b91466c48bac69dbfd2a39c1170678b0", func := "sizar/sizarlaw30.SwapsFound", spec := "swapsFound", unfollowed := true, recurses := true, plainKeys := false, apart := false }
def SwapsFoundSaid : Prop := swapsFoundRow.holds Try.pinned (OpenSpec.ofChange swapsFoundSpec)

/-- ITS FALSE NEIGHBOUR: 'it returns false'. Refute it at one input. -/
def swapsFoundWrong : ChangeSpec := { name := "swapsFound", fn := fun _ => fun
  | [d] => { results := [.lit (.bool false)], args := [d] }
  | _ => none }
def SwapsFoundWrongFalsely : Prop := swapsFoundRow.holds Try.pinned (OpenSpec.ofChange swapsFoundWrong)

/-- 'sizarlaw30.SwapsKeep': WHATEVER THE INPUT: true; the input reads as it did. -/
def swapsKeepSpec : ChangeSpec := { name := "swapsKeep", fn := fun _ => fun
  | [d1, d2, d3] => { results := [.lit (.bool true)], args := [d1, d2, d3] }
  | _ => none }
def swapsKeepRow : OpenClaim := { program := "ytnhadilbebgbjaa", sum := "0fa89b05e223286fddb58d4bd6446962b91466c48bac69dbfd2a39c1170678b0", func := "sizar/sizarlaw30.SwapsKeep", spec := "swapsKeep", unfollowed := true, recurses := true, plainKeys := false, apart := false }
def SwapsKeepSaid : Prop := swapsKeepRow.holds Try.pinned (OpenSpec.ofChange swapsKeepSpec)

/-- ITS FALSE NEIGHBOUR: 'it returns false'. Refute it at one input. -/
def swapsKeepWrong : ChangeSpec := { name := "swapsKeep", fn := fun _ => fun
  | [d1, d2, d3] => { results := [.lit (.bool false)], args := [d1, d2, d3] }
  | _ => none }
def SwapsKeepWrongFalsely : Prop := swapsKeepRow.holds Try.pinned (OpenSpec.ofChange swapsKeepWrong)

/-- 'sizarlaw30.SwapsGet': WHATEVER THE INPUT: true; the input reads as it did. -/
def swapsGetSpec : ChangeSpec := { name := "swapsGet", fn := fun _ => fun
  | [d1, d2] => { results := [.lit (.bool true)], args := [d1, d2] }
  | _ => none }
def swapsGetRow : OpenClaim := { program := "ytnhadilbebgbjaa", sum := "0fa89b05e223286fddb58d4bd6446962b91466c48bac69dbfd2a39c1170678b0", func := "sizar/sizarlaw30.SwapsGet", spec := "swapsGet", unfollowed := true, recurses := true, plainKeys := false, apart := false }
def SwapsGetSaid : Prop := swapsGetRow.holds Try.pinned (OpenSpec.ofChange swapsGetSpec)

/-- ITS FALSE NEIGHBOUR: 'it returns false'. Refute it at one input. -/
def swapsGetWrong : ChangeSpec := { name := "swapsGet", fn := fun _ => fun
  | [d1, d2] => { results := [.lit (.bool false)], args := [d1, d2] }
  | _ => none }
def SwapsGetWrongFalsely : Prop := swapsGetRow.holds Try.pinned (OpenSpec.ofChange swapsGetWrong)

/-- 'sizarlaw30.SwapsMore': WHATEVER THE INPUT: true; the input reads as it did. -/
def swapsMoreSpec : ChangeSpec := { name := "swapsMore", fn := fun _ => fun
  | [d1, d2, d3, d4] => { results := [.lit (.bool true)], args := [d1, d2, d3, d4] }
  | _ => none }
def swapsMoreRow : OpenClaim := { program := "ytnhadilbebgbjaa", sum := "0fa89b05e223286fddb58d4bd6446962b91466c48bac69dbfd2a39c1170678b0", func := "sizar/sizarlaw30.SwapsMore", spec := "swapsMore", unfollowed := true, recurses := true, plainKeys := false, apart := false }
def SwapsMoreSaid : Prop := swapsMoreRow.holds Try.pinned (OpenSpec.ofChange swapsMoreSpec)

/-- ITS FALSE NEIGHBOUR: 'it returns false'. Refute it at one input. -/
def swapsMoreWrong : ChangeSpec := { name := "swapsMore", fn := fun _ => fun
  | [d1, d2, d3, d4] => { results := [.lit (.bool false)], args := [d1, d2, d3, d4] }
  | _ => none }
def SwapsMoreWrongFalsely : Prop := swapsMoreRow.holds Try.pinned (OpenSpec.ofChange swapsMoreWrong)

/- THE SECOND FORM. 'bulk': how many values and letters a reading holds, each counted each time it is reached (what is shared counts as often as it is met; a slice's spare places count too). A statement '..UptoSaid' is the law's where the arguments, and the package variables that the reading takes, are together of bulk at most 1048576: NARROWER than '..Said'. Prove '..Said' where nothing that the law and all that it calls make is longer than what came in: it says more and counts as full. Else prove '..UptoSaid'. A law counts once. -/
mutual
def uptoBulk {H : Type} : DataW H → Nat
  | .lit (.string bytes) => bytes.length + 1
  | .lit _ => 1
  | .nil => 1
  | .ptr d => uptoBulk d + 1
  | .slice elems spare => uptoBulkAll elems + uptoBulkAll spare + 1
  | .agg parts => uptoBulkAll parts + 1
  | .iface _ d => uptoBulk d + 1
  | .map entries => uptoBulkEntries entries + 1
  | .held _ => 1
def uptoBulkAll {H : Type} : List (DataW H) → Nat
  | [] => 0
  | d :: r => uptoBulk d + uptoBulkAll r
def uptoBulkEntries {H : Type} : List (Lit × DataW H) → Nat
  | [] => 0
  | x :: r => uptoBulkEntry x + uptoBulkEntries r
def uptoBulkEntry {H : Type} : Lit × DataW H → Nat
  | (.string bytes, d) => bytes.length + uptoBulk d + 1
  | (_, d) => uptoBulk d + 1
 end
def uptoSmall : (H : Type) → List (DataW H) → Bool := fun _ ds => decide (uptoBulkAll ds ≤ 1048576)
def OpenSpec.upto (s : _root_.Go.ChangeSpec) : _root_.Go.OpenSpec := { _root_.Go.OpenSpec.ofChange s with cond := some uptoSmall }

/-- 'sizarlaw30.SwapsAddSpec', WHERE WHAT IT READS IS OF BULK AT MOST 1048576: true; the input reads as it did. -/
def swapsAddSpecUptoRow : OpenClaim := { program := "ytnhadilbebgbjaa", sum := "0fa89b05e223286fddb58d4bd6446962b91466c48bac69dbfd2a39c1170678b0", func := "sizar/sizarlaw30.SwapsAddSpec", spec := "swapsAddSpec", unfollowed := true, recurses := true, plainKeys := false, apart := false, narrowed := true }
def SwapsAddSpecUptoSaid : Prop := swapsAddSpecUptoRow.holds Try.pinned (OpenSpec.upto swapsAddSpecSpec)

/-- 'sizarlaw30.SwapsCycleSpec', WHERE WHAT IT READS IS OF BULK AT MOST 1048576: true; the input reads as it did. -/
def swapsCycleSpecUptoRow : OpenClaim := { program := "ytnhadilbebgbjaa", sum := "0fa89b05e223286fddb58d4bd6446962b91466c48bac69dbfd2a39c1170678b0", func := "sizar/sizarlaw30.SwapsCycleSpec", spec := "swapsCycleSpec", unfollowed := true, recurses := true, plainKeys := false, apart := false, narrowed := true }
def SwapsCycleSpecUptoSaid : Prop := swapsCycleSpecUptoRow.holds Try.pinned (OpenSpec.upto swapsCycleSpecSpec)

/-- 'sizarlaw30.SwapsExecuteSpec', WHERE WHAT IT READS IS OF BULK AT MOST 1048576: true; the input reads as it did. -/
def swapsExecuteSpecUptoRow : OpenClaim := { program := "ytnhadilbebgbjaa", sum := "0fa89b05e223286fddb58d4bd6446962b91466c48bac69dbfd2a39c1170678b0", func := "sizar/sizarlaw30.SwapsExecuteSpec", spec := "swapsExecuteSpec", unfollowed := true, recurses := true, plainKeys := false, apart := false, narrowed := true }
def SwapsExecuteSpecUptoSaid : Prop := swapsExecuteSpecUptoRow.holds Try.pinned (OpenSpec.upto swapsExecuteSpecSpec)

/-- 'sizarlaw30.SwapsFound', WHERE WHAT IT READS IS OF BULK AT MOST 1048576: true; the input reads as it did. -/
def swapsFoundUptoRow : OpenClaim := { program := "ytnhadilbebgbjaa", sum := "0fa89b05e223286fddb58d4bd6446962b91466c48bac69dbfd2a39c1170678b0", func := "sizar/sizarlaw30.SwapsFound", spec := "swapsFound", unfollowed := true, recurses := true, plainKeys := false, apart := false, narrowed := true }
def SwapsFoundUptoSaid : Prop := swapsFoundUptoRow.holds Try.pinned (OpenSpec.upto swapsFoundSpec)

/-- 'sizarlaw30.SwapsKeep', WHERE WHAT IT READS IS OF BULK AT MOST 1048576: true; the input reads as it did. -/
def swapsKeepUptoRow : OpenClaim := { program := "ytnhadilbebgbjaa", sum := "0fa89b05e223286fddb58d4bd6446962b91466c48bac69dbfd2a39c1170678b0", func := "sizar/sizarlaw30.SwapsKeep", spec := "swapsKeep", unfollowed := true, recurses := true, plainKeys := false, apart := false, narrowed := true }
def SwapsKeepUptoSaid : Prop := swapsKeepUptoRow.holds Try.pinned (OpenSpec.upto swapsKeepSpec)

/-- 'sizarlaw30.SwapsGet', WHERE WHAT IT READS IS OF BULK AT MOST 1048576: true; the input reads as it did. -/
def swapsGetUptoRow : OpenClaim := { program := "ytnhadilbebgbjaa", sum := "0fa89b05e223286fddb58d4bd6446962b91466c48bac69dbfd2a39c1170678b0", func := "sizar/sizarlaw30.SwapsGet", spec := "swapsGet", unfollowed := true, recurses := true, plainKeys := false, apart := false, narrowed := true }
def SwapsGetUptoSaid : Prop := swapsGetUptoRow.holds Try.pinned (OpenSpec.upto swapsGetSpec)

/-- 'sizarlaw30.SwapsMore', WHERE WHAT IT READS IS OF BULK AT MOST 1048576: true; the input reads as it did. -/
def swapsMoreUptoRow : OpenClaim := { program := "ytnhadilbebgbjaa", sum := "0fa89b05e223286fddb58d4bd6446962b91466c48bac69dbfd2a39c1170678b0", func := "sizar/sizarlaw30.SwapsMore", spec := "swapsMore", unfollowed := true, recurses := true, plainKeys := false, apart := false, narrowed := true }
def SwapsMoreUptoSaid : Prop := swapsMoreUptoRow.holds Try.pinned (OpenSpec.upto swapsMoreSpec)

end Rows
end Go.Proofs.Ytnhadilbebgbjaa
