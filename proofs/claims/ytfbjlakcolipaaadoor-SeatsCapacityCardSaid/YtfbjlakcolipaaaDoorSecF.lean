/-
  The reference of chapter 23: CheckAll.
-/
import Derived.Test.YtfbjlakcolipaaaDoorSecE
namespace Go.Proofs.YtfbjlakcolipaaaDoor
set_option linter.unusedSimpArgs false
set_option linter.unusedVariables false
open Go Go.Ab
set_option maxRecDepth 100000
set_option maxHeartbeats 0
def prevS (l : List Sec) (k : Nat) : Int := if k = 0 then -1 else (l.getD (k - 1) default).id
end Go.Proofs.YtfbjlakcolipaaaDoor
