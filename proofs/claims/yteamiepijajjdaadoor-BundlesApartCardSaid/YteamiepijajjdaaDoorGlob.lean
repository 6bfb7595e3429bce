import Derived.Calls
namespace Go.Ab
def globs : List (Nat × Value) := [(0, .iface 138 (.agg #[.pointer (some ⟨1, 86, none⟩)]))]
end Go.Ab
