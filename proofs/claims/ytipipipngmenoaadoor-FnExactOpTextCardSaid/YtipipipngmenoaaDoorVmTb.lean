/- The tables at rest that the library's functions read: a package variable's block, and its cells. -/
import Derived.Below
import Derived.Lib.LaidTab
import Derived.Lib.ItoaNum
import Derived.Lib.Space
namespace Go.Proofs.YtipipipngmenoaaDoor.Vm
open Go
def tabL : List (Nat × List Value) := [(2, Lib.pow10Tab.map (Value.int .u64)), (0, Lib.asciiSpaceTab.map (Value.int .u8))]
end Go.Proofs.YtipipipngmenoaaDoor.Vm
