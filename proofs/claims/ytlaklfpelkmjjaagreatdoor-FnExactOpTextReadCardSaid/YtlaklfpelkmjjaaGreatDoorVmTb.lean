/- The tables at rest that the library's functions read: a package variable's block, and its cells. -/
import Derived.Below
import Derived.Lib.LaidTab
import Derived.Lib.ItoaNum
import Derived.Lib.Space
namespace Go.Proofs.YtlaklfpelkmjjaaGreatDoor.Vm
open Go
def isL (l : List Value) : List Value → Prop := fun cs => cs = l
def anyN (k : IntKind) : List Value → Prop := fun cs => ∃ m, cs = [.int k m]
def anyF : List Value → Prop := fun cs => ∃ t p, cs = [.iface t p]
def tabL : List (Nat × (List Value → Prop)) := [(7, isL (Lib.pow10Tab.map (Value.int .u64))), (0, isL (Lib.asciiSpaceTab.map (Value.int .u8))), (4, anyN .i64), (2, anyF), (3, anyF)]
end Go.Proofs.YtlaklfpelkmjjaaGreatDoor.Vm
