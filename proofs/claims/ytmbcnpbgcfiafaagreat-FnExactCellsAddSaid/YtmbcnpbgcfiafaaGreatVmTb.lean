/- The tables at rest that the library's functions read: a package variable's block, and its cells. -/
import Derived.Below
namespace Go.Proofs.YtmbcnpbgcfiafaaGreat.Vm
open Go
def isL (l : List Value) : List Value → Prop := fun cs => cs = l
def anyN (k : IntKind) : List Value → Prop := fun cs => ∃ m, cs = [.int k m]
def anyF : List Value → Prop := fun cs => ∃ t p, cs = [.iface t p]
def tabL : List (Nat × (List Value → Prop)) := []
end Go.Proofs.YtmbcnpbgcfiafaaGreat.Vm
