/- The pure statement behind FnExactOpTextRead: over numbers and lists alone. -/
import Derived.Test.YtlaklfpelkmjjaaGreatDoorGnOpTextRead
namespace Go.Proofs.YtlaklfpelkmjjaaGreatDoor.StmtFnExactOpTextRead
open Go Go.RowKit Go.Proofs.YtlaklfpelkmjjaaGreatDoorW.PrintWords Go.Proofs.YtlaklfpelkmjjaaGreatDoor.Vm Go.Proofs.YtlaklfpelkmjjaaGreatDoor.Run

def Stmt : Prop := ∀ (a0 : ByteArray), (a0.size ≤ maxLen) → L.FnExactOpTextRead a0 = some true
end Go.Proofs.YtlaklfpelkmjjaaGreatDoor.StmtFnExactOpTextRead
