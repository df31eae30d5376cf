/- The pure statement behind FnExactLogRead: over numbers and lists alone. -/
import Derived.Test.YtflagchmcnfigaaGnLogRead
namespace Go.Proofs.Ytflagchmcnfigaa.StmtFnExactLogRead
open Go Go.RowKit Go.Proofs.YtflagchmcnfigaaW.PrintWords Go.Proofs.Ytflagchmcnfigaa.Vm Go.Proofs.Ytflagchmcnfigaa.Run
def wfE5 (x : Int) : Prop := (Lit.int .u8 x).wf = true
def Stmt : Prop := ∀ (a0 : (List Int)), ((a0.length ≤ maxLen ∧ ∀ y ∈ a0, wfE5 y)) → L.FnExactLogRead a0 = some true
end Go.Proofs.Ytflagchmcnfigaa.StmtFnExactLogRead
