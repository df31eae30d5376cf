/- The pure statement behind FnExactOpRead: over numbers and lists alone. -/
import Derived.Test.YtflagchmcnfigaaGnOpRead
namespace Go.Proofs.Ytflagchmcnfigaa.StmtFnExactOpRead
open Go Go.RowKit Go.Proofs.YtflagchmcnfigaaW.PrintWords Go.Proofs.Ytflagchmcnfigaa.Vm Go.Proofs.Ytflagchmcnfigaa.Run
def wfE5 (x : Int) : Prop := (Lit.int .u8 x).wf = true
def Stmt : Prop := ∀ (a0 : (List Int)), ((a0.length ≤ maxLen ∧ ∀ y ∈ a0, wfE5 y)) → L.FnExactOpRead a0 = some true
end Go.Proofs.Ytflagchmcnfigaa.StmtFnExactOpRead
