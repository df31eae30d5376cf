/- The pure statement behind FnExactBoxNew: over numbers and lists alone. -/
import Derived.Test.YtflagchmcnfigaaGnBoxNew
namespace Go.Proofs.Ytflagchmcnfigaa.StmtFnExactBoxNew
open Go Go.RowKit Go.Proofs.YtflagchmcnfigaaW.PrintWords Go.Proofs.Ytflagchmcnfigaa.Vm Go.Proofs.Ytflagchmcnfigaa.Run

def Stmt : Prop := ∀ (a0 : Int) (a1 : Int), ((Lit.int .i64 a0).wf = true) → ((Lit.int .i64 a1).wf = true) → L.FnExactBoxNew a0 a1 = some true
end Go.Proofs.Ytflagchmcnfigaa.StmtFnExactBoxNew
