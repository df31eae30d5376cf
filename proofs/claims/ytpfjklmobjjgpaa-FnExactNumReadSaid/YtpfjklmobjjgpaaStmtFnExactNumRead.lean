/- The pure statement behind FnExactNumRead: over numbers and lists alone. -/
import Derived.Test.YtpfjklmobjjgpaaGnNumRead
namespace Go.Proofs.Ytpfjklmobjjgpaa.StmtFnExactNumRead
open Go Go.RowKit Go.Proofs.YtpfjklmobjjgpaaW.PrintWords Go.Proofs.Ytpfjklmobjjgpaa.Vm Go.Proofs.Ytpfjklmobjjgpaa.Run
def wfE5 (x : Int) : Prop := (Lit.int .u8 x).wf = true
def Stmt : Prop := ∀ (a0 : (List Int)) (a1 : Int), ((a0.length ≤ maxLen ∧ ∀ x ∈ a0, wfE5 x)) → ((Lit.int .i64 a1).wf = true) → L.FnExactNumRead a1 a0 = some true
end Go.Proofs.Ytpfjklmobjjgpaa.StmtFnExactNumRead
