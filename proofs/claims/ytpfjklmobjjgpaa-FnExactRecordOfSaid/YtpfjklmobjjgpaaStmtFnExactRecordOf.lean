/- The pure statement behind FnExactRecordOf: over numbers and lists alone. -/
import Derived.Test.YtpfjklmobjjgpaaPFnExactRecordOfx0
import Derived.Test.YtpfjklmobjjgpaaPFnExactRecordOfx1
import Derived.Test.YtpfjklmobjjgpaaPFnExactRecordOfx2
namespace Go.Proofs.Ytpfjklmobjjgpaa.StmtFnExactRecordOf
open Go.RowKit Go.Proofs.YtpfjklmobjjgpaaW.PrintWords Go.Proofs.Ytpfjklmobjjgpaa.PFnExactRecordOf
def wfE5 (x : Int) : Prop := (Lit.int .u8 x).wf = true
def Stmt : Prop := ∀ (l0 : List Int), ((l0.length ≤ maxLen ∧ ∀ x ∈ l0, wfE5 x)) → ∃ k, laws_FnExactRecordOf.f k l0 = some true
end Go.Proofs.Ytpfjklmobjjgpaa.StmtFnExactRecordOf
