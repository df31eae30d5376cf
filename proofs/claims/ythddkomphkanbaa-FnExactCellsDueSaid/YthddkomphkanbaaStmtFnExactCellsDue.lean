/- The pure statement behind FnExactCellsDue: over numbers and lists alone. -/
import Derived.Test.YthddkomphkanbaaGnCellsDue
namespace Go.Proofs.Ythddkomphkanbaa.StmtFnExactCellsDue
open Go Go.RowKit Go.Proofs.YthddkomphkanbaaW.PrintWords Go.Proofs.Ythddkomphkanbaa.Vm Go.Proofs.Ythddkomphkanbaa.Run
def wfE3 (x : Int) : Prop := (Lit.int .i64 x).wf = true
def wfE177 (x : (Int × Int × Int × Int × Int × (Int × (Int × Int) × Int × Int × (List Int)))) : Prop := ((Lit.int .i64 x.1).wf = true ∧ (Lit.int .i64 x.2.1).wf = true ∧ (Lit.int .i64 x.2.2.1).wf = true ∧ (Lit.int .i64 x.2.2.2.1).wf = true ∧ (Lit.int .i64 x.2.2.2.2.1).wf = true ∧ ((Lit.int .i64 x.2.2.2.2.2.1).wf = true ∧ ((Lit.int .i64 x.2.2.2.2.2.2.1.1).wf = true ∧ (Lit.int .u64 x.2.2.2.2.2.2.1.2).wf = true) ∧ (Lit.int .i64 x.2.2.2.2.2.2.2.1).wf = true ∧ (Lit.int .i64 x.2.2.2.2.2.2.2.2.1).wf = true ∧ (x.2.2.2.2.2.2.2.2.2.length ≤ maxLen ∧ ∀ y ∈ x.2.2.2.2.2.2.2.2.2, wfE3 y)))
def Stmt : Prop := ∀ (a0 : (List (Int × Int × Int × Int × Int × (Int × (Int × Int) × Int × Int × (List Int))))) (a1 : Int) (a2 : Int), ((a0.length ≤ maxLen ∧ ∀ y ∈ a0, wfE177 y)) → ((Lit.int .i64 a1).wf = true) → ((Lit.int .i64 a2).wf = true) → L.FnExactCellsDue a1 a2 a0 = some true
end Go.Proofs.Ythddkomphkanbaa.StmtFnExactCellsDue
