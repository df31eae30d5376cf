/- The pure statement behind FnExactCellsOf: over numbers and lists alone. -/
import Derived.Test.YthddkomphkanbaaGnCellsOf
namespace Go.Proofs.Ythddkomphkanbaa.StmtFnExactCellsOf
open Go Go.RowKit Go.Proofs.YthddkomphkanbaaW.PrintWords Go.Proofs.Ythddkomphkanbaa.Vm Go.Proofs.Ythddkomphkanbaa.Run
def wfE3 (x : Int) : Prop := (Lit.int .i64 x).wf = true
def wfE177 (x : (Int × Int × Int × Int × Int × (Int × (Int × Int) × Int × Int × (List Int)))) : Prop := ((Lit.int .i64 x.1).wf = true ∧ (Lit.int .i64 x.2.1).wf = true ∧ (Lit.int .i64 x.2.2.1).wf = true ∧ (Lit.int .i64 x.2.2.2.1).wf = true ∧ (Lit.int .i64 x.2.2.2.2.1).wf = true ∧ ((Lit.int .i64 x.2.2.2.2.2.1).wf = true ∧ ((Lit.int .i64 x.2.2.2.2.2.2.1.1).wf = true ∧ (Lit.int .u64 x.2.2.2.2.2.2.1.2).wf = true) ∧ (Lit.int .i64 x.2.2.2.2.2.2.2.1).wf = true ∧ (Lit.int .i64 x.2.2.2.2.2.2.2.2.1).wf = true ∧ (x.2.2.2.2.2.2.2.2.2.length ≤ maxLen ∧ ∀ y ∈ x.2.2.2.2.2.2.2.2.2, wfE3 y)))
def Stmt : Prop := ∀ (a0 : (List (Int × Int × Int × Int × Int × (Int × (Int × Int) × Int × Int × (List Int))))) (a1 : Int), ((a0.length ≤ maxLen ∧ ∀ y ∈ a0, wfE177 y)) → ((Lit.int .i64 a1).wf = true) → L.FnExactCellsOf a1 a0 = some true
end Go.Proofs.Ythddkomphkanbaa.StmtFnExactCellsOf
