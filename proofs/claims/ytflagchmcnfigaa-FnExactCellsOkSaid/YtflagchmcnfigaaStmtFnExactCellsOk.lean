/- The pure statement behind FnExactCellsOk: over numbers and lists alone. -/
import Derived.Test.YtflagchmcnfigaaGnCellsOk
namespace Go.Proofs.Ytflagchmcnfigaa.StmtFnExactCellsOk
open Go Go.RowKit Go.Proofs.YtflagchmcnfigaaW.PrintWords Go.Proofs.Ytflagchmcnfigaa.Vm Go.Proofs.Ytflagchmcnfigaa.Run
def wfE3 (x : Int) : Prop := (Lit.int .i64 x).wf = true
def wfE83 (x : (Int × Int × Int × Int × Int × (Int × (Int × Int) × Int × Int × (List Int)))) : Prop := ((Lit.int .i64 x.1).wf = true ∧ (Lit.int .i64 x.2.1).wf = true ∧ (Lit.int .i64 x.2.2.1).wf = true ∧ (Lit.int .i64 x.2.2.2.1).wf = true ∧ (Lit.int .i64 x.2.2.2.2.1).wf = true ∧ ((Lit.int .i64 x.2.2.2.2.2.1).wf = true ∧ ((Lit.int .i64 x.2.2.2.2.2.2.1.1).wf = true ∧ (Lit.int .u64 x.2.2.2.2.2.2.1.2).wf = true) ∧ (Lit.int .i64 x.2.2.2.2.2.2.2.1).wf = true ∧ (Lit.int .i64 x.2.2.2.2.2.2.2.2.1).wf = true ∧ (x.2.2.2.2.2.2.2.2.2.length ≤ maxLen ∧ ∀ y ∈ x.2.2.2.2.2.2.2.2.2, wfE3 y)))
def Stmt : Prop := ∀ (a0 : (List (Int × Int × Int × Int × Int × (Int × (Int × Int) × Int × Int × (List Int))))), ((a0.length ≤ maxLen ∧ ∀ y ∈ a0, wfE83 y)) → L.FnExactCellsOk a0 = some true
end Go.Proofs.Ytflagchmcnfigaa.StmtFnExactCellsOk
