/- The pure statement behind FnExactLogOf: over numbers and lists alone. -/
import Derived.Test.YtflagchmcnfigaaGnLogOf
namespace Go.Proofs.Ytflagchmcnfigaa.StmtFnExactLogOf
open Go Go.RowKit Go.Proofs.YtflagchmcnfigaaW.PrintWords Go.Proofs.Ytflagchmcnfigaa.Vm Go.Proofs.Ytflagchmcnfigaa.Run
def wfE148 (x : (Int × (Int × Int × Int × Int) × (Int × Int × Int × Int) × Int × Int)) : Prop := ((Lit.int .i64 x.1).wf = true ∧ ((Lit.int .i64 x.2.1.1).wf = true ∧ (Lit.int .i64 x.2.1.2.1).wf = true ∧ (Lit.int .i64 x.2.1.2.2.1).wf = true ∧ (Lit.int .i64 x.2.1.2.2.2).wf = true) ∧ ((Lit.int .i64 x.2.2.1.1).wf = true ∧ (Lit.int .i64 x.2.2.1.2.1).wf = true ∧ (Lit.int .i64 x.2.2.1.2.2.1).wf = true ∧ (Lit.int .i64 x.2.2.1.2.2.2).wf = true) ∧ (Lit.int .i64 x.2.2.2.1).wf = true ∧ (Lit.int .i64 x.2.2.2.2).wf = true)
def Stmt : Prop := ∀ (a0 : (List (Int × (Int × Int × Int × Int) × (Int × Int × Int × Int) × Int × Int))), ((a0.length ≤ maxLen ∧ ∀ y ∈ a0, wfE148 y)) → L.FnExactLogOf a0 = some true
end Go.Proofs.Ytflagchmcnfigaa.StmtFnExactLogOf
