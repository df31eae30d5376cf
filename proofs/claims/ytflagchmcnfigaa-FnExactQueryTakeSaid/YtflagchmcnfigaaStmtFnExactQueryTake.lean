/- The pure statement behind FnExactQueryTake: over numbers and lists alone. -/
import Derived.Test.YtflagchmcnfigaaGnQueryTake
namespace Go.Proofs.Ytflagchmcnfigaa.StmtFnExactQueryTake
open Go Go.RowKit Go.Proofs.YtflagchmcnfigaaW.PrintWords Go.Proofs.Ytflagchmcnfigaa.Vm Go.Proofs.Ytflagchmcnfigaa.Run
def wfE171 (x : (Int × Int)) : Prop := ((Lit.int .i64 x.1).wf = true ∧ (Lit.int .i64 x.2).wf = true)
def Stmt : Prop := ∀ (a0_0 : (List (Int × Int))) (a0_1 : (List (Int × Int))) (a0_2 : Int) (a0_3 : Int) (a0_4 : Int) (a0_5 : Int) (a0_6 : Int) (a1_0 : Int) (a1_1 : Int) (a1_2 : Int) (a1_3 : Int), ((a0_0.length ≤ maxLen ∧ ∀ y ∈ a0_0, wfE171 y)) → ((a0_1.length ≤ maxLen ∧ ∀ y ∈ a0_1, wfE171 y)) → ((Lit.int .i64 a0_2).wf = true) → ((Lit.int .i64 a0_3).wf = true) → ((Lit.int .i64 a0_4).wf = true) → ((Lit.int .i64 a0_5).wf = true) → ((Lit.int .i64 a0_6).wf = true) → ((Lit.int .i64 a1_0).wf = true) → ((Lit.int .i64 a1_1).wf = true) → ((Lit.int .i64 a1_2).wf = true) → ((Lit.int .i64 a1_3).wf = true) → L.FnExactQueryTake a0_2 a0_3 a0_4 a0_5 a0_6 a1_0 a1_1 a1_2 a1_3 a0_0 a0_1 = some true
end Go.Proofs.Ytflagchmcnfigaa.StmtFnExactQueryTake
