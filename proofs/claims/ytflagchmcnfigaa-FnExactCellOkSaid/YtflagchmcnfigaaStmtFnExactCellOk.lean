/- The pure statement behind FnExactCellOk: over numbers and lists alone. -/
import Derived.Test.YtflagchmcnfigaaGnCellOk
namespace Go.Proofs.Ytflagchmcnfigaa.StmtFnExactCellOk
open Go Go.RowKit Go.Proofs.YtflagchmcnfigaaW.PrintWords Go.Proofs.Ytflagchmcnfigaa.Vm Go.Proofs.Ytflagchmcnfigaa.Run
def wfE3 (x : Int) : Prop := (Lit.int .i64 x).wf = true
def Stmt : Prop := ∀ (a0_0 : Int) (a0_1 : Int) (a0_2 : Int) (a0_3 : Int) (a0_4 : Int) (a0_5 : Int) (a0_6 : Int) (a0_7 : Int) (a0_8 : Int) (a0_9 : Int) (a0_10 : (List Int)), ((Lit.int .i64 a0_0).wf = true) → ((Lit.int .i64 a0_1).wf = true) → ((Lit.int .i64 a0_2).wf = true) → ((Lit.int .i64 a0_3).wf = true) → ((Lit.int .i64 a0_4).wf = true) → ((Lit.int .i64 a0_5).wf = true) → ((Lit.int .i64 a0_6).wf = true) → ((Lit.int .u64 a0_7).wf = true) → ((Lit.int .i64 a0_8).wf = true) → ((Lit.int .i64 a0_9).wf = true) → ((a0_10.length ≤ maxLen ∧ ∀ y ∈ a0_10, wfE3 y)) → L.FnExactCellOk a0_0 a0_1 a0_2 a0_3 a0_4 a0_5 a0_6 a0_7 a0_8 a0_9 a0_10 = some true
end Go.Proofs.Ytflagchmcnfigaa.StmtFnExactCellOk
