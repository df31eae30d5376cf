/- The pure statement behind FnExactBoxOk: over numbers and lists alone. -/
import Derived.Test.YtflagchmcnfigaaGnBoxOk
namespace Go.Proofs.Ytflagchmcnfigaa.StmtFnExactBoxOk
open Go Go.RowKit Go.Proofs.YtflagchmcnfigaaW.PrintWords Go.Proofs.Ytflagchmcnfigaa.Vm Go.Proofs.Ytflagchmcnfigaa.Run
def wfE3 (x : Int) : Prop := (Lit.int .i64 x).wf = true
def wfE181 (x : (Int × Int × (Int × Int × Int × Int × Int × Int × (List Int) × Bool))) : Prop := ((Lit.int .i64 x.1).wf = true ∧ (Lit.int .i64 x.2.1).wf = true ∧ ((Lit.int .i64 x.2.2.1).wf = true ∧ (Lit.int .i64 x.2.2.2.1).wf = true ∧ (Lit.int .i64 x.2.2.2.2.1).wf = true ∧ (Lit.int .i64 x.2.2.2.2.2.1).wf = true ∧ (Lit.int .i64 x.2.2.2.2.2.2.1).wf = true ∧ (Lit.int .i64 x.2.2.2.2.2.2.2.1).wf = true ∧ (x.2.2.2.2.2.2.2.2.1.length ≤ maxLen ∧ ∀ y ∈ x.2.2.2.2.2.2.2.2.1, wfE3 y) ∧ True))
def wfE184 (x : (Int × Int × Int)) : Prop := ((Lit.int .i64 x.1).wf = true ∧ (Lit.int .i64 x.2.1).wf = true ∧ (Lit.int .i64 x.2.2).wf = true)
def Stmt : Prop := ∀ (a0_0 : Int) (a0_1 : Int) (a0_2 : Int) (a0_3 : Int) (a0_4 : (List (Int × Int × (Int × Int × Int × Int × Int × Int × (List Int) × Bool)))) (a0_5 : (List (Int × Int × Int))), ((Lit.int .i64 a0_0).wf = true) → ((Lit.int .i64 a0_1).wf = true) → ((Lit.int .i64 a0_2).wf = true) → ((Lit.int .i64 a0_3).wf = true) → ((a0_4.length ≤ maxLen ∧ ∀ y ∈ a0_4, wfE181 y)) → ((a0_5.length ≤ maxLen ∧ ∀ y ∈ a0_5, wfE184 y)) → L.FnExactBoxOk a0_0 a0_1 a0_2 a0_3 a0_4 a0_5 = some true
end Go.Proofs.Ytflagchmcnfigaa.StmtFnExactBoxOk
