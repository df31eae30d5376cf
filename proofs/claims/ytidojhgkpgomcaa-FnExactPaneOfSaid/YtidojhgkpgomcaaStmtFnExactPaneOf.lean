/- The pure statement behind FnExactPaneOf: over numbers and lists alone. -/
import Derived.Test.YtidojhgkpgomcaaGnPaneOf
namespace Go.Proofs.Ytidojhgkpgomcaa.StmtFnExactPaneOf
open Go Go.RowKit Go.Proofs.YtidojhgkpgomcaaW.PrintWords Go.Proofs.Ytidojhgkpgomcaa.Vm Go.Proofs.Ytidojhgkpgomcaa.Run
def wfE155 (x : (Int × Int)) : Prop := ((Lit.int .i64 x.1).wf = true ∧ (Lit.int .i64 x.2).wf = true)
def wfE3 (x : Int) : Prop := (Lit.int .i64 x).wf = true
def Stmt : Prop := ∀ (a0 : Int) (a1_0 : (List (Int × Int))) (a1_1 : (List (Int × Int))) (a1_2 : Int) (a1_3 : Int) (a1_4 : Int) (a1_5 : Int) (a1_6 : Int) (a2 : Int) (a3_0 : Int) (a3_1 : Int) (a4 : Int) (a5_0 : Int) (a5_1 : Int) (a5_2 : Int) (a5_3 : Int) (a5_4 : Int) (a5_5 : (List Int)), ((Lit.int .i64 a0).wf = true) → ((a1_0.length ≤ maxLen ∧ ∀ y ∈ a1_0, wfE155 y)) → ((a1_1.length ≤ maxLen ∧ ∀ y ∈ a1_1, wfE155 y)) → ((Lit.int .i64 a1_2).wf = true) → ((Lit.int .i64 a1_3).wf = true) → ((Lit.int .i64 a1_4).wf = true) → ((Lit.int .i64 a1_5).wf = true) → ((Lit.int .i64 a1_6).wf = true) → ((Lit.int .i64 a2).wf = true) → ((Lit.int .i64 a3_0).wf = true) → ((Lit.int .i64 a3_1).wf = true) → ((Lit.int .i64 a4).wf = true) → ((Lit.int .i64 a5_0).wf = true) → ((Lit.int .i64 a5_1).wf = true) → ((Lit.int .u64 a5_2).wf = true) → ((Lit.int .i64 a5_3).wf = true) → ((Lit.int .i64 a5_4).wf = true) → ((a5_5.length ≤ maxLen ∧ ∀ y ∈ a5_5, wfE3 y)) → L.FnExactPaneOf a0 a1_2 a1_3 a1_4 a1_5 a1_6 a2 a3_0 a3_1 a4 a5_0 a5_1 a5_2 a5_3 a5_4 a1_0 a1_1 a5_5 = some true
end Go.Proofs.Ytidojhgkpgomcaa.StmtFnExactPaneOf
