/- The pure statement behind FnExactBoxAck: over numbers and lists alone. -/
import Derived.Test.YtidojhgkpgomcaaGnBoxAck
namespace Go.Proofs.Ytidojhgkpgomcaa.StmtFnExactBoxAck
open Go Go.RowKit Go.Proofs.YtidojhgkpgomcaaW.PrintWords Go.Proofs.Ytidojhgkpgomcaa.Vm Go.Proofs.Ytidojhgkpgomcaa.Run
def wfE3 (x : Int) : Prop := (Lit.int .i64 x).wf = true
def wfE126 (x : (Int × Int × (Int × Int × Int × Int × Int × Int × (List Int) × Bool))) : Prop := ((Lit.int .i64 x.1).wf = true ∧ (Lit.int .i64 x.2.1).wf = true ∧ ((Lit.int .i64 x.2.2.1).wf = true ∧ (Lit.int .i64 x.2.2.2.1).wf = true ∧ (Lit.int .i64 x.2.2.2.2.1).wf = true ∧ (Lit.int .i64 x.2.2.2.2.2.1).wf = true ∧ (Lit.int .i64 x.2.2.2.2.2.2.1).wf = true ∧ (Lit.int .i64 x.2.2.2.2.2.2.2.1).wf = true ∧ (x.2.2.2.2.2.2.2.2.1.length ≤ maxLen ∧ ∀ y ∈ x.2.2.2.2.2.2.2.2.1, wfE3 y) ∧ True))
def wfE132 (x : (Int × Int × Int)) : Prop := ((Lit.int .i64 x.1).wf = true ∧ (Lit.int .i64 x.2.1).wf = true ∧ (Lit.int .i64 x.2.2).wf = true)
def Stmt : Prop := ∀ (a0_0 : Int) (a0_1 : Int) (a0_2 : Int) (a0_3 : Int) (a0_4 : (List (Int × Int × (Int × Int × Int × Int × Int × Int × (List Int) × Bool)))) (a0_5 : (List (Int × Int × Int))) (a1 : Int), ((Lit.int .i64 a0_0).wf = true) → ((Lit.int .i64 a0_1).wf = true) → ((Lit.int .i64 a0_2).wf = true) → ((Lit.int .i64 a0_3).wf = true) → ((a0_4.length ≤ maxLen ∧ ∀ y ∈ a0_4, wfE126 y)) → ((a0_5.length ≤ maxLen ∧ ∀ y ∈ a0_5, wfE132 y)) → ((Lit.int .i64 a1).wf = true) → L.FnExactBoxAck a0_0 a0_1 a0_2 a0_3 a1 a0_4 a0_5 = some true
end Go.Proofs.Ytidojhgkpgomcaa.StmtFnExactBoxAck
