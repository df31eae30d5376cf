/- The pure statement behind FnExactBothOf: over numbers and lists alone. -/
import Derived.Test.YthddkomphkanbaaGnBothOf
namespace Go.Proofs.Ythddkomphkanbaa.StmtFnExactBothOf
open Go Go.RowKit Go.Proofs.YthddkomphkanbaaW.PrintWords Go.Proofs.Ythddkomphkanbaa.Vm Go.Proofs.Ythddkomphkanbaa.Run
def wfE117 (x : Int) : Prop := (Lit.int .u64 x).wf = true
def wfE3 (x : Int) : Prop := (Lit.int .i64 x).wf = true
def wfE64 (x : (Int × Int × Int × Int × Int × Int × (List Int) × Bool)) : Prop := ((Lit.int .i64 x.1).wf = true ∧ (Lit.int .i64 x.2.1).wf = true ∧ (Lit.int .i64 x.2.2.1).wf = true ∧ (Lit.int .i64 x.2.2.2.1).wf = true ∧ (Lit.int .i64 x.2.2.2.2.1).wf = true ∧ (Lit.int .i64 x.2.2.2.2.2.1).wf = true ∧ (x.2.2.2.2.2.2.1.length ≤ maxLen ∧ ∀ y ∈ x.2.2.2.2.2.2.1, wfE3 y) ∧ True)
def Stmt : Prop := ∀ (a0_0 : Int) (a0_1 : (List Int)) (a1 : (List (Int × Int × Int × Int × Int × Int × (List Int) × Bool))) (a2 : (List (Int × Int × Int × Int × Int × Int × (List Int) × Bool))), ((Lit.int .i64 a0_0).wf = true) → ((a0_1.length ≤ maxLen ∧ ∀ y ∈ a0_1, wfE117 y)) → ((a1.length ≤ maxLen ∧ ∀ y ∈ a1, wfE64 y)) → ((a2.length ≤ maxLen ∧ ∀ y ∈ a2, wfE64 y)) → L.FnExactBothOf a0_0 a0_1 a1 a2 = some true
end Go.Proofs.Ythddkomphkanbaa.StmtFnExactBothOf
