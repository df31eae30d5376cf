/- The pure statement behind FnExactCellsAdd: over numbers and lists alone. -/
import Derived.Test.YtmbcnpbgcfiafaaGreatGnCellsAdd
namespace Go.Proofs.YtmbcnpbgcfiafaaGreat.StmtFnExactCellsAdd
open Go Go.RowKit Go.Proofs.YtmbcnpbgcfiafaaGreatW.PrintWords Go.Proofs.YtmbcnpbgcfiafaaGreat.Vm Go.Proofs.YtmbcnpbgcfiafaaGreat.Run
def wfE3 (x : Int) : Prop := (Lit.int .i64 x).wf = true
def wfE101 (x : (Int × Int × Int × Int × Int × (Int × (Int × Int) × Int × Int × (List Int)))) : Prop := ((Lit.int .i64 x.1).wf = true ∧ (Lit.int .i64 x.2.1).wf = true ∧ (Lit.int .i64 x.2.2.1).wf = true ∧ (Lit.int .i64 x.2.2.2.1).wf = true ∧ (Lit.int .i64 x.2.2.2.2.1).wf = true ∧ ((Lit.int .i64 x.2.2.2.2.2.1).wf = true ∧ ((Lit.int .i64 x.2.2.2.2.2.2.1.1).wf = true ∧ (Lit.int .u64 x.2.2.2.2.2.2.1.2).wf = true) ∧ (Lit.int .i64 x.2.2.2.2.2.2.2.1).wf = true ∧ (Lit.int .i64 x.2.2.2.2.2.2.2.2.1).wf = true ∧ (x.2.2.2.2.2.2.2.2.2.length ≤ maxLen ∧ ∀ y ∈ x.2.2.2.2.2.2.2.2.2, wfE3 y)))
def Stmt : Prop := ∀ (a0 : (List (Int × Int × Int × Int × Int × (Int × (Int × Int) × Int × Int × (List Int))))) (a1 : Int) (a2_0 : Int) (a2_1 : Int) (a2_2 : Int) (a3 : Int) (a4 : Int) (a5 : Int) (a6 : Int), ((a0.length ≤ maxLen ∧ ∀ y ∈ a0, wfE101 y)) → ((Lit.int .i64 a1).wf = true) → ((Lit.int .i64 a2_0).wf = true) → ((Lit.int .i64 a2_1).wf = true) → ((Lit.int .i64 a2_2).wf = true) → ((Lit.int .i64 a3).wf = true) → ((Lit.int .i64 a4).wf = true) → ((Lit.int .i64 a5).wf = true) → ((Lit.int .i64 a6).wf = true) → L.FnExactCellsAdd a1 a2_0 a2_1 a2_2 a3 a4 a5 a6 a0 = some true
end Go.Proofs.YtmbcnpbgcfiafaaGreat.StmtFnExactCellsAdd
