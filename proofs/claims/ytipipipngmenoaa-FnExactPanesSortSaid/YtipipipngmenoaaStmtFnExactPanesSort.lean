/- The pure statement behind FnExactPanesSort: over numbers and lists alone. -/
import Derived.Test.YtipipipngmenoaaGnPanesSort
namespace Go.Proofs.Ytipipipngmenoaa.StmtFnExactPanesSort
open Go Go.RowKit Go.Proofs.YtipipipngmenoaaW.PrintWords Go.Proofs.Ytipipipngmenoaa.Vm Go.Proofs.Ytipipipngmenoaa.Run
def wfE3 (x : Int) : Prop := (Lit.int .i64 x).wf = true
def wfE33 (x : (Int × Int × Int × Int × Int × Int × (List Int) × Bool)) : Prop := ((Lit.int .i64 x.1).wf = true ∧ (Lit.int .i64 x.2.1).wf = true ∧ (Lit.int .i64 x.2.2.1).wf = true ∧ (Lit.int .i64 x.2.2.2.1).wf = true ∧ (Lit.int .i64 x.2.2.2.2.1).wf = true ∧ (Lit.int .i64 x.2.2.2.2.2.1).wf = true ∧ (x.2.2.2.2.2.2.1.length ≤ maxLen ∧ ∀ y ∈ x.2.2.2.2.2.2.1, wfE3 y) ∧ True)
def Stmt : Prop := ∀ (a0 : (List (Int × Int × Int × Int × Int × Int × (List Int) × Bool))), ((a0.length ≤ maxLen ∧ ∀ y ∈ a0, wfE33 y)) → L.FnExactPanesSort a0 = some true
end Go.Proofs.Ytipipipngmenoaa.StmtFnExactPanesSort
