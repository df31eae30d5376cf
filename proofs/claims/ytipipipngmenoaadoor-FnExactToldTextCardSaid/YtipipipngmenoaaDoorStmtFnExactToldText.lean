/- The pure statement behind FnExactToldText: over numbers and lists alone. -/
import Derived.Test.YtipipipngmenoaaDoorGnToldText
namespace Go.Proofs.YtipipipngmenoaaDoor.StmtFnExactToldText
open Go Go.RowKit Go.Proofs.YtipipipngmenoaaDoorW.PrintWords Go.Proofs.YtipipipngmenoaaDoor.Vm Go.Proofs.YtipipipngmenoaaDoor.Run
def wfE3 (x : Int) : Prop := (Lit.int .i64 x).wf = true
def wfE89 (x : (Int × Int × (Int × Int × Int × Int × Int × Int × (List Int) × Bool))) : Prop := ((Lit.int .i64 x.1).wf = true ∧ (Lit.int .i64 x.2.1).wf = true ∧ ((Lit.int .i64 x.2.2.1).wf = true ∧ (Lit.int .i64 x.2.2.2.1).wf = true ∧ (Lit.int .i64 x.2.2.2.2.1).wf = true ∧ (Lit.int .i64 x.2.2.2.2.2.1).wf = true ∧ (Lit.int .i64 x.2.2.2.2.2.2.1).wf = true ∧ (Lit.int .i64 x.2.2.2.2.2.2.2.1).wf = true ∧ (x.2.2.2.2.2.2.2.2.1.length ≤ maxLen ∧ ∀ y ∈ x.2.2.2.2.2.2.2.2.1, wfE3 y) ∧ True))
def wfE97 (x : (Int × Int × Int)) : Prop := ((Lit.int .i64 x.1).wf = true ∧ (Lit.int .i64 x.2.1).wf = true ∧ (Lit.int .i64 x.2.2).wf = true)
def Stmt : Prop := ∀ (a0_0 : Int) (a0_1 : Int) (a0_2 : (List (Int × Int × (Int × Int × Int × Int × Int × Int × (List Int) × Bool)))) (a0_3 : (List (Int × Int × Int))), ((Lit.int .i64 a0_0).wf = true) → ((Lit.int .i64 a0_1).wf = true) → ((a0_2.length ≤ maxLen ∧ ∀ y ∈ a0_2, wfE89 y)) → ((a0_3.length ≤ maxLen ∧ ∀ y ∈ a0_3, wfE97 y)) → L.FnExactToldText a0_0 a0_1 a0_2 a0_3 = some true
end Go.Proofs.YtipipipngmenoaaDoor.StmtFnExactToldText
