/- The pure statement behind FnExactBothText: over numbers and lists alone. -/
import Derived.Test.YtipipipngmenoaaDoorGnBothText
namespace Go.Proofs.YtipipipngmenoaaDoor.StmtFnExactBothText
open Go Go.RowKit Go.Proofs.YtipipipngmenoaaDoorW.PrintWords Go.Proofs.YtipipipngmenoaaDoor.Vm Go.Proofs.YtipipipngmenoaaDoor.Run
def wfE3 (x : Int) : Prop := (Lit.int .i64 x).wf = true
def Stmt : Prop := ∀ (a0_0 : Int) (a0_1 : Int) (a0_2 : Int) (a0_3 : Int) (a0_4 : Int) (a0_5 : (List Int)) (a0_6 : (List Int)), ((Lit.int .i64 a0_0).wf = true) → ((Lit.int .i64 a0_1).wf = true) → ((Lit.int .i64 a0_2).wf = true) → ((Lit.int .i64 a0_3).wf = true) → ((Lit.int .i64 a0_4).wf = true) → ((a0_5.length ≤ maxLen ∧ ∀ y ∈ a0_5, wfE3 y)) → ((a0_6.length ≤ maxLen ∧ ∀ y ∈ a0_6, wfE3 y)) → L.FnExactBothText a0_0 a0_1 a0_2 a0_3 a0_4 a0_5 a0_6 = some true
end Go.Proofs.YtipipipngmenoaaDoor.StmtFnExactBothText
