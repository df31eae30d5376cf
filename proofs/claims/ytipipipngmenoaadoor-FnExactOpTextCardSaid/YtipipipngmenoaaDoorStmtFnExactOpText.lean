/- The pure statement behind FnExactOpText: over numbers and lists alone. -/
import Derived.Test.YtipipipngmenoaaDoorGnOpText
namespace Go.Proofs.YtipipipngmenoaaDoor.StmtFnExactOpText
open Go Go.RowKit Go.Proofs.YtipipipngmenoaaDoorW.PrintWords Go.Proofs.YtipipipngmenoaaDoor.Vm Go.Proofs.YtipipipngmenoaaDoor.Run

def Stmt : Prop := ∀ (a0_0 : Int) (a0_1 : Int) (a0_2 : Int) (a0_3 : Int) (a0_4 : Int) (a0_5 : Int) (a0_6 : Int) (a0_7 : Int) (a0_8 : Int) (a0_9 : Int) (a0_10 : Int), ((Lit.int .i64 a0_0).wf = true) → ((Lit.int .i64 a0_1).wf = true) → ((Lit.int .i64 a0_2).wf = true) → ((Lit.int .i64 a0_3).wf = true) → ((Lit.int .i64 a0_4).wf = true) → ((Lit.int .i64 a0_5).wf = true) → ((Lit.int .i64 a0_6).wf = true) → ((Lit.int .i64 a0_7).wf = true) → ((Lit.int .i64 a0_8).wf = true) → ((Lit.int .i64 a0_9).wf = true) → ((Lit.int .i64 a0_10).wf = true) → L.FnExactOpText a0_0 a0_1 a0_2 a0_3 a0_4 a0_5 a0_6 a0_7 a0_8 a0_9 a0_10 = some true
end Go.Proofs.YtipipipngmenoaaDoor.StmtFnExactOpText
