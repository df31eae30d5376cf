/- The pure statement behind FnExactConfSessions: over numbers and lists alone. -/
import Derived.Test.YtipekionggdicaaGnConfSessions
namespace Go.Proofs.Ytipekionggdicaa.StmtFnExactConfSessions
open Go Go.RowKit Go.Proofs.YtipekionggdicaaW.PrintWords Go.Proofs.Ytipekionggdicaa.Vm Go.Proofs.Ytipekionggdicaa.Run
def wfE145 (x : Int) : Prop := (Lit.int .u64 x).wf = true
def wfE269 (x : (Int × Int)) : Prop := ((Lit.int .i64 x.1).wf = true ∧ (Lit.int .i64 x.2).wf = true)
def wfE231 (x : ((List (Int × Int)) × (List (Int × Int)) × (Int × Int × Int) × Int × Int)) : Prop := ((x.1.length ≤ maxLen ∧ ∀ y ∈ x.1, wfE269 y) ∧ (x.2.1.length ≤ maxLen ∧ ∀ y ∈ x.2.1, wfE269 y) ∧ ((Lit.int .i64 x.2.2.1.1).wf = true ∧ (Lit.int .i64 x.2.2.1.2.1).wf = true ∧ (Lit.int .i64 x.2.2.1.2.2).wf = true) ∧ (Lit.int .i64 x.2.2.2.1).wf = true ∧ (Lit.int .i64 x.2.2.2.2).wf = true)
def wfE236 (x : (Int × Int × Int)) : Prop := ((Lit.int .i64 x.1).wf = true ∧ (Lit.int .i64 x.2.1).wf = true ∧ (Lit.int .i64 x.2.2).wf = true)
def wfE238 (x : (Int × Int × Int × Int × Int)) : Prop := ((Lit.int .i64 x.1).wf = true ∧ (Lit.int .i64 x.2.1).wf = true ∧ (Lit.int .i64 x.2.2.1).wf = true ∧ (Lit.int .i64 x.2.2.2.1).wf = true ∧ (Lit.int .i64 x.2.2.2.2).wf = true)
def Stmt : Prop := ∀ (a0_0 : Int) (a0_1 : (List Int)) (a0_2 : Int) (a0_3 : Int) (a0_4 : (List ((List (Int × Int)) × (List (Int × Int)) × (Int × Int × Int) × Int × Int))) (a0_5 : (List (Int × Int × Int))) (a0_6 : (List (Int × Int × Int × Int × Int))), ((Lit.int .i64 a0_0).wf = true) → ((a0_1.length ≤ maxLen ∧ ∀ y ∈ a0_1, wfE145 y)) → ((Lit.int .i64 a0_2).wf = true) → ((Lit.int .i64 a0_3).wf = true) → ((a0_4.length ≤ maxLen ∧ ∀ y ∈ a0_4, wfE231 y)) → ((a0_5.length ≤ maxLen ∧ ∀ y ∈ a0_5, wfE236 y)) → ((a0_6.length ≤ maxLen ∧ ∀ y ∈ a0_6, wfE238 y)) → L.FnExactConfSessions a0_0 a0_2 a0_3 a0_1 a0_4 a0_5 a0_6 = some true
end Go.Proofs.Ytipekionggdicaa.StmtFnExactConfSessions
