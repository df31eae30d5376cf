/- The pure statement behind FnExactEngNew: over numbers and lists alone. -/
import Derived.Test.YtidojhgkpgomcaaGreatGnEngNew
namespace Go.Proofs.YtidojhgkpgomcaaGreat.StmtFnExactEngNew
open Go Go.RowKit Go.Proofs.YtidojhgkpgomcaaGreatW.PrintWords Go.Proofs.YtidojhgkpgomcaaGreat.Vm Go.Proofs.YtidojhgkpgomcaaGreat.Run
def wfE87 (x : Int) : Prop := (Lit.int .u64 x).wf = true
def wfE289 (x : (Int × Int)) : Prop := ((Lit.int .i64 x.1).wf = true ∧ (Lit.int .i64 x.2).wf = true)
def wfE185 (x : ((List (Int × Int)) × (List (Int × Int)) × (Int × Int × Int) × Int × Int)) : Prop := ((x.1.length ≤ maxLen ∧ ∀ y ∈ x.1, wfE289 y) ∧ (x.2.1.length ≤ maxLen ∧ ∀ y ∈ x.2.1, wfE289 y) ∧ ((Lit.int .i64 x.2.2.1.1).wf = true ∧ (Lit.int .i64 x.2.2.1.2.1).wf = true ∧ (Lit.int .i64 x.2.2.1.2.2).wf = true) ∧ (Lit.int .i64 x.2.2.2.1).wf = true ∧ (Lit.int .i64 x.2.2.2.2).wf = true)
def wfE194 (x : (Int × Int × Int)) : Prop := ((Lit.int .i64 x.1).wf = true ∧ (Lit.int .i64 x.2.1).wf = true ∧ (Lit.int .i64 x.2.2).wf = true)
def wfE196 (x : (Int × Int × Int × Int × Int)) : Prop := ((Lit.int .i64 x.1).wf = true ∧ (Lit.int .i64 x.2.1).wf = true ∧ (Lit.int .i64 x.2.2.1).wf = true ∧ (Lit.int .i64 x.2.2.2.1).wf = true ∧ (Lit.int .i64 x.2.2.2.2).wf = true)
def Stmt : Prop := ∀ (a0_0 : Int) (a0_1 : (List Int)) (a0_2 : Int) (a0_3 : Int) (a0_4 : (List ((List (Int × Int)) × (List (Int × Int)) × (Int × Int × Int) × Int × Int))) (a0_5 : (List (Int × Int × Int))) (a0_6 : (List (Int × Int × Int × Int × Int))), ((Lit.int .i64 a0_0).wf = true) → ((a0_1.length ≤ maxLen ∧ ∀ y ∈ a0_1, wfE87 y)) → ((Lit.int .i64 a0_2).wf = true) → ((Lit.int .i64 a0_3).wf = true) → ((a0_4.length ≤ maxLen ∧ ∀ y ∈ a0_4, wfE185 y)) → ((a0_5.length ≤ maxLen ∧ ∀ y ∈ a0_5, wfE194 y)) → ((a0_6.length ≤ maxLen ∧ ∀ y ∈ a0_6, wfE196 y)) → L.FnExactEngNew a0_0 a0_2 a0_3 a0_1 a0_4 a0_5 a0_6 = some true
end Go.Proofs.YtidojhgkpgomcaaGreat.StmtFnExactEngNew
