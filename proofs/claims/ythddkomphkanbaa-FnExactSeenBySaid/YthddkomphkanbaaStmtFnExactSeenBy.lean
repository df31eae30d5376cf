/- The pure statement behind FnExactSeenBy: over numbers and lists alone. -/
import Derived.Test.YthddkomphkanbaaGnSeenBy
namespace Go.Proofs.Ythddkomphkanbaa.StmtFnExactSeenBy
open Go Go.RowKit Go.Proofs.YthddkomphkanbaaW.PrintWords Go.Proofs.Ythddkomphkanbaa.Vm Go.Proofs.Ythddkomphkanbaa.Run
def wfE117 (x : Int) : Prop := (Lit.int .u64 x).wf = true
def wfE277 (x : (Int × Int)) : Prop := ((Lit.int .i64 x.1).wf = true ∧ (Lit.int .i64 x.2).wf = true)
def wfE114 (x : ((List (Int × Int)) × (List (Int × Int)) × (Int × Int × Int) × Int × Int)) : Prop := ((x.1.length ≤ maxLen ∧ ∀ y ∈ x.1, wfE277 y) ∧ (x.2.1.length ≤ maxLen ∧ ∀ y ∈ x.2.1, wfE277 y) ∧ ((Lit.int .i64 x.2.2.1.1).wf = true ∧ (Lit.int .i64 x.2.2.1.2.1).wf = true ∧ (Lit.int .i64 x.2.2.1.2.2).wf = true) ∧ (Lit.int .i64 x.2.2.2.1).wf = true ∧ (Lit.int .i64 x.2.2.2.2).wf = true)
def wfE255 (x : (Int × Int × Int)) : Prop := ((Lit.int .i64 x.1).wf = true ∧ (Lit.int .i64 x.2.1).wf = true ∧ (Lit.int .i64 x.2.2).wf = true)
def wfE257 (x : (Int × Int × Int × Int × Int)) : Prop := ((Lit.int .i64 x.1).wf = true ∧ (Lit.int .i64 x.2.1).wf = true ∧ (Lit.int .i64 x.2.2.1).wf = true ∧ (Lit.int .i64 x.2.2.2.1).wf = true ∧ (Lit.int .i64 x.2.2.2.2).wf = true)
def wfE204 (x : (Int × (Int × Int × Int × Int) × Int)) : Prop := ((Lit.int .i64 x.1).wf = true ∧ ((Lit.int .i64 x.2.1.1).wf = true ∧ (Lit.int .i64 x.2.1.2.1).wf = true ∧ (Lit.int .i64 x.2.1.2.2.1).wf = true ∧ (Lit.int .i64 x.2.1.2.2.2).wf = true) ∧ (Lit.int .i64 x.2.2).wf = true)
def Stmt : Prop := ∀ (a0_0 : Int) (a0_1 : (List Int)) (a0_2 : Int) (a0_3 : Int) (a0_4 : (List ((List (Int × Int)) × (List (Int × Int)) × (Int × Int × Int) × Int × Int))) (a0_5 : (List (Int × Int × Int))) (a0_6 : (List (Int × Int × Int × Int × Int))) (a1 : (List (Int × (Int × Int × Int × Int) × Int))) (a2 : Int), ((Lit.int .i64 a0_0).wf = true) → ((a0_1.length ≤ maxLen ∧ ∀ y ∈ a0_1, wfE117 y)) → ((Lit.int .i64 a0_2).wf = true) → ((Lit.int .i64 a0_3).wf = true) → ((a0_4.length ≤ maxLen ∧ ∀ y ∈ a0_4, wfE114 y)) → ((a0_5.length ≤ maxLen ∧ ∀ y ∈ a0_5, wfE255 y)) → ((a0_6.length ≤ maxLen ∧ ∀ y ∈ a0_6, wfE257 y)) → ((a1.length ≤ maxLen ∧ ∀ y ∈ a1, wfE204 y)) → ((Lit.int .i64 a2).wf = true) → L.FnExactSeenBy a0_0 a0_2 a0_3 a2 a0_1 a0_4 a0_5 a0_6 a1 = some true
end Go.Proofs.Ythddkomphkanbaa.StmtFnExactSeenBy
