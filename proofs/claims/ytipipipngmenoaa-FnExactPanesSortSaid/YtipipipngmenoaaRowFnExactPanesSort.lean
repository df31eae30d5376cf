/- The row of FnExactPanesSort: for every input the call returns true, and each argument reads as it read before. No condition. -/
import Derived.Test.YtipipipngmenoaaRows
import Derived.Test.YtipipipngmenoaaStmtFnExactPanesSort
import Derived.Test.YtipipipngmenoaaPureFnExactPanesSort
import Derived.Test.YtipipipngmenoaaOpen
import Derived.WalkKit
import Derived.ProofKit
import Derived.OpenShut
import Derived.ShutString
import Derived.ChangeOld
import Derived.Below
import Derived.SizedLaws
namespace Go.Proofs.Ytipipipngmenoaa.fnExactPanesSort
open Go.ChangeShapes Go.WideShapes Go.ChangeAt Go.RowKit Go.Proofs.Ytipipipngmenoaa.Opening Go.Proofs.YtipipipngmenoaaW.PrintWords Go.Proofs.Ytipipipngmenoaa.Vm Go.Proofs.Ytipipipngmenoaa.Run Go.Proofs.Ytipipipngmenoaa.StmtFnExactPanesSort
set_option linter.unusedVariables false
set_option linter.unusedSimpArgs false
theorem own : ownKnob Try.prog.godebug = none := by kernel_rfl
theorem laidOut : laidOutB Try.prog = true := by kernel_rfl
section
variable {H : Type} {enc : TypeId × Value → H} {W : World}
set_option maxRecDepth 100000 in
theorem oE3 : Opens enc Try.prog W 3 (Kd.int .i64) wfE3 := opens_int Try.underlying3
set_option maxRecDepth 100000 in
theorem oE33 : Opens enc Try.prog W 33 (Kd.pair (Kd.int .i64) (Kd.pair (Kd.int .i64) (Kd.pair (Kd.int .i64) (Kd.pair (Kd.int .i64) (Kd.pair (Kd.int .i64) (Kd.pair (Kd.int .i64) (Kd.pair (Kd.slice 3 (Kd.int .i64)) Kd.bool))))))) wfE33 := opens_struct0 (total := 8) Try.underlying33 (by kernel_rfl) (opensF_cons (o := 0) (o' := 1) (total := 8) rfl (by kernel_rfl) (opens_int Try.underlying3) (opensF_cons (o := 1) (o' := 2) (total := 8) rfl (by kernel_rfl) (opens_int Try.underlying3) (opensF_cons (o := 2) (o' := 3) (total := 8) rfl (by kernel_rfl) (opens_int Try.underlying3) (opensF_cons (o := 3) (o' := 4) (total := 8) rfl (by kernel_rfl) (opens_int Try.underlying3) (opensF_cons (o := 4) (o' := 5) (total := 8) rfl (by kernel_rfl) (opens_int Try.underlying3) (opensF_cons (o := 5) (o' := 6) (total := 8) rfl (by kernel_rfl) (opens_int Try.underlying3) (opensF_cons (o := 6) (o' := 7) (total := 8) rfl (by kernel_rfl) (opens_slice Try.underlying31 (by kernel_rfl) oE3) (opensF_last (o := 7) (total := 8) rfl (by kernel_rfl) (opens_bool Try.underlying4)))))))))
end
set_option maxRecDepth 100000 in
theorem lifted (os : Os) (started : os.Started) (H : Type) (enc : TypeId × Value → H) :
    ReturnsInHanded {} Try.checked os 3 .any (Rows.fnExactPanesSortSpec.pre6 enc Try.prog Try.f3 Rows.fnExactPanesSortRow.domain false) (Rows.fnExactPanesSortSpec.post enc Try.prog Try.f3 false true false false) := by
  refine returnsInHanded_of_change_sized (C := Try.checked) own started (by kernel_rfl) Try.func3
    (ChangeSpec.witness6 (enc := enc) (C := Try.checked) false ⟨#[], #[.slice none 0 0], []⟩ 8 (by kernel_rfl) (by kernel_rfl) (by kernel_rfl) (by kernel_rfl)) ?_
  intro W base args ds gs before hval0 hW hcnd hsz0 _
  have hval : ∀ (j : Nat) t v, Try.f3.params[j]? = some t → args[j]? = some v → Value.okWide Try.prog W .any base t v := hval0
  have hW' := hW
  obtain ⟨p, q, hA0, hV, rfl, hfz, hnd⟩ := hW
  have hA : DataW.TrodAll enc Try.prog W 0 (fun _ => true) true Try.f3.params.toList args.toList ds p := hA0
  rw [Try.params3] at hA hval
  obtain ⟨v0, vs0, d0, ds0, p0, q0, hargs, rfl, rfl, h0, r0⟩ := trodAll_cons hA
  obtain ⟨rfl, rfl, rfl⟩ := trodAll_nil r0
  obtain rfl : args = #[v0] := by cases args; simp_all
  obtain ⟨rfl, rfl⟩ := trodVars_none hV
  have lt0 : ∀ x ∈ p0, x.block < W.heap.size := by obtain ⟨m, hm⟩ := h0; exact DataW.trod_lt m _ _ _ hm
  obtain ⟨a0, hK0, wa0⟩ := opens_arg (opens_slice Try.underlying22 (by kernel_rfl) oE33) h0
  obtain ⟨A0, n0, c0, rfl⟩ := okWide_slice Try.underlying22 (hval 0 22 v0 rfl rfl)
  obtain ⟨A_, c_, e_, hc0, hA0⟩ := hK0
  simp [Value.cells] at e_
  obtain ⟨rfl, rfl, rfl⟩ := e_
  clear hA0 hval0 hsz0
  have hn := Pure.FnExactPanesSort a0 wa0
  have hrs : F2 (RoAs W) [⟨33, (.pair (.int .i64) (.pair (.int .i64) (.pair (.int .i64) (.pair (.int .i64) (.pair (.int .i64) (.pair (.int .i64) (.pair (.sl 3 (.int .i64)) .bool))))))), a0, .ro⟩] [.slice A0 a0.length c0] := ⟨⟨rfl, A0, c0, rfl, hc0, hA0⟩, trivial⟩
  have hin : F2 (AV.R (gh0 W [.slice A0 a0.length c0])) [.s1 (.one (.sl 0))] [((.slice A0 a0.length c0) : Value)] := ⟨rfl, trivial⟩
  have hE : E3 [.s1 (.one (.sl 0))] [] [⟨33, (.pair (.int .i64) (.pair (.int .i64) (.pair (.int .i64) (.pair (.int .i64) (.pair (.int .i64) (.pair (.int .i64) (.pair (.sl 3 (.int .i64)) .bool))))))), a0, .ro⟩] = some ⟨Bool, L.FnExactPanesSort a0, fun t => resOf sg3.rsk (encP sg3.rks (toA sg3.rks t))⟩ := by kernel_rfl
  refine (good_true good3 (t := true) hE hn (by kernel_rfl) hrs hin).mono fun e W' ⟨he, bel⟩ => ?_
  subst he
  exact ⟨_, rfl, _, _, _, [], _, [], hW', trodAll_mk1 (shut_bool Try.underlying4 _), (trodAll_cons_mk (Below.trod laidOut (by kernel_rfl) (of_decide_eq_true (by kernel_rfl)) h0 bel lt0) trodAll_mk0), rfl, bel.frame _, fun h => by cases h⟩
theorem band {a b : Bool} (h1 : a = true) (h2 : b = true) : (a && b) = true := by rw [h1, h2]; rfl
set_option maxHeartbeats 40000000 in
theorem joined : joinedFacts Try.pinned.checked.prog 3 Try.f3 Rows.fnExactPanesSortSpec Rows.fnExactPanesSortRow = true := by
  unfold joinedFacts
  refine band (band (band (band (band (band (band (band (band (band (band (band (band (band (band (band (band (band (band (band (band (band (band (band (band (band (band (band (band (band (band ?_ ?_) ?_) ?_) ?_) ?_) ?_) ?_) ?_) ?_) ?_) ?_) ?_) ?_) ?_) ?_) ?_) ?_) ?_) ?_) ?_) ?_) ?_) ?_) ?_) ?_) ?_) ?_) ?_) ?_) ?_) ?_
  all_goals decide +kernel
theorem instOk : Try.f3.isInstance Try.pinned.checked.prog Rows.fnExactPanesSortRow.origin Rows.fnExactPanesSortRow.targs := of_decide_eq_true (by kernel_rfl)
theorem wrapOk : Try.f3.isWrapper Try.pinned.checked.prog Rows.fnExactPanesSortRow.wrapper Rows.fnExactPanesSortRow.mainSum := by unfold Func.isWrapper; first | (rw [if_pos (by decide +kernel)]; kernel_rfl) | (rw [if_neg (by decide +kernel)]; exact ⟨rfl, rfl⟩)
theorem over : Rows.fnExactPanesSortRow.holds Try.pinned (OpenSpec.ofChange Rows.fnExactPanesSortSpec) :=
  OpenClaim.holds_of_wide 3 Try.f3 rfl rfl rfl rfl rfl rfl rfl ⟨rfl, rfl, rfl, rfl, rfl⟩ rfl rfl rfl rfl rfl (by kernel_rfl) Try.func3 joined instOk wrapOk
    (fun os started H enc _ => lifted os started H enc)
end Go.Proofs.Ytipipipngmenoaa.fnExactPanesSort
namespace Go.Proofs.Ytipipipngmenoaa
theorem fnExactPanesSort_holds : Rows.FnExactPanesSortSaid := fnExactPanesSort.over
#print axioms fnExactPanesSort_holds
end Go.Proofs.Ytipipipngmenoaa
