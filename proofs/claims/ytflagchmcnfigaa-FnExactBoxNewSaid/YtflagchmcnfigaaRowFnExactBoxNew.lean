/- The row of FnExactBoxNew: for every input the call returns true, and each argument reads as it read before. No condition. -/
import Derived.Test.YtflagchmcnfigaaRows
import Derived.Test.YtflagchmcnfigaaStmtFnExactBoxNew
import Derived.Test.YtflagchmcnfigaaPureFnExactBoxNew
import Derived.Test.YtflagchmcnfigaaOpen
import Derived.WalkKit
import Derived.ProofKit
import Derived.OpenShut
import Derived.ShutString
import Derived.ChangeOld
import Derived.Below
import Derived.SizedLaws
namespace Go.Proofs.Ytflagchmcnfigaa.fnExactBoxNew
open Go.ChangeShapes Go.WideShapes Go.ChangeAt Go.RowKit Go.Proofs.Ytflagchmcnfigaa.Opening Go.Proofs.YtflagchmcnfigaaW.PrintWords Go.Proofs.Ytflagchmcnfigaa.Vm Go.Proofs.Ytflagchmcnfigaa.Run Go.Proofs.Ytflagchmcnfigaa.StmtFnExactBoxNew
set_option linter.unusedVariables false
set_option linter.unusedSimpArgs false
theorem own : ownKnob Try.prog.godebug = none := by kernel_rfl
theorem laidOut : laidOutB Try.prog = true := by kernel_rfl
section
variable {H : Type} {enc : TypeId × Value → H} {W : World}
end
set_option maxRecDepth 100000 in
theorem lifted (os : Os) (started : os.Started) (H : Type) (enc : TypeId × Value → H) :
    ReturnsInHanded {} Try.checked os 5 .any (Rows.fnExactBoxNewSpec.pre6 enc Try.prog Try.f5 Rows.fnExactBoxNewRow.domain false) (Rows.fnExactBoxNewSpec.post enc Try.prog Try.f5 false true false false) := by
  refine returnsInHanded_of_change_sized (C := Try.checked) own started (by kernel_rfl) Try.func5
    (ChangeSpec.witness6 (enc := enc) (C := Try.checked) false ⟨#[], #[.int .i64 0, .int .i64 0], []⟩ 8 (by kernel_rfl) (by kernel_rfl) (by kernel_rfl) (by kernel_rfl)) ?_
  intro W base args ds gs before hval0 hW hcnd hsz0 _
  have hval : ∀ (j : Nat) t v, Try.f5.params[j]? = some t → args[j]? = some v → Value.okWide Try.prog W .any base t v := hval0
  have hW' := hW
  obtain ⟨p, q, hA0, hV, rfl, hfz, hnd⟩ := hW
  have hA : DataW.TrodAll enc Try.prog W 0 (fun _ => true) true Try.f5.params.toList args.toList ds p := hA0
  rw [Try.params5] at hA hval
  obtain ⟨v0, vs0, d0, ds0, p0, q0, hargs, rfl, rfl, h0, r0⟩ := trodAll_cons hA
  obtain ⟨v1, vs1, d1, ds1, p1, q1, rfl, rfl, rfl, h1, r1⟩ := trodAll_cons r0
  obtain ⟨rfl, rfl, rfl⟩ := trodAll_nil r1
  obtain rfl : args = #[v0, v1] := by cases args; simp_all
  obtain ⟨rfl, rfl⟩ := trodVars_none hV
  have lt0 : ∀ x ∈ p0, x.block < W.heap.size := by obtain ⟨m, hm⟩ := h0; exact DataW.trod_lt m _ _ _ hm
  obtain ⟨a0, hK0, wa0⟩ := opens_arg (opens_int Try.underlying3) h0
  obtain ⟨y0, rfl⟩ := okWide_int Try.underlying3 (hval 0 3 v0 rfl rfl)
  have e_ : [Value.int .i64 y0] = [Value.int .i64 a0] := hK0
  simp at e_
  subst y0
  have lt1 : ∀ x ∈ p1, x.block < W.heap.size := by obtain ⟨m, hm⟩ := h1; exact DataW.trod_lt m _ _ _ hm
  obtain ⟨a1, hK1, wa1⟩ := opens_arg (opens_int Try.underlying3) h1
  obtain ⟨y1, rfl⟩ := okWide_int Try.underlying3 (hval 1 3 v1 rfl rfl)
  have e_ : [Value.int .i64 y1] = [Value.int .i64 a1] := hK1
  simp at e_
  subst y1
  clear hA0 hval0 hsz0
  have hn := Pure.FnExactBoxNew a0 a1 wa0 wa1
  have hrs : F2 (RoAs W) [] [] := trivial
  have hin : F2 (AV.R (gh0 W [])) [.s1 (.one (.val (.int .i64 a0))), .s1 (.one (.val (.int .i64 a1)))] [((.int .i64 a0) : Value), ((.int .i64 a1) : Value)] := ⟨rfl, rfl, trivial⟩
  refine (good_true good5 (args := [.s1 (.one (.val (.int .i64 a0))), .s1 (.one (.val (.int .i64 a1)))]) (rs := []) (out := ⟨Bool, L.FnExactBoxNew a0 a1, R5⟩) (t := true) rfl hn rfl hrs hin).mono fun e W' ⟨he, bel⟩ => ?_
  subst he
  exact ⟨_, rfl, _, _, _, [], _, [], hW', trodAll_mk1 (shut_bool Try.underlying4 _), (trodAll_cons_mk (Below.trod laidOut (by kernel_rfl) (of_decide_eq_true (by kernel_rfl)) h0 bel lt0) (trodAll_cons_mk (Below.trod laidOut (by kernel_rfl) (of_decide_eq_true (by kernel_rfl)) h1 bel lt1) trodAll_mk0)), rfl, bel.frame _, fun h => by cases h⟩
theorem joined : joinedFacts Try.pinned.checked.prog 5 Try.f5 Rows.fnExactBoxNewSpec Rows.fnExactBoxNewRow = true := by kernel_rfl
theorem instOk : Try.f5.isInstance Try.pinned.checked.prog Rows.fnExactBoxNewRow.origin Rows.fnExactBoxNewRow.targs := of_decide_eq_true (by kernel_rfl)
theorem wrapOk : Try.f5.isWrapper Try.pinned.checked.prog Rows.fnExactBoxNewRow.wrapper Rows.fnExactBoxNewRow.mainSum := by unfold Func.isWrapper; first | (rw [if_pos (by decide +kernel)]; kernel_rfl) | (rw [if_neg (by decide +kernel)]; exact ⟨rfl, rfl⟩)
theorem over : Rows.fnExactBoxNewRow.holds Try.pinned (OpenSpec.ofChange Rows.fnExactBoxNewSpec) :=
  OpenClaim.holds_of_wide 5 Try.f5 rfl rfl rfl rfl rfl rfl rfl ⟨rfl, rfl, rfl, rfl, rfl⟩ rfl rfl rfl rfl rfl (by kernel_rfl) Try.func5 joined instOk wrapOk
    (fun os started H enc _ => lifted os started H enc)
end Go.Proofs.Ytflagchmcnfigaa.fnExactBoxNew
namespace Go.Proofs.Ytflagchmcnfigaa
/-- The row, under a short name, for the claim. -/
theorem fnExactBoxNew_holds : Rows.FnExactBoxNewSaid := fnExactBoxNew.over
#print axioms fnExactBoxNew_holds
end Go.Proofs.Ytflagchmcnfigaa
