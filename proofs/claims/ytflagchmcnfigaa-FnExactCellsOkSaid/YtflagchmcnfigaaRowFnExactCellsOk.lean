/- The row of FnExactCellsOk: for every input the call returns true, and each argument reads as it read before. No condition. -/
import Derived.Test.YtflagchmcnfigaaRows
import Derived.Test.YtflagchmcnfigaaStmtFnExactCellsOk
import Derived.Test.YtflagchmcnfigaaPureFnExactCellsOk
import Derived.Test.YtflagchmcnfigaaOpen
import Derived.WalkKit
import Derived.ProofKit
import Derived.OpenShut
import Derived.ShutString
import Derived.ChangeOld
import Derived.Below
import Derived.SizedLaws
namespace Go.Proofs.Ytflagchmcnfigaa.fnExactCellsOk
open Go.ChangeShapes Go.WideShapes Go.ChangeAt Go.RowKit Go.Proofs.Ytflagchmcnfigaa.Opening Go.Proofs.YtflagchmcnfigaaW.PrintWords Go.Proofs.Ytflagchmcnfigaa.Vm Go.Proofs.Ytflagchmcnfigaa.Run Go.Proofs.Ytflagchmcnfigaa.StmtFnExactCellsOk
set_option linter.unusedVariables false
set_option linter.unusedSimpArgs false
theorem own : ownKnob Try.prog.godebug = none := by kernel_rfl
theorem laidOut : laidOutB Try.prog = true := by kernel_rfl
section
variable {H : Type} {enc : TypeId × Value → H} {W : World}
set_option maxRecDepth 100000 in
theorem oE3 : Opens enc Try.prog W 3 (Kd.int .i64) wfE3 := opens_int Try.underlying3
set_option maxRecDepth 100000 in
theorem oE83 : Opens enc Try.prog W 83 (Kd.pair (Kd.int .i64) (Kd.pair (Kd.int .i64) (Kd.pair (Kd.int .i64) (Kd.pair (Kd.int .i64) (Kd.pair (Kd.int .i64) (Kd.pair (Kd.int .i64) (Kd.pair (Kd.pair (Kd.int .i64) (Kd.int .u64)) (Kd.pair (Kd.int .i64) (Kd.pair (Kd.int .i64) (Kd.slice 3 (Kd.int .i64))))))))))) wfE83 := opens_struct0 (total := 11) Try.underlying83 (by kernel_rfl) (opensF_cons (o := 0) (o' := 1) (total := 11) rfl (by kernel_rfl) (opens_int Try.underlying3) (opensF_cons (o := 1) (o' := 2) (total := 11) rfl (by kernel_rfl) (opens_int Try.underlying3) (opensF_cons (o := 2) (o' := 3) (total := 11) rfl (by kernel_rfl) (opens_int Try.underlying3) (opensF_cons (o := 3) (o' := 4) (total := 11) rfl (by kernel_rfl) (opens_int Try.underlying3) (opensF_cons (o := 4) (o' := 5) (total := 11) rfl (by kernel_rfl) (opens_int Try.underlying3) (opensF_last (o := 5) (total := 11) rfl (by kernel_rfl) (opens_struct0 (total := 6) Try.underlying81 (by kernel_rfl) (opensF_cons (o := 0) (o' := 1) (total := 6) rfl (by kernel_rfl) (opens_int Try.underlying3) (opensF_cons (o := 1) (o' := 3) (total := 6) rfl (by kernel_rfl) (opens_struct0 (total := 2) Try.underlying78 (by kernel_rfl) (opensF_cons (o := 0) (o' := 1) (total := 2) rfl (by kernel_rfl) (opens_int Try.underlying3) (opensF_last (o := 1) (total := 2) rfl (by kernel_rfl) (opens_int Try.underlying76)))) (opensF_cons (o := 3) (o' := 4) (total := 6) rfl (by kernel_rfl) (opens_int Try.underlying3) (opensF_cons (o := 4) (o' := 5) (total := 6) rfl (by kernel_rfl) (opens_int Try.underlying3) (opensF_last (o := 5) (total := 6) rfl (by kernel_rfl) (opens_slice Try.underlying79 (by kernel_rfl) oE3)))))))))))))
end
set_option maxRecDepth 100000 in
theorem lifted (os : Os) (started : os.Started) (H : Type) (enc : TypeId × Value → H) :
    ReturnsInHanded {} Try.checked os 11 .any (Rows.fnExactCellsOkSpec.pre6 enc Try.prog Try.f11 Rows.fnExactCellsOkRow.domain false) (Rows.fnExactCellsOkSpec.post enc Try.prog Try.f11 false true false false) := by
  refine returnsInHanded_of_change_sized (C := Try.checked) own started (by kernel_rfl) Try.func11
    (ChangeSpec.witness6 (enc := enc) (C := Try.checked) false ⟨#[], #[.slice none 0 0], []⟩ 8 (by kernel_rfl) (by kernel_rfl) (by kernel_rfl) (by kernel_rfl)) ?_
  intro W base args ds gs before hval0 hW hcnd hsz0 _
  have hval : ∀ (j : Nat) t v, Try.f11.params[j]? = some t → args[j]? = some v → Value.okWide Try.prog W .any base t v := hval0
  have hW' := hW
  obtain ⟨p, q, hA0, hV, rfl, hfz, hnd⟩ := hW
  have hA : DataW.TrodAll enc Try.prog W 0 (fun _ => true) true Try.f11.params.toList args.toList ds p := hA0
  rw [Try.params11] at hA hval
  obtain ⟨v0, vs0, d0, ds0, p0, q0, hargs, rfl, rfl, h0, r0⟩ := trodAll_cons hA
  obtain ⟨rfl, rfl, rfl⟩ := trodAll_nil r0
  obtain rfl : args = #[v0] := by cases args; simp_all
  obtain ⟨rfl, rfl⟩ := trodVars_none hV
  have lt0 : ∀ x ∈ p0, x.block < W.heap.size := by obtain ⟨m, hm⟩ := h0; exact DataW.trod_lt m _ _ _ hm
  obtain ⟨a0, hK0, wa0⟩ := opens_arg (opens_slice Try.underlying104 (by kernel_rfl) oE83) h0
  obtain ⟨A0, n0, c0, rfl⟩ := okWide_slice Try.underlying104 (hval 0 104 v0 rfl rfl)
  obtain ⟨A_, c_, e_, hc0, hA0⟩ := hK0
  simp [Value.cells] at e_
  obtain ⟨rfl, rfl, rfl⟩ := e_
  clear hA0 hval0 hsz0
  have hn := Pure.FnExactCellsOk a0 wa0
  have hrs : F2 (RoAs W) [⟨83, (.pair (.int .i64) (.pair (.int .i64) (.pair (.int .i64) (.pair (.int .i64) (.pair (.int .i64) (.pair (.int .i64) (.pair (.pair (.int .i64) (.int .u64)) (.pair (.int .i64) (.pair (.int .i64) (.sl 3 (.int .i64))))))))))), a0, .ro⟩] [.slice A0 a0.length c0] := ⟨⟨rfl, A0, c0, rfl, hc0, hA0⟩, trivial⟩
  have hin : F2 (AV.R (gh0 W [.slice A0 a0.length c0])) [.s1 (.one (.sl 0))] [((.slice A0 a0.length c0) : Value)] := ⟨rfl, trivial⟩
  refine (good_true good11 (args := [.s1 (.one (.sl 0))]) (rs := [⟨83, (.pair (.int .i64) (.pair (.int .i64) (.pair (.int .i64) (.pair (.int .i64) (.pair (.int .i64) (.pair (.int .i64) (.pair (.pair (.int .i64) (.int .u64)) (.pair (.int .i64) (.pair (.int .i64) (.sl 3 (.int .i64))))))))))), a0, .ro⟩]) (out := ⟨Bool, L.FnExactCellsOk a0, R11⟩) (t := true) rfl hn rfl hrs hin).mono fun e W' ⟨he, bel⟩ => ?_
  subst he
  exact ⟨_, rfl, _, _, _, [], _, [], hW', trodAll_mk1 (shut_bool Try.underlying4 _), (trodAll_cons_mk (Below.trod laidOut (by kernel_rfl) (of_decide_eq_true (by kernel_rfl)) h0 bel lt0) trodAll_mk0), rfl, bel.frame _, fun h => by cases h⟩
theorem over : Rows.fnExactCellsOkRow.holds Try.pinned (OpenSpec.ofChange Rows.fnExactCellsOkSpec) :=
  OpenClaim.holds_of_wide 11 Try.f11 rfl rfl rfl rfl rfl rfl rfl ⟨rfl, rfl, rfl, rfl, rfl⟩ rfl rfl rfl rfl rfl (by kernel_rfl) Try.func11 (by kernel_rfl)
    (of_decide_eq_true (by kernel_rfl)) (by unfold Func.isWrapper; first | (rw [if_pos (by decide +kernel)]; kernel_rfl) | (rw [if_neg (by decide +kernel)]; exact ⟨rfl, rfl⟩))
    (fun os started H enc _ => lifted os started H enc)
end Go.Proofs.Ytflagchmcnfigaa.fnExactCellsOk
namespace Go.Proofs.Ytflagchmcnfigaa
/-- The row, under a short name, for the claim. -/
theorem fnExactCellsOk_holds : Rows.FnExactCellsOkSaid := fnExactCellsOk.over
#print axioms fnExactCellsOk_holds
end Go.Proofs.Ytflagchmcnfigaa
