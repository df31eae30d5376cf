/- The row of FnExactRecordOf: for every input the call returns true, and each argument reads as it read before. No condition. -/
import Derived.Test.YtpfjklmobjjgpaaRows
import Derived.Test.YtpfjklmobjjgpaaStmtFnExactRecordOf
import Derived.Test.YtpfjklmobjjgpaaPureFnExactRecordOf
import Derived.Test.YtpfjklmobjjgpaaOpen
import Derived.WalkKit
import Derived.ProofKit
import Derived.OpenShut
import Derived.ShutString
import Derived.ChangeOld
import Derived.Below
import Derived.SizedLaws
namespace Go.Proofs.Ytpfjklmobjjgpaa.fnExactRecordOf
open Go.ChangeShapes Go.WideShapes Go.ChangeAt Go.RowKit Go.Proofs.Ytpfjklmobjjgpaa.Opening Go.Proofs.YtpfjklmobjjgpaaW.PrintWords Go.Proofs.Ytpfjklmobjjgpaa.PFnExactRecordOf Go.Proofs.Ytpfjklmobjjgpaa.StmtFnExactRecordOf
set_option linter.unusedVariables false
set_option linter.unusedSimpArgs false
theorem own : ownKnob Try.prog.godebug = none := by kernel_rfl
theorem laidOut : laidOutB Try.prog = true := by kernel_rfl
section
variable {H : Type} {enc : TypeId × Value → H} {W : World}
theorem oE5 : Opens enc Try.prog W 5 (Kd.int .u8) wfE5 := opens_int Try.underlying5
end
set_option maxRecDepth 100000 in
theorem lifted (os : Os) (started : os.Started) (H : Type) (enc : TypeId × Value → H) :
    ReturnsInHanded {} Try.checked os 4 .any (Rows.fnExactRecordOfSpec.pre6 enc Try.prog Try.f4 Rows.fnExactRecordOfRow.domain false) (Rows.fnExactRecordOfSpec.post enc Try.prog Try.f4 false true false false) := by
  refine returnsInHanded_of_change_sized (C := Try.checked) own started (by kernel_rfl) Try.func4
    (ChangeSpec.witness6 (enc := enc) (C := Try.checked) false ⟨#[], #[.slice none 0 0], []⟩ 8 (by kernel_rfl) (by kernel_rfl) (by kernel_rfl) (by kernel_rfl)) ?_
  intro W base args ds gs before hval0 hW hcnd hsz0 _
  have hval : ∀ (j : Nat) t v, Try.f4.params[j]? = some t → args[j]? = some v → Value.okWide Try.prog W .any base t v := hval0
  have hW' := hW
  obtain ⟨p, q, hA0, hV, rfl, hfz, hnd⟩ := hW
  have hA : DataW.TrodAll enc Try.prog W 0 (fun _ => true) true Try.f4.params.toList args.toList ds p := hA0
  rw [Try.params4] at hA hval
  obtain ⟨v0, vs0, d0, ds0, p0, q0, hargs, rfl, rfl, h0, r0⟩ := trodAll_cons hA
  obtain ⟨rfl, rfl, rfl⟩ := trodAll_nil r0
  obtain rfl : args = #[v0] := by cases args; simp_all
  obtain ⟨rfl, rfl⟩ := trodVars_none hV
  have lt0 : ∀ x ∈ p0, x.block < W.heap.size := by obtain ⟨m, hm⟩ := h0; exact DataW.trod_lt m _ _ _ hm
  obtain ⟨l0, hK0, wl0⟩ := opens_arg (opens_slice Try.underlying22 (by kernel_rfl) oE5) h0
  obtain ⟨A0, n0, c0, rfl⟩ := okWide_slice Try.underlying22 (hval 0 22 v0 rfl rfl)
  obtain ⟨A_, c_, e_, hc0, hA0⟩ := hK0
  simp [Value.cells] at e_
  obtain ⟨rfl, rfl, rfl⟩ := e_
  clear hA0 hval0 hsz0
  obtain ⟨k, hk⟩ := Pure.FnExactRecordOf l0 wl0
  refine (laws_FnExactRecordOf.calls k A0 c0 l0 true W hA0 hc0 hk).mono fun e W' ⟨he, bel⟩ => ?_
  subst he
  exact ⟨_, rfl, _, _, _, [], _, [], hW', trodAll_mk1 (shut_bool Try.underlying4 _), (trodAll_cons_mk (Below.trod laidOut (by kernel_rfl) (of_decide_eq_true (by kernel_rfl)) h0 bel lt0) trodAll_mk0), rfl, bel.frame _, fun h => by cases h⟩
theorem over : Rows.fnExactRecordOfRow.holds Try.pinned (OpenSpec.ofChange Rows.fnExactRecordOfSpec) :=
  OpenClaim.holds_of_wide 4 Try.f4 rfl rfl rfl rfl rfl rfl rfl ⟨rfl, rfl, rfl, rfl, rfl⟩ rfl rfl rfl rfl rfl (by kernel_rfl) Try.func4 (by kernel_rfl)
    (of_decide_eq_true (by kernel_rfl)) (by unfold Func.isWrapper; first | (rw [if_pos (by decide +kernel)]; kernel_rfl) | (rw [if_neg (by decide +kernel)]; exact ⟨rfl, rfl⟩))
    (fun os started H enc _ => lifted os started H enc)
end Go.Proofs.Ytpfjklmobjjgpaa.fnExactRecordOf
namespace Go.Proofs.Ytpfjklmobjjgpaa
/-- The row, under a short name, for the claim. -/
theorem fnExactRecordOf_holds : Rows.FnExactRecordOfSaid := fnExactRecordOf.over
#print axioms fnExactRecordOf_holds
end Go.Proofs.Ytpfjklmobjjgpaa
