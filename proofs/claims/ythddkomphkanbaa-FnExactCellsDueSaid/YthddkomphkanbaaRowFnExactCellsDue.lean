/- The row of FnExactCellsDue: for every input the call returns true, and each argument reads as it read before. No condition. -/
import Derived.Test.YthddkomphkanbaaRows
import Derived.Test.YthddkomphkanbaaStmtFnExactCellsDue
import Derived.Test.YthddkomphkanbaaPureFnExactCellsDue
import Derived.Test.YthddkomphkanbaaOpen
import Derived.WalkKit
import Derived.ProofKit
import Derived.OpenShut
import Derived.ShutString
import Derived.ChangeOld
import Derived.Below
import Derived.SizedLaws
namespace Go.Proofs.Ythddkomphkanbaa.fnExactCellsDue
open Go.ChangeShapes Go.WideShapes Go.ChangeAt Go.RowKit Go.Proofs.Ythddkomphkanbaa.Opening Go.Proofs.YthddkomphkanbaaW.PrintWords Go.Proofs.Ythddkomphkanbaa.Vm Go.Proofs.Ythddkomphkanbaa.Run Go.Proofs.Ythddkomphkanbaa.StmtFnExactCellsDue
set_option linter.unusedVariables false
set_option linter.unusedSimpArgs false
theorem own : ownKnob Try.prog.godebug = none := by kernel_rfl
theorem laidOut : laidOutB Try.prog = true := by kernel_rfl
section
variable {H : Type} {enc : TypeId × Value → H} {W : World}
set_option maxRecDepth 100000 in
theorem oE3 : Opens enc Try.prog W 3 (Kd.int .i64) wfE3 := opens_int Try.underlying3
set_option maxRecDepth 100000 in
theorem oE177 : Opens enc Try.prog W 177 (Kd.pair (Kd.int .i64) (Kd.pair (Kd.int .i64) (Kd.pair (Kd.int .i64) (Kd.pair (Kd.int .i64) (Kd.pair (Kd.int .i64) (Kd.pair (Kd.int .i64) (Kd.pair (Kd.pair (Kd.int .i64) (Kd.int .u64)) (Kd.pair (Kd.int .i64) (Kd.pair (Kd.int .i64) (Kd.slice 3 (Kd.int .i64))))))))))) wfE177 := opens_struct0 (total := 11) Try.underlying177 (by kernel_rfl) (opensF_cons (o := 0) (o' := 1) (total := 11) rfl (by kernel_rfl) (opens_int Try.underlying3) (opensF_cons (o := 1) (o' := 2) (total := 11) rfl (by kernel_rfl) (opens_int Try.underlying3) (opensF_cons (o := 2) (o' := 3) (total := 11) rfl (by kernel_rfl) (opens_int Try.underlying3) (opensF_cons (o := 3) (o' := 4) (total := 11) rfl (by kernel_rfl) (opens_int Try.underlying3) (opensF_cons (o := 4) (o' := 5) (total := 11) rfl (by kernel_rfl) (opens_int Try.underlying3) (opensF_last (o := 5) (total := 11) rfl (by kernel_rfl) (opens_struct0 (total := 6) Try.underlying121 (by kernel_rfl) (opensF_cons (o := 0) (o' := 1) (total := 6) rfl (by kernel_rfl) (opens_int Try.underlying3) (opensF_cons (o := 1) (o' := 3) (total := 6) rfl (by kernel_rfl) (opens_struct0 (total := 2) Try.underlying119 (by kernel_rfl) (opensF_cons (o := 0) (o' := 1) (total := 2) rfl (by kernel_rfl) (opens_int Try.underlying3) (opensF_last (o := 1) (total := 2) rfl (by kernel_rfl) (opens_int Try.underlying117)))) (opensF_cons (o := 3) (o' := 4) (total := 6) rfl (by kernel_rfl) (opens_int Try.underlying3) (opensF_cons (o := 4) (o' := 5) (total := 6) rfl (by kernel_rfl) (opens_int Try.underlying3) (opensF_last (o := 5) (total := 6) rfl (by kernel_rfl) (opens_slice Try.underlying62 (by kernel_rfl) oE3)))))))))))))
end
set_option maxRecDepth 100000 in
theorem lifted (os : Os) (started : os.Started) (H : Type) (enc : TypeId × Value → H) :
    ReturnsInHanded {} Try.checked os 9 .any (Rows.fnExactCellsDueSpec.pre6 enc Try.prog Try.f9 Rows.fnExactCellsDueRow.domain false) (Rows.fnExactCellsDueSpec.post enc Try.prog Try.f9 false true false false) := by
  refine returnsInHanded_of_change_sized (C := Try.checked) own started (by kernel_rfl) Try.func9
    (ChangeSpec.witness6 (enc := enc) (C := Try.checked) false ⟨#[], #[.slice none 0 0, .int .i64 0, .int .i64 0], []⟩ 8 (by kernel_rfl) (by kernel_rfl) (by kernel_rfl) (by kernel_rfl)) ?_
  intro W base args ds gs before hval0 hW hcnd hsz0 _
  have hval : ∀ (j : Nat) t v, Try.f9.params[j]? = some t → args[j]? = some v → Value.okWide Try.prog W .any base t v := hval0
  have hW' := hW
  obtain ⟨p, q, hA0, hV, rfl, hfz, hnd⟩ := hW
  have hA : DataW.TrodAll enc Try.prog W 0 (fun _ => true) true Try.f9.params.toList args.toList ds p := hA0
  rw [Try.params9] at hA hval
  obtain ⟨v0, vs0, d0, ds0, p0, q0, hargs, rfl, rfl, h0, r0⟩ := trodAll_cons hA
  obtain ⟨v1, vs1, d1, ds1, p1, q1, rfl, rfl, rfl, h1, r1⟩ := trodAll_cons r0
  obtain ⟨v2, vs2, d2, ds2, p2, q2, rfl, rfl, rfl, h2, r2⟩ := trodAll_cons r1
  obtain ⟨rfl, rfl, rfl⟩ := trodAll_nil r2
  obtain rfl : args = #[v0, v1, v2] := by cases args; simp_all
  obtain ⟨rfl, rfl⟩ := trodVars_none hV
  have lt0 : ∀ x ∈ p0, x.block < W.heap.size := by obtain ⟨m, hm⟩ := h0; exact DataW.trod_lt m _ _ _ hm
  obtain ⟨a0, hK0, wa0⟩ := opens_arg (opens_slice Try.underlying74 (by kernel_rfl) oE177) h0
  obtain ⟨A0, n0, c0, rfl⟩ := okWide_slice Try.underlying74 (hval 0 74 v0 rfl rfl)
  obtain ⟨A_, c_, e_, hc0, hA0⟩ := hK0
  simp [Value.cells] at e_
  obtain ⟨rfl, rfl, rfl⟩ := e_
  have lt1 : ∀ x ∈ p1, x.block < W.heap.size := by obtain ⟨m, hm⟩ := h1; exact DataW.trod_lt m _ _ _ hm
  obtain ⟨a1, hK1, wa1⟩ := opens_arg (opens_int Try.underlying3) h1
  obtain ⟨y1, rfl⟩ := okWide_int Try.underlying3 (hval 1 3 v1 rfl rfl)
  have e_ : [Value.int .i64 y1] = [Value.int .i64 a1] := hK1
  simp at e_
  subst y1
  have lt2 : ∀ x ∈ p2, x.block < W.heap.size := by obtain ⟨m, hm⟩ := h2; exact DataW.trod_lt m _ _ _ hm
  obtain ⟨a2, hK2, wa2⟩ := opens_arg (opens_int Try.underlying3) h2
  obtain ⟨y2, rfl⟩ := okWide_int Try.underlying3 (hval 2 3 v2 rfl rfl)
  have e_ : [Value.int .i64 y2] = [Value.int .i64 a2] := hK2
  simp at e_
  subst y2
  clear hA0 hval0 hsz0
  have hn := Pure.FnExactCellsDue a0 a1 a2 wa0 wa1 wa2
  have hrs : F2 (RoAs W) [⟨177, (.pair (.int .i64) (.pair (.int .i64) (.pair (.int .i64) (.pair (.int .i64) (.pair (.int .i64) (.pair (.int .i64) (.pair (.pair (.int .i64) (.int .u64)) (.pair (.int .i64) (.pair (.int .i64) (.sl 3 (.int .i64))))))))))), a0, .ro⟩] [.slice A0 a0.length c0] := ⟨⟨rfl, A0, c0, rfl, hc0, hA0⟩, trivial⟩
  have hin : F2 (AV.R (gh0 W [.slice A0 a0.length c0])) [.s1 (.one (.sl 0)), .s1 (.one (.val (.int .i64 a1))), .s1 (.one (.val (.int .i64 a2)))] [((.slice A0 a0.length c0) : Value), ((.int .i64 a1) : Value), ((.int .i64 a2) : Value)] := ⟨rfl, rfl, rfl, trivial⟩
  refine (good_true good9 (args := [.s1 (.one (.sl 0)), .s1 (.one (.val (.int .i64 a1))), .s1 (.one (.val (.int .i64 a2)))]) (rs := [⟨177, (.pair (.int .i64) (.pair (.int .i64) (.pair (.int .i64) (.pair (.int .i64) (.pair (.int .i64) (.pair (.int .i64) (.pair (.pair (.int .i64) (.int .u64)) (.pair (.int .i64) (.pair (.int .i64) (.sl 3 (.int .i64))))))))))), a0, .ro⟩]) (out := ⟨Bool, L.FnExactCellsDue a1 a2 a0, R9⟩) (t := true) rfl hn rfl hrs hin).mono fun e W' ⟨he, bel⟩ => ?_
  subst he
  exact ⟨_, rfl, _, _, _, [], _, [], hW', trodAll_mk1 (shut_bool Try.underlying4 _), (trodAll_cons_mk (Below.trod laidOut (by kernel_rfl) (of_decide_eq_true (by kernel_rfl)) h0 bel lt0) (trodAll_cons_mk (Below.trod laidOut (by kernel_rfl) (of_decide_eq_true (by kernel_rfl)) h1 bel lt1) (trodAll_cons_mk (Below.trod laidOut (by kernel_rfl) (of_decide_eq_true (by kernel_rfl)) h2 bel lt2) trodAll_mk0))), rfl, bel.frame _, fun h => by cases h⟩
theorem joined : joinedFacts Try.pinned.checked.prog 9 Try.f9 Rows.fnExactCellsDueSpec Rows.fnExactCellsDueRow = true := by kernel_rfl
theorem instOk : Try.f9.isInstance Try.pinned.checked.prog Rows.fnExactCellsDueRow.origin Rows.fnExactCellsDueRow.targs := of_decide_eq_true (by kernel_rfl)
theorem wrapOk : Try.f9.isWrapper Try.pinned.checked.prog Rows.fnExactCellsDueRow.wrapper Rows.fnExactCellsDueRow.mainSum := by unfold Func.isWrapper; first | (rw [if_pos (by decide +kernel)]; kernel_rfl) | (rw [if_neg (by decide +kernel)]; exact ⟨rfl, rfl⟩)
theorem over : Rows.fnExactCellsDueRow.holds Try.pinned (OpenSpec.ofChange Rows.fnExactCellsDueSpec) :=
  OpenClaim.holds_of_wide 9 Try.f9 rfl rfl rfl rfl rfl rfl rfl ⟨rfl, rfl, rfl, rfl, rfl⟩ rfl rfl rfl rfl rfl (by kernel_rfl) Try.func9 joined instOk wrapOk
    (fun os started H enc _ => lifted os started H enc)
end Go.Proofs.Ythddkomphkanbaa.fnExactCellsDue
namespace Go.Proofs.Ythddkomphkanbaa
/-- The row, under a short name, for the claim. -/
theorem fnExactCellsDue_holds : Rows.FnExactCellsDueSaid := fnExactCellsDue.over
#print axioms fnExactCellsDue_holds
end Go.Proofs.Ythddkomphkanbaa
