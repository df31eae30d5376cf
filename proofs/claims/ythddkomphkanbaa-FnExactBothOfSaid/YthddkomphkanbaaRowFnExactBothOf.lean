/- The row of FnExactBothOf: for every input the call returns true, and each argument reads as it read before. No condition. -/
import Derived.Test.YthddkomphkanbaaRows
import Derived.Test.YthddkomphkanbaaStmtFnExactBothOf
import Derived.Test.YthddkomphkanbaaPureFnExactBothOf
import Derived.Test.YthddkomphkanbaaOpen
import Derived.WalkKit
import Derived.ProofKit
import Derived.OpenShut
import Derived.ShutString
import Derived.ChangeOld
import Derived.Below
import Derived.SizedLaws
namespace Go.Proofs.Ythddkomphkanbaa.fnExactBothOf
open Go.ChangeShapes Go.WideShapes Go.ChangeAt Go.RowKit Go.Proofs.Ythddkomphkanbaa.Opening Go.Proofs.YthddkomphkanbaaW.PrintWords Go.Proofs.Ythddkomphkanbaa.Vm Go.Proofs.Ythddkomphkanbaa.Run Go.Proofs.Ythddkomphkanbaa.StmtFnExactBothOf
set_option linter.unusedVariables false
set_option linter.unusedSimpArgs false
theorem own : ownKnob Try.prog.godebug = none := by kernel_rfl
theorem laidOut : laidOutB Try.prog = true := by kernel_rfl
section
variable {H : Type} {enc : TypeId × Value → H} {W : World}
set_option maxRecDepth 100000 in
theorem oE117 : Opens enc Try.prog W 117 (Kd.int .u64) wfE117 := opens_int Try.underlying117
set_option maxRecDepth 100000 in
theorem oE3 : Opens enc Try.prog W 3 (Kd.int .i64) wfE3 := opens_int Try.underlying3
set_option maxRecDepth 100000 in
theorem oE64 : Opens enc Try.prog W 64 (Kd.pair (Kd.int .i64) (Kd.pair (Kd.int .i64) (Kd.pair (Kd.int .i64) (Kd.pair (Kd.int .i64) (Kd.pair (Kd.int .i64) (Kd.pair (Kd.int .i64) (Kd.pair (Kd.slice 3 (Kd.int .i64)) Kd.bool))))))) wfE64 := opens_struct0 (total := 8) Try.underlying64 (by kernel_rfl) (opensF_cons (o := 0) (o' := 1) (total := 8) rfl (by kernel_rfl) (opens_int Try.underlying3) (opensF_cons (o := 1) (o' := 2) (total := 8) rfl (by kernel_rfl) (opens_int Try.underlying3) (opensF_cons (o := 2) (o' := 3) (total := 8) rfl (by kernel_rfl) (opens_int Try.underlying3) (opensF_cons (o := 3) (o' := 4) (total := 8) rfl (by kernel_rfl) (opens_int Try.underlying3) (opensF_cons (o := 4) (o' := 5) (total := 8) rfl (by kernel_rfl) (opens_int Try.underlying3) (opensF_cons (o := 5) (o' := 6) (total := 8) rfl (by kernel_rfl) (opens_int Try.underlying3) (opensF_cons (o := 6) (o' := 7) (total := 8) rfl (by kernel_rfl) (opens_slice Try.underlying62 (by kernel_rfl) oE3) (opensF_last (o := 7) (total := 8) rfl (by kernel_rfl) (opens_bool Try.underlying4)))))))))
end
set_option maxRecDepth 100000 in
theorem lifted (os : Os) (started : os.Started) (H : Type) (enc : TypeId × Value → H) :
    ReturnsInHanded {} Try.checked os 5 .any (Rows.fnExactBothOfSpec.pre6 enc Try.prog Try.f5 Rows.fnExactBothOfRow.domain false) (Rows.fnExactBothOfSpec.post enc Try.prog Try.f5 false true false false) := by
  refine returnsInHanded_of_change_sized (C := Try.checked) own started (by kernel_rfl) Try.func5
    (ChangeSpec.witness6 (enc := enc) (C := Try.checked) false ⟨#[], #[.agg #[.int .i64 0, .slice none 0 0], .slice none 0 0, .slice none 0 0], []⟩ 8 (by kernel_rfl) (by kernel_rfl) (by kernel_rfl) (by kernel_rfl)) ?_
  intro W base args ds gs before hval0 hW hcnd hsz0 _
  have hval : ∀ (j : Nat) t v, Try.f5.params[j]? = some t → args[j]? = some v → Value.okWide Try.prog W .any base t v := hval0
  have hW' := hW
  obtain ⟨p, q, hA0, hV, rfl, hfz, hnd⟩ := hW
  have hA : DataW.TrodAll enc Try.prog W 0 (fun _ => true) true Try.f5.params.toList args.toList ds p := hA0
  rw [Try.params5] at hA hval
  obtain ⟨v0, vs0, d0, ds0, p0, q0, hargs, rfl, rfl, h0, r0⟩ := trodAll_cons hA
  obtain ⟨v1, vs1, d1, ds1, p1, q1, rfl, rfl, rfl, h1, r1⟩ := trodAll_cons r0
  obtain ⟨v2, vs2, d2, ds2, p2, q2, rfl, rfl, rfl, h2, r2⟩ := trodAll_cons r1
  obtain ⟨rfl, rfl, rfl⟩ := trodAll_nil r2
  obtain rfl : args = #[v0, v1, v2] := by cases args; simp_all
  obtain ⟨rfl, rfl⟩ := trodVars_none hV
  have lt0 : ∀ x ∈ p0, x.block < W.heap.size := by obtain ⟨m, hm⟩ := h0; exact DataW.trod_lt m _ _ _ hm
  obtain ⟨x0, hK0, hw0⟩ := opens_arg (opens_struct0 (total := 2) Try.underlying44 (by kernel_rfl) (opensF_cons (o := 0) (o' := 1) (total := 2) rfl (by kernel_rfl) (opens_int Try.underlying3) (opensF_last (o := 1) (total := 2) rfl (by kernel_rfl) (opens_slice Try.underlying42 (by kernel_rfl) oE117)))) h0
  obtain ⟨cs0, rfl, hcs0⟩ := arg_struct Try.underlying44 (hval 0 44 v0 rfl rfl)
  rw [hcs0] at hK0
  obtain ⟨a0_0, a0_1⟩ := x0
  obtain ⟨wa0_0, wa0_1⟩ := hw0
  obtain ⟨cp0_1, cq0_1, ee0_1, hp0_1, hq0_1⟩ := hK0
  have ea0_0 := hp0_1
  obtain ⟨A0_1, c0_1, ea0_1, hc0_1, hA0_1⟩ := hq0_1
  obtain rfl : cs0 = #[.int .i64 a0_0, .slice A0_1 a0_1.length c0_1] := by
    have hl : cs0.toList = [.int .i64 a0_0, .slice A0_1 a0_1.length c0_1] := by rw [ee0_1, ea0_0, ea0_1]; rfl
    cases cs0
    simpa using hl
  have lt1 : ∀ x ∈ p1, x.block < W.heap.size := by obtain ⟨m, hm⟩ := h1; exact DataW.trod_lt m _ _ _ hm
  obtain ⟨a1, hK1, wa1⟩ := opens_arg (opens_slice Try.underlying45 (by kernel_rfl) oE64) h1
  obtain ⟨A1, n1, c1, rfl⟩ := okWide_slice Try.underlying45 (hval 1 45 v1 rfl rfl)
  obtain ⟨A_, c_, e_, hc1, hA1⟩ := hK1
  simp [Value.cells] at e_
  obtain ⟨rfl, rfl, rfl⟩ := e_
  have lt2 : ∀ x ∈ p2, x.block < W.heap.size := by obtain ⟨m, hm⟩ := h2; exact DataW.trod_lt m _ _ _ hm
  obtain ⟨a2, hK2, wa2⟩ := opens_arg (opens_slice Try.underlying45 (by kernel_rfl) oE64) h2
  obtain ⟨A2, n2, c2, rfl⟩ := okWide_slice Try.underlying45 (hval 2 45 v2 rfl rfl)
  obtain ⟨A_, c_, e_, hc2, hA2⟩ := hK2
  simp [Value.cells] at e_
  obtain ⟨rfl, rfl, rfl⟩ := e_
  clear hA0 hval0 hsz0
  have hn := Pure.FnExactBothOf a0_0 a0_1 a1 a2 wa0_0 wa0_1 wa1 wa2
  have hrs : F2 (RoAs W) [⟨117, (.int .u64), a0_1, .ro⟩, ⟨64, (.pair (.int .i64) (.pair (.int .i64) (.pair (.int .i64) (.pair (.int .i64) (.pair (.int .i64) (.pair (.int .i64) (.pair (.sl 3 (.int .i64)) .bool))))))), a1, .ro⟩, ⟨64, (.pair (.int .i64) (.pair (.int .i64) (.pair (.int .i64) (.pair (.int .i64) (.pair (.int .i64) (.pair (.int .i64) (.pair (.sl 3 (.int .i64)) .bool))))))), a2, .ro⟩] [.slice A0_1 a0_1.length c0_1, .slice A1 a1.length c1, .slice A2 a2.length c2] := ⟨⟨rfl, A0_1, c0_1, rfl, hc0_1, hA0_1⟩, ⟨rfl, A1, c1, rfl, hc1, hA1⟩, ⟨rfl, A2, c2, rfl, hc2, hA2⟩, trivial⟩
  have hin : F2 (AV.R (gh0 W [.slice A0_1 a0_1.length c0_1, .slice A1 a1.length c1, .slice A2 a2.length c2])) [.s1 (.agg [.val (.int .i64 a0_0), .sl 0]), .s1 (.one (.sl 1)), .s1 (.one (.sl 2))] [Value.agg #[(.int .i64 a0_0), (.slice A0_1 a0_1.length c0_1)], ((.slice A1 a1.length c1) : Value), ((.slice A2 a2.length c2) : Value)] := ⟨⟨_, rfl, ⟨rfl, rfl, trivial⟩⟩, rfl, rfl, trivial⟩
  refine (good_true good5 (args := [.s1 (.agg [.val (.int .i64 a0_0), .sl 0]), .s1 (.one (.sl 1)), .s1 (.one (.sl 2))]) (rs := [⟨117, (.int .u64), a0_1, .ro⟩, ⟨64, (.pair (.int .i64) (.pair (.int .i64) (.pair (.int .i64) (.pair (.int .i64) (.pair (.int .i64) (.pair (.int .i64) (.pair (.sl 3 (.int .i64)) .bool))))))), a1, .ro⟩, ⟨64, (.pair (.int .i64) (.pair (.int .i64) (.pair (.int .i64) (.pair (.int .i64) (.pair (.int .i64) (.pair (.int .i64) (.pair (.sl 3 (.int .i64)) .bool))))))), a2, .ro⟩]) (out := ⟨Bool, L.FnExactBothOf a0_0 a0_1 a1 a2, R5⟩) (t := true) rfl hn rfl hrs hin).mono fun e W' ⟨he, bel⟩ => ?_
  subst he
  exact ⟨_, rfl, _, _, _, [], _, [], hW', trodAll_mk1 (shut_bool Try.underlying4 _), (trodAll_cons_mk (Below.trod laidOut (by kernel_rfl) (of_decide_eq_true (by kernel_rfl)) h0 bel lt0) (trodAll_cons_mk (Below.trod laidOut (by kernel_rfl) (of_decide_eq_true (by kernel_rfl)) h1 bel lt1) (trodAll_cons_mk (Below.trod laidOut (by kernel_rfl) (of_decide_eq_true (by kernel_rfl)) h2 bel lt2) trodAll_mk0))), rfl, bel.frame _, fun h => by cases h⟩
theorem joined : joinedFacts Try.pinned.checked.prog 5 Try.f5 Rows.fnExactBothOfSpec Rows.fnExactBothOfRow = true := by kernel_rfl
theorem instOk : Try.f5.isInstance Try.pinned.checked.prog Rows.fnExactBothOfRow.origin Rows.fnExactBothOfRow.targs := of_decide_eq_true (by kernel_rfl)
theorem wrapOk : Try.f5.isWrapper Try.pinned.checked.prog Rows.fnExactBothOfRow.wrapper Rows.fnExactBothOfRow.mainSum := by unfold Func.isWrapper; first | (rw [if_pos (by decide +kernel)]; kernel_rfl) | (rw [if_neg (by decide +kernel)]; exact ⟨rfl, rfl⟩)
theorem over : Rows.fnExactBothOfRow.holds Try.pinned (OpenSpec.ofChange Rows.fnExactBothOfSpec) :=
  OpenClaim.holds_of_wide 5 Try.f5 rfl rfl rfl rfl rfl rfl rfl ⟨rfl, rfl, rfl, rfl, rfl⟩ rfl rfl rfl rfl rfl (by kernel_rfl) Try.func5 joined instOk wrapOk
    (fun os started H enc _ => lifted os started H enc)
end Go.Proofs.Ythddkomphkanbaa.fnExactBothOf
namespace Go.Proofs.Ythddkomphkanbaa
/-- The row, under a short name, for the claim. -/
theorem fnExactBothOf_holds : Rows.FnExactBothOfSaid := fnExactBothOf.over
#print axioms fnExactBothOf_holds
end Go.Proofs.Ythddkomphkanbaa
