/- The row of FnExactBoxPut: for every input the call returns true, and each argument reads as it read before. No condition. -/
import Derived.Test.YthddkomphkanbaaRows
import Derived.Test.YthddkomphkanbaaStmtFnExactBoxPut
import Derived.Test.YthddkomphkanbaaPureFnExactBoxPut
import Derived.Test.YthddkomphkanbaaOpen
import Derived.WalkKit
import Derived.ProofKit
import Derived.OpenShut
import Derived.ShutString
import Derived.ChangeOld
import Derived.Below
import Derived.SizedLaws
namespace Go.Proofs.Ythddkomphkanbaa.fnExactBoxPut
open Go.ChangeShapes Go.WideShapes Go.ChangeAt Go.RowKit Go.Proofs.Ythddkomphkanbaa.Opening Go.Proofs.YthddkomphkanbaaW.PrintWords Go.Proofs.Ythddkomphkanbaa.Vm Go.Proofs.Ythddkomphkanbaa.Run Go.Proofs.Ythddkomphkanbaa.StmtFnExactBoxPut
set_option linter.unusedVariables false
set_option linter.unusedSimpArgs false
theorem own : ownKnob Try.prog.godebug = none := by kernel_rfl
theorem laidOut : laidOutB Try.prog = true := by kernel_rfl
section
variable {H : Type} {enc : TypeId × Value → H} {W : World}
set_option maxRecDepth 100000 in
theorem oE3 : Opens enc Try.prog W 3 (Kd.int .i64) wfE3 := opens_int Try.underlying3
set_option maxRecDepth 100000 in
theorem oE230 : Opens enc Try.prog W 230 (Kd.pair (Kd.int .i64) (Kd.pair (Kd.int .i64) (Kd.pair (Kd.int .i64) (Kd.pair (Kd.int .i64) (Kd.pair (Kd.int .i64) (Kd.pair (Kd.int .i64) (Kd.pair (Kd.int .i64) (Kd.pair (Kd.int .i64) (Kd.pair (Kd.slice 3 (Kd.int .i64)) Kd.bool))))))))) wfE230 := opens_struct0 (total := 10) Try.underlying230 (by kernel_rfl) (opensF_cons (o := 0) (o' := 1) (total := 10) rfl (by kernel_rfl) (opens_int Try.underlying3) (opensF_cons (o := 1) (o' := 2) (total := 10) rfl (by kernel_rfl) (opens_int Try.underlying3) (opensF_last (o := 2) (total := 10) rfl (by kernel_rfl) (opens_struct0 (total := 8) Try.underlying64 (by kernel_rfl) (opensF_cons (o := 0) (o' := 1) (total := 8) rfl (by kernel_rfl) (opens_int Try.underlying3) (opensF_cons (o := 1) (o' := 2) (total := 8) rfl (by kernel_rfl) (opens_int Try.underlying3) (opensF_cons (o := 2) (o' := 3) (total := 8) rfl (by kernel_rfl) (opens_int Try.underlying3) (opensF_cons (o := 3) (o' := 4) (total := 8) rfl (by kernel_rfl) (opens_int Try.underlying3) (opensF_cons (o := 4) (o' := 5) (total := 8) rfl (by kernel_rfl) (opens_int Try.underlying3) (opensF_cons (o := 5) (o' := 6) (total := 8) rfl (by kernel_rfl) (opens_int Try.underlying3) (opensF_cons (o := 6) (o' := 7) (total := 8) rfl (by kernel_rfl) (opens_slice Try.underlying62 (by kernel_rfl) oE3) (opensF_last (o := 7) (total := 8) rfl (by kernel_rfl) (opens_bool Try.underlying4)))))))))))))
set_option maxRecDepth 100000 in
theorem oE233 : Opens enc Try.prog W 233 (Kd.pair (Kd.int .i64) (Kd.pair (Kd.int .i64) (Kd.int .i64))) wfE233 := opens_struct0 (total := 3) Try.underlying233 (by kernel_rfl) (opensF_cons (o := 0) (o' := 1) (total := 3) rfl (by kernel_rfl) (opens_int Try.underlying3) (opensF_cons (o := 1) (o' := 2) (total := 3) rfl (by kernel_rfl) (opens_int Try.underlying3) (opensF_last (o := 2) (total := 3) rfl (by kernel_rfl) (opens_int Try.underlying3))))
end
set_option maxRecDepth 100000 in
theorem lifted (os : Os) (started : os.Started) (H : Type) (enc : TypeId × Value → H) :
    ReturnsInHanded {} Try.checked os 6 .any (Rows.fnExactBoxPutSpec.pre6 enc Try.prog Try.f6 Rows.fnExactBoxPutRow.domain false) (Rows.fnExactBoxPutSpec.post enc Try.prog Try.f6 false true false false) := by
  refine returnsInHanded_of_change_sized (C := Try.checked) own started (by kernel_rfl) Try.func6
    (ChangeSpec.witness6 (enc := enc) (C := Try.checked) false ⟨#[], #[.agg #[.int .i64 0, .int .i64 0, .int .i64 0, .int .i64 0, .slice none 0 0, .slice none 0 0], .agg #[.int .i64 0, .int .i64 0, .int .i64 0, .int .i64 0, .int .i64 0, .int .i64 0, .slice none 0 0, .bool false], .int .i64 0], []⟩ 8 (by kernel_rfl) (by kernel_rfl) (by kernel_rfl) (by kernel_rfl)) ?_
  intro W base args ds gs before hval0 hW hcnd hsz0 _
  have hval : ∀ (j : Nat) t v, Try.f6.params[j]? = some t → args[j]? = some v → Value.okWide Try.prog W .any base t v := hval0
  have hW' := hW
  obtain ⟨p, q, hA0, hV, rfl, hfz, hnd⟩ := hW
  have hA : DataW.TrodAll enc Try.prog W 0 (fun _ => true) true Try.f6.params.toList args.toList ds p := hA0
  rw [Try.params6] at hA hval
  obtain ⟨v0, vs0, d0, ds0, p0, q0, hargs, rfl, rfl, h0, r0⟩ := trodAll_cons hA
  obtain ⟨v1, vs1, d1, ds1, p1, q1, rfl, rfl, rfl, h1, r1⟩ := trodAll_cons r0
  obtain ⟨v2, vs2, d2, ds2, p2, q2, rfl, rfl, rfl, h2, r2⟩ := trodAll_cons r1
  obtain ⟨rfl, rfl, rfl⟩ := trodAll_nil r2
  obtain rfl : args = #[v0, v1, v2] := by cases args; simp_all
  obtain ⟨rfl, rfl⟩ := trodVars_none hV
  have lt0 : ∀ x ∈ p0, x.block < W.heap.size := by obtain ⟨m, hm⟩ := h0; exact DataW.trod_lt m _ _ _ hm
  obtain ⟨x0, hK0, hw0⟩ := opens_arg (opens_struct0 (total := 6) Try.underlying25 (by kernel_rfl) (opensF_cons (o := 0) (o' := 1) (total := 6) rfl (by kernel_rfl) (opens_int Try.underlying3) (opensF_cons (o := 1) (o' := 2) (total := 6) rfl (by kernel_rfl) (opens_int Try.underlying3) (opensF_cons (o := 2) (o' := 3) (total := 6) rfl (by kernel_rfl) (opens_int Try.underlying3) (opensF_cons (o := 3) (o' := 4) (total := 6) rfl (by kernel_rfl) (opens_int Try.underlying3) (opensF_cons (o := 4) (o' := 5) (total := 6) rfl (by kernel_rfl) (opens_slice Try.underlying22 (by kernel_rfl) oE230) (opensF_last (o := 5) (total := 6) rfl (by kernel_rfl) (opens_slice Try.underlying23 (by kernel_rfl) oE233)))))))) h0
  obtain ⟨cs0, rfl, hcs0⟩ := arg_struct Try.underlying25 (hval 0 25 v0 rfl rfl)
  rw [hcs0] at hK0
  obtain ⟨a0_0, ⟨a0_1, ⟨a0_2, ⟨a0_3, ⟨a0_4, a0_5⟩⟩⟩⟩⟩ := x0
  obtain ⟨wa0_0, ⟨wa0_1, ⟨wa0_2, ⟨wa0_3, ⟨wa0_4, wa0_5⟩⟩⟩⟩⟩ := hw0
  obtain ⟨cp0_1, cq0_1, ee0_1, hp0_1, hq0_1⟩ := hK0
  have ea0_0 := hp0_1
  obtain ⟨cp0_2, cq0_2, ee0_2, hp0_2, hq0_2⟩ := hq0_1
  have ea0_1 := hp0_2
  obtain ⟨cp0_3, cq0_3, ee0_3, hp0_3, hq0_3⟩ := hq0_2
  have ea0_2 := hp0_3
  obtain ⟨cp0_4, cq0_4, ee0_4, hp0_4, hq0_4⟩ := hq0_3
  have ea0_3 := hp0_4
  obtain ⟨cp0_5, cq0_5, ee0_5, hp0_5, hq0_5⟩ := hq0_4
  obtain ⟨A0_4, c0_4, ea0_4, hc0_4, hA0_4⟩ := hp0_5
  obtain ⟨A0_5, c0_5, ea0_5, hc0_5, hA0_5⟩ := hq0_5
  obtain rfl : cs0 = #[.int .i64 a0_0, .int .i64 a0_1, .int .i64 a0_2, .int .i64 a0_3, .slice A0_4 a0_4.length c0_4, .slice A0_5 a0_5.length c0_5] := by
    have hl : cs0.toList = [.int .i64 a0_0, .int .i64 a0_1, .int .i64 a0_2, .int .i64 a0_3, .slice A0_4 a0_4.length c0_4, .slice A0_5 a0_5.length c0_5] := by rw [ee0_1, ea0_0, ee0_2, ea0_1, ee0_3, ea0_2, ee0_4, ea0_3, ee0_5, ea0_4, ea0_5]; rfl
    cases cs0
    simpa using hl
  have lt1 : ∀ x ∈ p1, x.block < W.heap.size := by obtain ⟨m, hm⟩ := h1; exact DataW.trod_lt m _ _ _ hm
  obtain ⟨x1, hK1, hw1⟩ := opens_arg (opens_struct0 (total := 8) Try.underlying64 (by kernel_rfl) (opensF_cons (o := 0) (o' := 1) (total := 8) rfl (by kernel_rfl) (opens_int Try.underlying3) (opensF_cons (o := 1) (o' := 2) (total := 8) rfl (by kernel_rfl) (opens_int Try.underlying3) (opensF_cons (o := 2) (o' := 3) (total := 8) rfl (by kernel_rfl) (opens_int Try.underlying3) (opensF_cons (o := 3) (o' := 4) (total := 8) rfl (by kernel_rfl) (opens_int Try.underlying3) (opensF_cons (o := 4) (o' := 5) (total := 8) rfl (by kernel_rfl) (opens_int Try.underlying3) (opensF_cons (o := 5) (o' := 6) (total := 8) rfl (by kernel_rfl) (opens_int Try.underlying3) (opensF_cons (o := 6) (o' := 7) (total := 8) rfl (by kernel_rfl) (opens_slice Try.underlying62 (by kernel_rfl) oE3) (opensF_last (o := 7) (total := 8) rfl (by kernel_rfl) (opens_bool Try.underlying4)))))))))) h1
  obtain ⟨cs1, rfl, hcs1⟩ := arg_struct Try.underlying64 (hval 1 64 v1 rfl rfl)
  rw [hcs1] at hK1
  obtain ⟨a1_0, ⟨a1_1, ⟨a1_2, ⟨a1_3, ⟨a1_4, ⟨a1_5, ⟨a1_6, a1_7⟩⟩⟩⟩⟩⟩⟩ := x1
  obtain ⟨wa1_0, ⟨wa1_1, ⟨wa1_2, ⟨wa1_3, ⟨wa1_4, ⟨wa1_5, ⟨wa1_6, wa1_7⟩⟩⟩⟩⟩⟩⟩ := hw1
  obtain ⟨cp1_1, cq1_1, ee1_1, hp1_1, hq1_1⟩ := hK1
  have ea1_0 := hp1_1
  obtain ⟨cp1_2, cq1_2, ee1_2, hp1_2, hq1_2⟩ := hq1_1
  have ea1_1 := hp1_2
  obtain ⟨cp1_3, cq1_3, ee1_3, hp1_3, hq1_3⟩ := hq1_2
  have ea1_2 := hp1_3
  obtain ⟨cp1_4, cq1_4, ee1_4, hp1_4, hq1_4⟩ := hq1_3
  have ea1_3 := hp1_4
  obtain ⟨cp1_5, cq1_5, ee1_5, hp1_5, hq1_5⟩ := hq1_4
  have ea1_4 := hp1_5
  obtain ⟨cp1_6, cq1_6, ee1_6, hp1_6, hq1_6⟩ := hq1_5
  have ea1_5 := hp1_6
  obtain ⟨cp1_7, cq1_7, ee1_7, hp1_7, hq1_7⟩ := hq1_6
  obtain ⟨A1_6, c1_6, ea1_6, hc1_6, hA1_6⟩ := hp1_7
  have ea1_7 := hq1_7
  obtain rfl : cs1 = #[.int .i64 a1_0, .int .i64 a1_1, .int .i64 a1_2, .int .i64 a1_3, .int .i64 a1_4, .int .i64 a1_5, .slice A1_6 a1_6.length c1_6, .bool a1_7] := by
    have hl : cs1.toList = [.int .i64 a1_0, .int .i64 a1_1, .int .i64 a1_2, .int .i64 a1_3, .int .i64 a1_4, .int .i64 a1_5, .slice A1_6 a1_6.length c1_6, .bool a1_7] := by rw [ee1_1, ea1_0, ee1_2, ea1_1, ee1_3, ea1_2, ee1_4, ea1_3, ee1_5, ea1_4, ee1_6, ea1_5, ee1_7, ea1_6, ea1_7]; rfl
    cases cs1
    simpa using hl
  have lt2 : ∀ x ∈ p2, x.block < W.heap.size := by obtain ⟨m, hm⟩ := h2; exact DataW.trod_lt m _ _ _ hm
  obtain ⟨a2, hK2, wa2⟩ := opens_arg (opens_int Try.underlying3) h2
  obtain ⟨y2, rfl⟩ := okWide_int Try.underlying3 (hval 2 3 v2 rfl rfl)
  have e_ : [Value.int .i64 y2] = [Value.int .i64 a2] := hK2
  simp at e_
  subst y2
  clear hA0 hval0 hsz0
  have hn := Pure.FnExactBoxPut a0_0 a0_1 a0_2 a0_3 a0_4 a0_5 a1_0 a1_1 a1_2 a1_3 a1_4 a1_5 a1_6 a1_7 a2 wa0_0 wa0_1 wa0_2 wa0_3 wa0_4 wa0_5 wa1_0 wa1_1 wa1_2 wa1_3 wa1_4 wa1_5 wa1_6 wa1_7 wa2
  have hrs : F2 (RoAs W) [⟨230, (.pair (.int .i64) (.pair (.int .i64) (.pair (.int .i64) (.pair (.int .i64) (.pair (.int .i64) (.pair (.int .i64) (.pair (.int .i64) (.pair (.int .i64) (.pair (.sl 3 (.int .i64)) .bool))))))))), a0_4, .ro⟩, ⟨233, (.pair (.int .i64) (.pair (.int .i64) (.int .i64))), a0_5, .ro⟩, ⟨3, (.int .i64), a1_6, .ro⟩] [.slice A0_4 a0_4.length c0_4, .slice A0_5 a0_5.length c0_5, .slice A1_6 a1_6.length c1_6] := ⟨⟨rfl, A0_4, c0_4, rfl, hc0_4, hA0_4⟩, ⟨rfl, A0_5, c0_5, rfl, hc0_5, hA0_5⟩, ⟨rfl, A1_6, c1_6, rfl, hc1_6, hA1_6⟩, trivial⟩
  have hin : F2 (AV.R (gh0 W [.slice A0_4 a0_4.length c0_4, .slice A0_5 a0_5.length c0_5, .slice A1_6 a1_6.length c1_6])) [.s1 (.agg [.val (.int .i64 a0_0), .val (.int .i64 a0_1), .val (.int .i64 a0_2), .val (.int .i64 a0_3), .sl 0, .sl 1]), .s1 (.agg [.val (.int .i64 a1_0), .val (.int .i64 a1_1), .val (.int .i64 a1_2), .val (.int .i64 a1_3), .val (.int .i64 a1_4), .val (.int .i64 a1_5), .sl 2, .val (.bool a1_7)]), .s1 (.one (.val (.int .i64 a2)))] [Value.agg #[(.int .i64 a0_0), (.int .i64 a0_1), (.int .i64 a0_2), (.int .i64 a0_3), (.slice A0_4 a0_4.length c0_4), (.slice A0_5 a0_5.length c0_5)], Value.agg #[(.int .i64 a1_0), (.int .i64 a1_1), (.int .i64 a1_2), (.int .i64 a1_3), (.int .i64 a1_4), (.int .i64 a1_5), (.slice A1_6 a1_6.length c1_6), (.bool a1_7)], ((.int .i64 a2) : Value)] := ⟨⟨_, rfl, ⟨rfl, rfl, rfl, rfl, rfl, rfl, trivial⟩⟩, ⟨_, rfl, ⟨rfl, rfl, rfl, rfl, rfl, rfl, rfl, rfl, trivial⟩⟩, rfl, trivial⟩
  refine (good_true good6 (args := [.s1 (.agg [.val (.int .i64 a0_0), .val (.int .i64 a0_1), .val (.int .i64 a0_2), .val (.int .i64 a0_3), .sl 0, .sl 1]), .s1 (.agg [.val (.int .i64 a1_0), .val (.int .i64 a1_1), .val (.int .i64 a1_2), .val (.int .i64 a1_3), .val (.int .i64 a1_4), .val (.int .i64 a1_5), .sl 2, .val (.bool a1_7)]), .s1 (.one (.val (.int .i64 a2)))]) (rs := [⟨230, (.pair (.int .i64) (.pair (.int .i64) (.pair (.int .i64) (.pair (.int .i64) (.pair (.int .i64) (.pair (.int .i64) (.pair (.int .i64) (.pair (.int .i64) (.pair (.sl 3 (.int .i64)) .bool))))))))), a0_4, .ro⟩, ⟨233, (.pair (.int .i64) (.pair (.int .i64) (.int .i64))), a0_5, .ro⟩, ⟨3, (.int .i64), a1_6, .ro⟩]) (out := ⟨Bool, L.FnExactBoxPut a0_0 a0_1 a0_2 a0_3 a1_0 a1_1 a1_2 a1_3 a1_4 a1_5 a1_7 a2 a0_4 a0_5 a1_6, R6⟩) (t := true) rfl hn rfl hrs hin).mono fun e W' ⟨he, bel⟩ => ?_
  subst he
  exact ⟨_, rfl, _, _, _, [], _, [], hW', trodAll_mk1 (shut_bool Try.underlying4 _), (trodAll_cons_mk (Below.trod laidOut (by kernel_rfl) (of_decide_eq_true (by kernel_rfl)) h0 bel lt0) (trodAll_cons_mk (Below.trod laidOut (by kernel_rfl) (of_decide_eq_true (by kernel_rfl)) h1 bel lt1) (trodAll_cons_mk (Below.trod laidOut (by kernel_rfl) (of_decide_eq_true (by kernel_rfl)) h2 bel lt2) trodAll_mk0))), rfl, bel.frame _, fun h => by cases h⟩
theorem joined : joinedFacts Try.pinned.checked.prog 6 Try.f6 Rows.fnExactBoxPutSpec Rows.fnExactBoxPutRow = true := by kernel_rfl
theorem instOk : Try.f6.isInstance Try.pinned.checked.prog Rows.fnExactBoxPutRow.origin Rows.fnExactBoxPutRow.targs := of_decide_eq_true (by kernel_rfl)
theorem wrapOk : Try.f6.isWrapper Try.pinned.checked.prog Rows.fnExactBoxPutRow.wrapper Rows.fnExactBoxPutRow.mainSum := by unfold Func.isWrapper; first | (rw [if_pos (by decide +kernel)]; kernel_rfl) | (rw [if_neg (by decide +kernel)]; exact ⟨rfl, rfl⟩)
theorem over : Rows.fnExactBoxPutRow.holds Try.pinned (OpenSpec.ofChange Rows.fnExactBoxPutSpec) :=
  OpenClaim.holds_of_wide 6 Try.f6 rfl rfl rfl rfl rfl rfl rfl ⟨rfl, rfl, rfl, rfl, rfl⟩ rfl rfl rfl rfl rfl (by kernel_rfl) Try.func6 joined instOk wrapOk
    (fun os started H enc _ => lifted os started H enc)
end Go.Proofs.Ythddkomphkanbaa.fnExactBoxPut
namespace Go.Proofs.Ythddkomphkanbaa
/-- The row, under a short name, for the claim. -/
theorem fnExactBoxPut_holds : Rows.FnExactBoxPutSaid := fnExactBoxPut.over
#print axioms fnExactBoxPut_holds
end Go.Proofs.Ythddkomphkanbaa
