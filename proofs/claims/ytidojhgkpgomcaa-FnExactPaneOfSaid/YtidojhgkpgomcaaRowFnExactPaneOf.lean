/- The row of FnExactPaneOf: for every input the call returns true, and each argument reads as it read before. No condition. -/
import Derived.Test.YtidojhgkpgomcaaRows
import Derived.Test.YtidojhgkpgomcaaStmtFnExactPaneOf
import Derived.Test.YtidojhgkpgomcaaPureFnExactPaneOf
import Derived.Test.YtidojhgkpgomcaaOpen
import Derived.WalkKit
import Derived.ProofKit
import Derived.OpenShut
import Derived.ShutString
import Derived.ChangeOld
import Derived.Below
import Derived.SizedLaws
namespace Go.Proofs.Ytidojhgkpgomcaa.fnExactPaneOf
open Go.ChangeShapes Go.WideShapes Go.ChangeAt Go.RowKit Go.Proofs.Ytidojhgkpgomcaa.Opening Go.Proofs.YtidojhgkpgomcaaW.PrintWords Go.Proofs.Ytidojhgkpgomcaa.Vm Go.Proofs.Ytidojhgkpgomcaa.Run Go.Proofs.Ytidojhgkpgomcaa.StmtFnExactPaneOf
set_option linter.unusedVariables false
set_option linter.unusedSimpArgs false
theorem own : ownKnob Try.prog.godebug = none := by kernel_rfl
theorem laidOut : laidOutB Try.prog = true := by kernel_rfl
section
variable {H : Type} {enc : TypeId × Value → H} {W : World}
set_option maxRecDepth 100000 in
theorem oE155 : Opens enc Try.prog W 155 (Kd.pair (Kd.int .i64) (Kd.int .i64)) wfE155 := opens_struct0 (total := 2) Try.underlying155 (by kernel_rfl) (opensF_cons (o := 0) (o' := 1) (total := 2) rfl (by kernel_rfl) (opens_int Try.underlying3) (opensF_last (o := 1) (total := 2) rfl (by kernel_rfl) (opens_int Try.underlying3)))
set_option maxRecDepth 100000 in
theorem oE3 : Opens enc Try.prog W 3 (Kd.int .i64) wfE3 := opens_int Try.underlying3
end
set_option maxRecDepth 100000 in
theorem lifted (os : Os) (started : os.Started) (H : Type) (enc : TypeId × Value → H) :
    ReturnsInHanded {} Try.checked os 5 .any (Rows.fnExactPaneOfSpec.pre6 enc Try.prog Try.f5 Rows.fnExactPaneOfRow.domain false) (Rows.fnExactPaneOfSpec.post enc Try.prog Try.f5 false true false false) := by
  refine returnsInHanded_of_change_sized (C := Try.checked) own started (by kernel_rfl) Try.func5
    (ChangeSpec.witness6 (enc := enc) (C := Try.checked) false ⟨#[], #[.int .i64 0, .agg #[.slice none 0 0, .slice none 0 0, .int .i64 0, .int .i64 0, .int .i64 0, .int .i64 0, .int .i64 0], .int .i64 0, .agg #[.int .i64 0, .int .i64 0], .int .i64 0, .agg #[.int .i64 0, .int .i64 0, .int .u64 0, .int .i64 0, .int .i64 0, .slice none 0 0]], []⟩ 8 (by kernel_rfl) (by kernel_rfl) (by kernel_rfl) (by kernel_rfl)) ?_
  intro W base args ds gs before hval0 hW hcnd hsz0 _
  have hval : ∀ (j : Nat) t v, Try.f5.params[j]? = some t → args[j]? = some v → Value.okWide Try.prog W .any base t v := hval0
  have hW' := hW
  obtain ⟨p, q, hA0, hV, rfl, hfz, hnd⟩ := hW
  have hA : DataW.TrodAll enc Try.prog W 0 (fun _ => true) true Try.f5.params.toList args.toList ds p := hA0
  rw [Try.params5] at hA hval
  obtain ⟨v0, vs0, d0, ds0, p0, q0, hargs, rfl, rfl, h0, r0⟩ := trodAll_cons hA
  obtain ⟨v1, vs1, d1, ds1, p1, q1, rfl, rfl, rfl, h1, r1⟩ := trodAll_cons r0
  obtain ⟨v2, vs2, d2, ds2, p2, q2, rfl, rfl, rfl, h2, r2⟩ := trodAll_cons r1
  obtain ⟨v3, vs3, d3, ds3, p3, q3, rfl, rfl, rfl, h3, r3⟩ := trodAll_cons r2
  obtain ⟨v4, vs4, d4, ds4, p4, q4, rfl, rfl, rfl, h4, r4⟩ := trodAll_cons r3
  obtain ⟨v5, vs5, d5, ds5, p5, q5, rfl, rfl, rfl, h5, r5⟩ := trodAll_cons r4
  obtain ⟨rfl, rfl, rfl⟩ := trodAll_nil r5
  obtain rfl : args = #[v0, v1, v2, v3, v4, v5] := by cases args; simp_all
  obtain ⟨rfl, rfl⟩ := trodVars_none hV
  have lt0 : ∀ x ∈ p0, x.block < W.heap.size := by obtain ⟨m, hm⟩ := h0; exact DataW.trod_lt m _ _ _ hm
  obtain ⟨a0, hK0, wa0⟩ := opens_arg (opens_int Try.underlying3) h0
  obtain ⟨y0, rfl⟩ := okWide_int Try.underlying3 (hval 0 3 v0 rfl rfl)
  have e_ : [Value.int .i64 y0] = [Value.int .i64 a0] := hK0
  simp at e_
  subst y0
  have lt1 : ∀ x ∈ p1, x.block < W.heap.size := by obtain ⟨m, hm⟩ := h1; exact DataW.trod_lt m _ _ _ hm
  obtain ⟨x1, hK1, hw1⟩ := opens_arg (opens_struct0 (total := 7) Try.underlying49 (by kernel_rfl) (opensF_cons (o := 0) (o' := 1) (total := 7) rfl (by kernel_rfl) (opens_slice Try.underlying45 (by kernel_rfl) oE155) (opensF_cons (o := 1) (o' := 2) (total := 7) rfl (by kernel_rfl) (opens_slice Try.underlying45 (by kernel_rfl) oE155) (opensF_cons (o := 2) (o' := 5) (total := 7) rfl (by kernel_rfl) (opens_struct0 (total := 3) Try.underlying47 (by kernel_rfl) (opensF_cons (o := 0) (o' := 1) (total := 3) rfl (by kernel_rfl) (opens_int Try.underlying3) (opensF_cons (o := 1) (o' := 2) (total := 3) rfl (by kernel_rfl) (opens_int Try.underlying3) (opensF_last (o := 2) (total := 3) rfl (by kernel_rfl) (opens_int Try.underlying3))))) (opensF_cons (o := 5) (o' := 6) (total := 7) rfl (by kernel_rfl) (opens_int Try.underlying3) (opensF_last (o := 6) (total := 7) rfl (by kernel_rfl) (opens_int Try.underlying3))))))) h1
  obtain ⟨cs1, rfl, hcs1⟩ := arg_struct Try.underlying49 (hval 1 49 v1 rfl rfl)
  rw [hcs1] at hK1
  obtain ⟨a1_0, ⟨a1_1, ⟨⟨a1_2, ⟨a1_3, a1_4⟩⟩, ⟨a1_5, a1_6⟩⟩⟩⟩ := x1
  obtain ⟨wa1_0, ⟨wa1_1, ⟨⟨wa1_2, ⟨wa1_3, wa1_4⟩⟩, ⟨wa1_5, wa1_6⟩⟩⟩⟩ := hw1
  obtain ⟨cp1_1, cq1_1, ee1_1, hp1_1, hq1_1⟩ := hK1
  obtain ⟨A1_0, c1_0, ea1_0, hc1_0, hA1_0⟩ := hp1_1
  obtain ⟨cp1_2, cq1_2, ee1_2, hp1_2, hq1_2⟩ := hq1_1
  obtain ⟨A1_1, c1_1, ea1_1, hc1_1, hA1_1⟩ := hp1_2
  obtain ⟨cp1_3, cq1_3, ee1_3, hp1_3, hq1_3⟩ := hq1_2
  obtain ⟨cp1_4, cq1_4, ee1_4, hp1_4, hq1_4⟩ := hp1_3
  have ea1_2 := hp1_4
  obtain ⟨cp1_5, cq1_5, ee1_5, hp1_5, hq1_5⟩ := hq1_4
  have ea1_3 := hp1_5
  have ea1_4 := hq1_5
  obtain ⟨cp1_6, cq1_6, ee1_6, hp1_6, hq1_6⟩ := hq1_3
  have ea1_5 := hp1_6
  have ea1_6 := hq1_6
  obtain rfl : cs1 = #[.slice A1_0 a1_0.length c1_0, .slice A1_1 a1_1.length c1_1, .int .i64 a1_2, .int .i64 a1_3, .int .i64 a1_4, .int .i64 a1_5, .int .i64 a1_6] := by
    have hl : cs1.toList = [.slice A1_0 a1_0.length c1_0, .slice A1_1 a1_1.length c1_1, .int .i64 a1_2, .int .i64 a1_3, .int .i64 a1_4, .int .i64 a1_5, .int .i64 a1_6] := by rw [ee1_1, ea1_0, ee1_2, ea1_1, ee1_3, ee1_4, ea1_2, ee1_5, ea1_3, ea1_4, ee1_6, ea1_5, ea1_6]; rfl
    cases cs1
    simpa using hl
  have lt2 : ∀ x ∈ p2, x.block < W.heap.size := by obtain ⟨m, hm⟩ := h2; exact DataW.trod_lt m _ _ _ hm
  obtain ⟨a2, hK2, wa2⟩ := opens_arg (opens_int Try.underlying3) h2
  obtain ⟨y2, rfl⟩ := okWide_int Try.underlying3 (hval 2 3 v2 rfl rfl)
  have e_ : [Value.int .i64 y2] = [Value.int .i64 a2] := hK2
  simp at e_
  subst y2
  have lt3 : ∀ x ∈ p3, x.block < W.heap.size := by obtain ⟨m, hm⟩ := h3; exact DataW.trod_lt m _ _ _ hm
  obtain ⟨x3, hK3, hw3⟩ := opens_arg (opens_struct0 (total := 2) Try.underlying51 (by kernel_rfl) (opensF_cons (o := 0) (o' := 1) (total := 2) rfl (by kernel_rfl) (opens_int Try.underlying3) (opensF_last (o := 1) (total := 2) rfl (by kernel_rfl) (opens_int Try.underlying3)))) h3
  obtain ⟨cs3, rfl, hcs3⟩ := arg_struct Try.underlying51 (hval 3 51 v3 rfl rfl)
  rw [hcs3] at hK3
  obtain ⟨a3_0, a3_1⟩ := x3
  obtain ⟨wa3_0, wa3_1⟩ := hw3
  obtain ⟨cp3_1, cq3_1, ee3_1, hp3_1, hq3_1⟩ := hK3
  have ea3_0 := hp3_1
  have ea3_1 := hq3_1
  obtain rfl : cs3 = #[.int .i64 a3_0, .int .i64 a3_1] := by
    have hl : cs3.toList = [.int .i64 a3_0, .int .i64 a3_1] := by rw [ee3_1, ea3_0, ea3_1]; rfl
    cases cs3
    simpa using hl
  have lt4 : ∀ x ∈ p4, x.block < W.heap.size := by obtain ⟨m, hm⟩ := h4; exact DataW.trod_lt m _ _ _ hm
  obtain ⟨a4, hK4, wa4⟩ := opens_arg (opens_int Try.underlying3) h4
  obtain ⟨y4, rfl⟩ := okWide_int Try.underlying3 (hval 4 3 v4 rfl rfl)
  have e_ : [Value.int .i64 y4] = [Value.int .i64 a4] := hK4
  simp at e_
  subst y4
  have lt5 : ∀ x ∈ p5, x.block < W.heap.size := by obtain ⟨m, hm⟩ := h5; exact DataW.trod_lt m _ _ _ hm
  obtain ⟨x5, hK5, hw5⟩ := opens_arg (opens_struct0 (total := 6) Try.underlying57 (by kernel_rfl) (opensF_cons (o := 0) (o' := 1) (total := 6) rfl (by kernel_rfl) (opens_int Try.underlying3) (opensF_cons (o := 1) (o' := 3) (total := 6) rfl (by kernel_rfl) (opens_struct0 (total := 2) Try.underlying54 (by kernel_rfl) (opensF_cons (o := 0) (o' := 1) (total := 2) rfl (by kernel_rfl) (opens_int Try.underlying3) (opensF_last (o := 1) (total := 2) rfl (by kernel_rfl) (opens_int Try.underlying52)))) (opensF_cons (o := 3) (o' := 4) (total := 6) rfl (by kernel_rfl) (opens_int Try.underlying3) (opensF_cons (o := 4) (o' := 5) (total := 6) rfl (by kernel_rfl) (opens_int Try.underlying3) (opensF_last (o := 5) (total := 6) rfl (by kernel_rfl) (opens_slice Try.underlying55 (by kernel_rfl) oE3))))))) h5
  obtain ⟨cs5, rfl, hcs5⟩ := arg_struct Try.underlying57 (hval 5 57 v5 rfl rfl)
  rw [hcs5] at hK5
  obtain ⟨a5_0, ⟨⟨a5_1, a5_2⟩, ⟨a5_3, ⟨a5_4, a5_5⟩⟩⟩⟩ := x5
  obtain ⟨wa5_0, ⟨⟨wa5_1, wa5_2⟩, ⟨wa5_3, ⟨wa5_4, wa5_5⟩⟩⟩⟩ := hw5
  obtain ⟨cp5_1, cq5_1, ee5_1, hp5_1, hq5_1⟩ := hK5
  have ea5_0 := hp5_1
  obtain ⟨cp5_2, cq5_2, ee5_2, hp5_2, hq5_2⟩ := hq5_1
  obtain ⟨cp5_3, cq5_3, ee5_3, hp5_3, hq5_3⟩ := hp5_2
  have ea5_1 := hp5_3
  have ea5_2 := hq5_3
  obtain ⟨cp5_4, cq5_4, ee5_4, hp5_4, hq5_4⟩ := hq5_2
  have ea5_3 := hp5_4
  obtain ⟨cp5_5, cq5_5, ee5_5, hp5_5, hq5_5⟩ := hq5_4
  have ea5_4 := hp5_5
  obtain ⟨A5_5, c5_5, ea5_5, hc5_5, hA5_5⟩ := hq5_5
  obtain rfl : cs5 = #[.int .i64 a5_0, .int .i64 a5_1, .int .u64 a5_2, .int .i64 a5_3, .int .i64 a5_4, .slice A5_5 a5_5.length c5_5] := by
    have hl : cs5.toList = [.int .i64 a5_0, .int .i64 a5_1, .int .u64 a5_2, .int .i64 a5_3, .int .i64 a5_4, .slice A5_5 a5_5.length c5_5] := by rw [ee5_1, ea5_0, ee5_2, ee5_3, ea5_1, ea5_2, ee5_4, ea5_3, ee5_5, ea5_4, ea5_5]; rfl
    cases cs5
    simpa using hl
  clear hA0 hval0 hsz0
  have hn := Pure.FnExactPaneOf a0 a1_0 a1_1 a1_2 a1_3 a1_4 a1_5 a1_6 a2 a3_0 a3_1 a4 a5_0 a5_1 a5_2 a5_3 a5_4 a5_5 wa0 wa1_0 wa1_1 wa1_2 wa1_3 wa1_4 wa1_5 wa1_6 wa2 wa3_0 wa3_1 wa4 wa5_0 wa5_1 wa5_2 wa5_3 wa5_4 wa5_5
  have hrs : F2 (RoAs W) [⟨155, (.pair (.int .i64) (.int .i64)), a1_0, .ro⟩, ⟨155, (.pair (.int .i64) (.int .i64)), a1_1, .ro⟩, ⟨3, (.int .i64), a5_5, .ro⟩] [.slice A1_0 a1_0.length c1_0, .slice A1_1 a1_1.length c1_1, .slice A5_5 a5_5.length c5_5] := ⟨⟨rfl, A1_0, c1_0, rfl, hc1_0, hA1_0⟩, ⟨rfl, A1_1, c1_1, rfl, hc1_1, hA1_1⟩, ⟨rfl, A5_5, c5_5, rfl, hc5_5, hA5_5⟩, trivial⟩
  have hin : F2 (AV.R (gh0 W [.slice A1_0 a1_0.length c1_0, .slice A1_1 a1_1.length c1_1, .slice A5_5 a5_5.length c5_5])) [.s1 (.one (.val (.int .i64 a0))), .s1 (.agg [.sl 0, .sl 1, .val (.int .i64 a1_2), .val (.int .i64 a1_3), .val (.int .i64 a1_4), .val (.int .i64 a1_5), .val (.int .i64 a1_6)]), .s1 (.one (.val (.int .i64 a2))), .s1 (.agg [.val (.int .i64 a3_0), .val (.int .i64 a3_1)]), .s1 (.one (.val (.int .i64 a4))), .s1 (.agg [.val (.int .i64 a5_0), .val (.int .i64 a5_1), .val (.int .u64 a5_2), .val (.int .i64 a5_3), .val (.int .i64 a5_4), .sl 2])] [((.int .i64 a0) : Value), Value.agg #[(.slice A1_0 a1_0.length c1_0), (.slice A1_1 a1_1.length c1_1), (.int .i64 a1_2), (.int .i64 a1_3), (.int .i64 a1_4), (.int .i64 a1_5), (.int .i64 a1_6)], ((.int .i64 a2) : Value), Value.agg #[(.int .i64 a3_0), (.int .i64 a3_1)], ((.int .i64 a4) : Value), Value.agg #[(.int .i64 a5_0), (.int .i64 a5_1), (.int .u64 a5_2), (.int .i64 a5_3), (.int .i64 a5_4), (.slice A5_5 a5_5.length c5_5)]] := ⟨rfl, ⟨_, rfl, ⟨rfl, rfl, rfl, rfl, rfl, rfl, rfl, trivial⟩⟩, rfl, ⟨_, rfl, ⟨rfl, rfl, trivial⟩⟩, rfl, ⟨_, rfl, ⟨rfl, rfl, rfl, rfl, rfl, rfl, trivial⟩⟩, trivial⟩
  refine (good_true good5 (args := [.s1 (.one (.val (.int .i64 a0))), .s1 (.agg [.sl 0, .sl 1, .val (.int .i64 a1_2), .val (.int .i64 a1_3), .val (.int .i64 a1_4), .val (.int .i64 a1_5), .val (.int .i64 a1_6)]), .s1 (.one (.val (.int .i64 a2))), .s1 (.agg [.val (.int .i64 a3_0), .val (.int .i64 a3_1)]), .s1 (.one (.val (.int .i64 a4))), .s1 (.agg [.val (.int .i64 a5_0), .val (.int .i64 a5_1), .val (.int .u64 a5_2), .val (.int .i64 a5_3), .val (.int .i64 a5_4), .sl 2])]) (rs := [⟨155, (.pair (.int .i64) (.int .i64)), a1_0, .ro⟩, ⟨155, (.pair (.int .i64) (.int .i64)), a1_1, .ro⟩, ⟨3, (.int .i64), a5_5, .ro⟩]) (out := ⟨Bool, L.FnExactPaneOf a0 a1_2 a1_3 a1_4 a1_5 a1_6 a2 a3_0 a3_1 a4 a5_0 a5_1 a5_2 a5_3 a5_4 a1_0 a1_1 a5_5, R5⟩) (t := true) rfl hn rfl hrs hin).mono fun e W' ⟨he, bel⟩ => ?_
  subst he
  exact ⟨_, rfl, _, _, _, [], _, [], hW', trodAll_mk1 (shut_bool Try.underlying4 _), (trodAll_cons_mk (Below.trod laidOut (by kernel_rfl) (of_decide_eq_true (by kernel_rfl)) h0 bel lt0) (trodAll_cons_mk (Below.trod laidOut (by kernel_rfl) (of_decide_eq_true (by kernel_rfl)) h1 bel lt1) (trodAll_cons_mk (Below.trod laidOut (by kernel_rfl) (of_decide_eq_true (by kernel_rfl)) h2 bel lt2) (trodAll_cons_mk (Below.trod laidOut (by kernel_rfl) (of_decide_eq_true (by kernel_rfl)) h3 bel lt3) (trodAll_cons_mk (Below.trod laidOut (by kernel_rfl) (of_decide_eq_true (by kernel_rfl)) h4 bel lt4) (trodAll_cons_mk (Below.trod laidOut (by kernel_rfl) (of_decide_eq_true (by kernel_rfl)) h5 bel lt5) trodAll_mk0)))))), rfl, bel.frame _, fun h => by cases h⟩
theorem joined : joinedFacts Try.pinned.checked.prog 5 Try.f5 Rows.fnExactPaneOfSpec Rows.fnExactPaneOfRow = true := by kernel_rfl
theorem instOk : Try.f5.isInstance Try.pinned.checked.prog Rows.fnExactPaneOfRow.origin Rows.fnExactPaneOfRow.targs := of_decide_eq_true (by kernel_rfl)
theorem wrapOk : Try.f5.isWrapper Try.pinned.checked.prog Rows.fnExactPaneOfRow.wrapper Rows.fnExactPaneOfRow.mainSum := by unfold Func.isWrapper; first | (rw [if_pos (by decide +kernel)]; kernel_rfl) | (rw [if_neg (by decide +kernel)]; exact ⟨rfl, rfl⟩)
theorem over : Rows.fnExactPaneOfRow.holds Try.pinned (OpenSpec.ofChange Rows.fnExactPaneOfSpec) :=
  OpenClaim.holds_of_wide 5 Try.f5 rfl rfl rfl rfl rfl rfl rfl ⟨rfl, rfl, rfl, rfl, rfl⟩ rfl rfl rfl rfl rfl (by kernel_rfl) Try.func5 joined instOk wrapOk
    (fun os started H enc _ => lifted os started H enc)
end Go.Proofs.Ytidojhgkpgomcaa.fnExactPaneOf
namespace Go.Proofs.Ytidojhgkpgomcaa
/-- The row, under a short name, for the claim. -/
theorem fnExactPaneOf_holds : Rows.FnExactPaneOfSaid := fnExactPaneOf.over
#print axioms fnExactPaneOf_holds
end Go.Proofs.Ytidojhgkpgomcaa
