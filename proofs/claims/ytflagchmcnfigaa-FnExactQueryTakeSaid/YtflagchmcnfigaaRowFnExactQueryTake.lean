/- The row of FnExactQueryTake: for every input the call returns true, and each argument reads as it read before. No condition. -/
import Derived.Test.YtflagchmcnfigaaRows
import Derived.Test.YtflagchmcnfigaaStmtFnExactQueryTake
import Derived.Test.YtflagchmcnfigaaPureFnExactQueryTake
import Derived.Test.YtflagchmcnfigaaOpen
import Derived.WalkKit
import Derived.ProofKit
import Derived.OpenShut
import Derived.ShutString
import Derived.ChangeOld
import Derived.Below
import Derived.SizedLaws
namespace Go.Proofs.Ytflagchmcnfigaa.fnExactQueryTake
open Go.ChangeShapes Go.WideShapes Go.ChangeAt Go.RowKit Go.Proofs.Ytflagchmcnfigaa.Opening Go.Proofs.YtflagchmcnfigaaW.PrintWords Go.Proofs.Ytflagchmcnfigaa.Vm Go.Proofs.Ytflagchmcnfigaa.Run Go.Proofs.Ytflagchmcnfigaa.StmtFnExactQueryTake
set_option linter.unusedVariables false
set_option linter.unusedSimpArgs false
theorem own : ownKnob Try.prog.godebug = none := by kernel_rfl
theorem laidOut : laidOutB Try.prog = true := by kernel_rfl
section
variable {H : Type} {enc : TypeId × Value → H} {W : World}
set_option maxRecDepth 100000 in
theorem oE171 : Opens enc Try.prog W 171 (Kd.pair (Kd.int .i64) (Kd.int .i64)) wfE171 := opens_struct0 (total := 2) Try.underlying171 (by kernel_rfl) (opensF_cons (o := 0) (o' := 1) (total := 2) rfl (by kernel_rfl) (opens_int Try.underlying3) (opensF_last (o := 1) (total := 2) rfl (by kernel_rfl) (opens_int Try.underlying3)))
end
set_option maxRecDepth 100000 in
theorem lifted (os : Os) (started : os.Started) (H : Type) (enc : TypeId × Value → H) :
    ReturnsInHanded {} Try.checked os 12 .any (Rows.fnExactQueryTakeSpec.pre6 enc Try.prog Try.f12 Rows.fnExactQueryTakeRow.domain false) (Rows.fnExactQueryTakeSpec.post enc Try.prog Try.f12 false true false false) := by
  refine returnsInHanded_of_change_sized (C := Try.checked) own started (by kernel_rfl) Try.func12
    (ChangeSpec.witness6 (enc := enc) (C := Try.checked) false ⟨#[], #[.agg #[.slice none 0 0, .slice none 0 0, .int .i64 0, .int .i64 0, .int .i64 0, .int .i64 0, .int .i64 0], .agg #[.int .i64 0, .int .i64 0, .int .i64 0, .int .i64 0]], []⟩ 8 (by kernel_rfl) (by kernel_rfl) (by kernel_rfl) (by kernel_rfl)) ?_
  intro W base args ds gs before hval0 hW hcnd hsz0 _
  have hval : ∀ (j : Nat) t v, Try.f12.params[j]? = some t → args[j]? = some v → Value.okWide Try.prog W .any base t v := hval0
  have hW' := hW
  obtain ⟨p, q, hA0, hV, rfl, hfz, hnd⟩ := hW
  have hA : DataW.TrodAll enc Try.prog W 0 (fun _ => true) true Try.f12.params.toList args.toList ds p := hA0
  rw [Try.params12] at hA hval
  obtain ⟨v0, vs0, d0, ds0, p0, q0, hargs, rfl, rfl, h0, r0⟩ := trodAll_cons hA
  obtain ⟨v1, vs1, d1, ds1, p1, q1, rfl, rfl, rfl, h1, r1⟩ := trodAll_cons r0
  obtain ⟨rfl, rfl, rfl⟩ := trodAll_nil r1
  obtain rfl : args = #[v0, v1] := by cases args; simp_all
  obtain ⟨rfl, rfl⟩ := trodVars_none hV
  have lt0 : ∀ x ∈ p0, x.block < W.heap.size := by obtain ⟨m, hm⟩ := h0; exact DataW.trod_lt m _ _ _ hm
  obtain ⟨x0, hK0, hw0⟩ := opens_arg (opens_struct0 (total := 7) Try.underlying26 (by kernel_rfl) (opensF_cons (o := 0) (o' := 1) (total := 7) rfl (by kernel_rfl) (opens_slice Try.underlying22 (by kernel_rfl) oE171) (opensF_cons (o := 1) (o' := 2) (total := 7) rfl (by kernel_rfl) (opens_slice Try.underlying22 (by kernel_rfl) oE171) (opensF_cons (o := 2) (o' := 5) (total := 7) rfl (by kernel_rfl) (opens_struct0 (total := 3) Try.underlying24 (by kernel_rfl) (opensF_cons (o := 0) (o' := 1) (total := 3) rfl (by kernel_rfl) (opens_int Try.underlying3) (opensF_cons (o := 1) (o' := 2) (total := 3) rfl (by kernel_rfl) (opens_int Try.underlying3) (opensF_last (o := 2) (total := 3) rfl (by kernel_rfl) (opens_int Try.underlying3))))) (opensF_cons (o := 5) (o' := 6) (total := 7) rfl (by kernel_rfl) (opens_int Try.underlying3) (opensF_last (o := 6) (total := 7) rfl (by kernel_rfl) (opens_int Try.underlying3))))))) h0
  obtain ⟨cs0, rfl, hcs0⟩ := arg_struct Try.underlying26 (hval 0 26 v0 rfl rfl)
  rw [hcs0] at hK0
  obtain ⟨a0_0, ⟨a0_1, ⟨⟨a0_2, ⟨a0_3, a0_4⟩⟩, ⟨a0_5, a0_6⟩⟩⟩⟩ := x0
  obtain ⟨wa0_0, ⟨wa0_1, ⟨⟨wa0_2, ⟨wa0_3, wa0_4⟩⟩, ⟨wa0_5, wa0_6⟩⟩⟩⟩ := hw0
  obtain ⟨cp0_1, cq0_1, ee0_1, hp0_1, hq0_1⟩ := hK0
  obtain ⟨A0_0, c0_0, ea0_0, hc0_0, hA0_0⟩ := hp0_1
  obtain ⟨cp0_2, cq0_2, ee0_2, hp0_2, hq0_2⟩ := hq0_1
  obtain ⟨A0_1, c0_1, ea0_1, hc0_1, hA0_1⟩ := hp0_2
  obtain ⟨cp0_3, cq0_3, ee0_3, hp0_3, hq0_3⟩ := hq0_2
  obtain ⟨cp0_4, cq0_4, ee0_4, hp0_4, hq0_4⟩ := hp0_3
  have ea0_2 := hp0_4
  obtain ⟨cp0_5, cq0_5, ee0_5, hp0_5, hq0_5⟩ := hq0_4
  have ea0_3 := hp0_5
  have ea0_4 := hq0_5
  obtain ⟨cp0_6, cq0_6, ee0_6, hp0_6, hq0_6⟩ := hq0_3
  have ea0_5 := hp0_6
  have ea0_6 := hq0_6
  obtain rfl : cs0 = #[.slice A0_0 a0_0.length c0_0, .slice A0_1 a0_1.length c0_1, .int .i64 a0_2, .int .i64 a0_3, .int .i64 a0_4, .int .i64 a0_5, .int .i64 a0_6] := by
    have hl : cs0.toList = [.slice A0_0 a0_0.length c0_0, .slice A0_1 a0_1.length c0_1, .int .i64 a0_2, .int .i64 a0_3, .int .i64 a0_4, .int .i64 a0_5, .int .i64 a0_6] := by rw [ee0_1, ea0_0, ee0_2, ea0_1, ee0_3, ee0_4, ea0_2, ee0_5, ea0_3, ea0_4, ee0_6, ea0_5, ea0_6]; rfl
    cases cs0
    simpa using hl
  have lt1 : ∀ x ∈ p1, x.block < W.heap.size := by obtain ⟨m, hm⟩ := h1; exact DataW.trod_lt m _ _ _ hm
  obtain ⟨x1, hK1, hw1⟩ := opens_arg (opens_struct0 (total := 4) Try.underlying111 (by kernel_rfl) (opensF_cons (o := 0) (o' := 1) (total := 4) rfl (by kernel_rfl) (opens_int Try.underlying3) (opensF_cons (o := 1) (o' := 2) (total := 4) rfl (by kernel_rfl) (opens_int Try.underlying3) (opensF_cons (o := 2) (o' := 3) (total := 4) rfl (by kernel_rfl) (opens_int Try.underlying3) (opensF_last (o := 3) (total := 4) rfl (by kernel_rfl) (opens_int Try.underlying3)))))) h1
  obtain ⟨cs1, rfl, hcs1⟩ := arg_struct Try.underlying111 (hval 1 111 v1 rfl rfl)
  rw [hcs1] at hK1
  obtain ⟨a1_0, ⟨a1_1, ⟨a1_2, a1_3⟩⟩⟩ := x1
  obtain ⟨wa1_0, ⟨wa1_1, ⟨wa1_2, wa1_3⟩⟩⟩ := hw1
  obtain ⟨cp1_1, cq1_1, ee1_1, hp1_1, hq1_1⟩ := hK1
  have ea1_0 := hp1_1
  obtain ⟨cp1_2, cq1_2, ee1_2, hp1_2, hq1_2⟩ := hq1_1
  have ea1_1 := hp1_2
  obtain ⟨cp1_3, cq1_3, ee1_3, hp1_3, hq1_3⟩ := hq1_2
  have ea1_2 := hp1_3
  have ea1_3 := hq1_3
  obtain rfl : cs1 = #[.int .i64 a1_0, .int .i64 a1_1, .int .i64 a1_2, .int .i64 a1_3] := by
    have hl : cs1.toList = [.int .i64 a1_0, .int .i64 a1_1, .int .i64 a1_2, .int .i64 a1_3] := by rw [ee1_1, ea1_0, ee1_2, ea1_1, ee1_3, ea1_2, ea1_3]; rfl
    cases cs1
    simpa using hl
  clear hA0 hval0 hsz0
  have hn := Pure.FnExactQueryTake a0_0 a0_1 a0_2 a0_3 a0_4 a0_5 a0_6 a1_0 a1_1 a1_2 a1_3 wa0_0 wa0_1 wa0_2 wa0_3 wa0_4 wa0_5 wa0_6 wa1_0 wa1_1 wa1_2 wa1_3
  have hrs : F2 (RoAs W) [⟨171, (.pair (.int .i64) (.int .i64)), a0_0, .ro⟩, ⟨171, (.pair (.int .i64) (.int .i64)), a0_1, .ro⟩] [.slice A0_0 a0_0.length c0_0, .slice A0_1 a0_1.length c0_1] := ⟨⟨rfl, A0_0, c0_0, rfl, hc0_0, hA0_0⟩, ⟨rfl, A0_1, c0_1, rfl, hc0_1, hA0_1⟩, trivial⟩
  have hin : F2 (AV.R (gh0 W [.slice A0_0 a0_0.length c0_0, .slice A0_1 a0_1.length c0_1])) [.s1 (.agg [.sl 0, .sl 1, .val (.int .i64 a0_2), .val (.int .i64 a0_3), .val (.int .i64 a0_4), .val (.int .i64 a0_5), .val (.int .i64 a0_6)]), .s1 (.agg [.val (.int .i64 a1_0), .val (.int .i64 a1_1), .val (.int .i64 a1_2), .val (.int .i64 a1_3)])] [Value.agg #[(.slice A0_0 a0_0.length c0_0), (.slice A0_1 a0_1.length c0_1), (.int .i64 a0_2), (.int .i64 a0_3), (.int .i64 a0_4), (.int .i64 a0_5), (.int .i64 a0_6)], Value.agg #[(.int .i64 a1_0), (.int .i64 a1_1), (.int .i64 a1_2), (.int .i64 a1_3)]] := ⟨⟨_, rfl, ⟨rfl, rfl, rfl, rfl, rfl, rfl, rfl, trivial⟩⟩, ⟨_, rfl, ⟨rfl, rfl, rfl, rfl, trivial⟩⟩, trivial⟩
  refine (good_true good12 (args := [.s1 (.agg [.sl 0, .sl 1, .val (.int .i64 a0_2), .val (.int .i64 a0_3), .val (.int .i64 a0_4), .val (.int .i64 a0_5), .val (.int .i64 a0_6)]), .s1 (.agg [.val (.int .i64 a1_0), .val (.int .i64 a1_1), .val (.int .i64 a1_2), .val (.int .i64 a1_3)])]) (rs := [⟨171, (.pair (.int .i64) (.int .i64)), a0_0, .ro⟩, ⟨171, (.pair (.int .i64) (.int .i64)), a0_1, .ro⟩]) (out := ⟨Bool, L.FnExactQueryTake a0_2 a0_3 a0_4 a0_5 a0_6 a1_0 a1_1 a1_2 a1_3 a0_0 a0_1, R12⟩) (t := true) rfl hn rfl hrs hin).mono fun e W' ⟨he, bel⟩ => ?_
  subst he
  exact ⟨_, rfl, _, _, _, [], _, [], hW', trodAll_mk1 (shut_bool Try.underlying4 _), (trodAll_cons_mk (Below.trod laidOut (by kernel_rfl) (of_decide_eq_true (by kernel_rfl)) h0 bel lt0) (trodAll_cons_mk (Below.trod laidOut (by kernel_rfl) (of_decide_eq_true (by kernel_rfl)) h1 bel lt1) trodAll_mk0)), rfl, bel.frame _, fun h => by cases h⟩
theorem over : Rows.fnExactQueryTakeRow.holds Try.pinned (OpenSpec.ofChange Rows.fnExactQueryTakeSpec) :=
  OpenClaim.holds_of_wide 12 Try.f12 rfl rfl rfl rfl rfl rfl rfl ⟨rfl, rfl, rfl, rfl, rfl⟩ rfl rfl rfl rfl rfl (by kernel_rfl) Try.func12 (by kernel_rfl)
    (of_decide_eq_true (by kernel_rfl)) (by unfold Func.isWrapper; first | (rw [if_pos (by decide +kernel)]; kernel_rfl) | (rw [if_neg (by decide +kernel)]; exact ⟨rfl, rfl⟩))
    (fun os started H enc _ => lifted os started H enc)
end Go.Proofs.Ytflagchmcnfigaa.fnExactQueryTake
namespace Go.Proofs.Ytflagchmcnfigaa
/-- The row, under a short name, for the claim. -/
theorem fnExactQueryTake_holds : Rows.FnExactQueryTakeSaid := fnExactQueryTake.over
#print axioms fnExactQueryTake_holds
end Go.Proofs.Ytflagchmcnfigaa
