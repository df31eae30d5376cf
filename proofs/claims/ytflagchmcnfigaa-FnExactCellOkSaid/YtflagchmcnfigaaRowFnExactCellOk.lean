/- The row of FnExactCellOk: for every input the call returns true, and each argument reads as it read before. No condition. -/
import Derived.Test.YtflagchmcnfigaaRows
import Derived.Test.YtflagchmcnfigaaStmtFnExactCellOk
import Derived.Test.YtflagchmcnfigaaPureFnExactCellOk
import Derived.Test.YtflagchmcnfigaaOpen
import Derived.WalkKit
import Derived.ProofKit
import Derived.OpenShut
import Derived.ShutString
import Derived.ChangeOld
import Derived.Below
import Derived.SizedLaws
namespace Go.Proofs.Ytflagchmcnfigaa.fnExactCellOk
open Go.ChangeShapes Go.WideShapes Go.ChangeAt Go.RowKit Go.Proofs.Ytflagchmcnfigaa.Opening Go.Proofs.YtflagchmcnfigaaW.PrintWords Go.Proofs.Ytflagchmcnfigaa.Vm Go.Proofs.Ytflagchmcnfigaa.Run Go.Proofs.Ytflagchmcnfigaa.StmtFnExactCellOk
set_option linter.unusedVariables false
set_option linter.unusedSimpArgs false
theorem own : ownKnob Try.prog.godebug = none := by kernel_rfl
theorem laidOut : laidOutB Try.prog = true := by kernel_rfl
section
variable {H : Type} {enc : TypeId × Value → H} {W : World}
set_option maxRecDepth 100000 in
theorem oE3 : Opens enc Try.prog W 3 (Kd.int .i64) wfE3 := opens_int Try.underlying3
end
set_option maxRecDepth 100000 in
theorem lifted (os : Os) (started : os.Started) (H : Type) (enc : TypeId × Value → H) :
    ReturnsInHanded {} Try.checked os 8 .any (Rows.fnExactCellOkSpec.pre6 enc Try.prog Try.f8 Rows.fnExactCellOkRow.domain false) (Rows.fnExactCellOkSpec.post enc Try.prog Try.f8 false true false false) := by
  refine returnsInHanded_of_change_sized (C := Try.checked) own started (by kernel_rfl) Try.func8
    (ChangeSpec.witness6 (enc := enc) (C := Try.checked) false ⟨#[], #[.agg #[.int .i64 0, .int .i64 0, .int .i64 0, .int .i64 0, .int .i64 0, .int .i64 0, .int .i64 0, .int .u64 0, .int .i64 0, .int .i64 0, .slice none 0 0]], []⟩ 8 (by kernel_rfl) (by kernel_rfl) (by kernel_rfl) (by kernel_rfl)) ?_
  intro W base args ds gs before hval0 hW hcnd hsz0 _
  have hval : ∀ (j : Nat) t v, Try.f8.params[j]? = some t → args[j]? = some v → Value.okWide Try.prog W .any base t v := hval0
  have hW' := hW
  obtain ⟨p, q, hA0, hV, rfl, hfz, hnd⟩ := hW
  have hA : DataW.TrodAll enc Try.prog W 0 (fun _ => true) true Try.f8.params.toList args.toList ds p := hA0
  rw [Try.params8] at hA hval
  obtain ⟨v0, vs0, d0, ds0, p0, q0, hargs, rfl, rfl, h0, r0⟩ := trodAll_cons hA
  obtain ⟨rfl, rfl, rfl⟩ := trodAll_nil r0
  obtain rfl : args = #[v0] := by cases args; simp_all
  obtain ⟨rfl, rfl⟩ := trodVars_none hV
  have lt0 : ∀ x ∈ p0, x.block < W.heap.size := by obtain ⟨m, hm⟩ := h0; exact DataW.trod_lt m _ _ _ hm
  obtain ⟨x0, hK0, hw0⟩ := opens_arg (opens_struct0 (total := 11) Try.underlying83 (by kernel_rfl) (opensF_cons (o := 0) (o' := 1) (total := 11) rfl (by kernel_rfl) (opens_int Try.underlying3) (opensF_cons (o := 1) (o' := 2) (total := 11) rfl (by kernel_rfl) (opens_int Try.underlying3) (opensF_cons (o := 2) (o' := 3) (total := 11) rfl (by kernel_rfl) (opens_int Try.underlying3) (opensF_cons (o := 3) (o' := 4) (total := 11) rfl (by kernel_rfl) (opens_int Try.underlying3) (opensF_cons (o := 4) (o' := 5) (total := 11) rfl (by kernel_rfl) (opens_int Try.underlying3) (opensF_last (o := 5) (total := 11) rfl (by kernel_rfl) (opens_struct0 (total := 6) Try.underlying81 (by kernel_rfl) (opensF_cons (o := 0) (o' := 1) (total := 6) rfl (by kernel_rfl) (opens_int Try.underlying3) (opensF_cons (o := 1) (o' := 3) (total := 6) rfl (by kernel_rfl) (opens_struct0 (total := 2) Try.underlying78 (by kernel_rfl) (opensF_cons (o := 0) (o' := 1) (total := 2) rfl (by kernel_rfl) (opens_int Try.underlying3) (opensF_last (o := 1) (total := 2) rfl (by kernel_rfl) (opens_int Try.underlying76)))) (opensF_cons (o := 3) (o' := 4) (total := 6) rfl (by kernel_rfl) (opens_int Try.underlying3) (opensF_cons (o := 4) (o' := 5) (total := 6) rfl (by kernel_rfl) (opens_int Try.underlying3) (opensF_last (o := 5) (total := 6) rfl (by kernel_rfl) (opens_slice Try.underlying79 (by kernel_rfl) oE3)))))))))))))) h0
  obtain ⟨cs0, rfl, hcs0⟩ := arg_struct Try.underlying83 (hval 0 83 v0 rfl rfl)
  rw [hcs0] at hK0
  obtain ⟨a0_0, ⟨a0_1, ⟨a0_2, ⟨a0_3, ⟨a0_4, ⟨a0_5, ⟨⟨a0_6, a0_7⟩, ⟨a0_8, ⟨a0_9, a0_10⟩⟩⟩⟩⟩⟩⟩⟩⟩ := x0
  obtain ⟨wa0_0, ⟨wa0_1, ⟨wa0_2, ⟨wa0_3, ⟨wa0_4, ⟨wa0_5, ⟨⟨wa0_6, wa0_7⟩, ⟨wa0_8, ⟨wa0_9, wa0_10⟩⟩⟩⟩⟩⟩⟩⟩⟩ := hw0
  obtain ⟨cp0_1, cq0_1, ee0_1, hp0_1, hq0_1⟩ := hK0
  have ea0_0 := hp0_1
  obtain ⟨cp0_2, cq0_2, ee0_2, hp0_2, hq0_2⟩ := hq0_1
  have ea0_1 := hp0_2
  obtain ⟨cp0_3, cq0_3, ee0_3, hp0_3, hq0_3⟩ := hq0_2
  have ea0_2 := hp0_3
  obtain ⟨cp0_4, cq0_4, ee0_4, hp0_4, hq0_4⟩ := hq0_3
  have ea0_3 := hp0_4
  obtain ⟨cp0_5, cq0_5, ee0_5, hp0_5, hq0_5⟩ := hq0_4
  have ea0_4 := hp0_5
  obtain ⟨cp0_6, cq0_6, ee0_6, hp0_6, hq0_6⟩ := hq0_5
  have ea0_5 := hp0_6
  obtain ⟨cp0_7, cq0_7, ee0_7, hp0_7, hq0_7⟩ := hq0_6
  obtain ⟨cp0_8, cq0_8, ee0_8, hp0_8, hq0_8⟩ := hp0_7
  have ea0_6 := hp0_8
  have ea0_7 := hq0_8
  obtain ⟨cp0_9, cq0_9, ee0_9, hp0_9, hq0_9⟩ := hq0_7
  have ea0_8 := hp0_9
  obtain ⟨cp0_10, cq0_10, ee0_10, hp0_10, hq0_10⟩ := hq0_9
  have ea0_9 := hp0_10
  obtain ⟨A0_10, c0_10, ea0_10, hc0_10, hA0_10⟩ := hq0_10
  obtain rfl : cs0 = #[.int .i64 a0_0, .int .i64 a0_1, .int .i64 a0_2, .int .i64 a0_3, .int .i64 a0_4, .int .i64 a0_5, .int .i64 a0_6, .int .u64 a0_7, .int .i64 a0_8, .int .i64 a0_9, .slice A0_10 a0_10.length c0_10] := by
    have hl : cs0.toList = [.int .i64 a0_0, .int .i64 a0_1, .int .i64 a0_2, .int .i64 a0_3, .int .i64 a0_4, .int .i64 a0_5, .int .i64 a0_6, .int .u64 a0_7, .int .i64 a0_8, .int .i64 a0_9, .slice A0_10 a0_10.length c0_10] := by rw [ee0_1, ea0_0, ee0_2, ea0_1, ee0_3, ea0_2, ee0_4, ea0_3, ee0_5, ea0_4, ee0_6, ea0_5, ee0_7, ee0_8, ea0_6, ea0_7, ee0_9, ea0_8, ee0_10, ea0_9, ea0_10]; rfl
    cases cs0
    simpa using hl
  clear hA0 hval0 hsz0
  have hn := Pure.FnExactCellOk a0_0 a0_1 a0_2 a0_3 a0_4 a0_5 a0_6 a0_7 a0_8 a0_9 a0_10 wa0_0 wa0_1 wa0_2 wa0_3 wa0_4 wa0_5 wa0_6 wa0_7 wa0_8 wa0_9 wa0_10
  have hrs : F2 (RoAs W) [⟨3, (.int .i64), a0_10, .ro⟩] [.slice A0_10 a0_10.length c0_10] := ⟨⟨rfl, A0_10, c0_10, rfl, hc0_10, hA0_10⟩, trivial⟩
  have hin : F2 (AV.R (gh0 W [.slice A0_10 a0_10.length c0_10])) [.s1 (.agg [.val (.int .i64 a0_0), .val (.int .i64 a0_1), .val (.int .i64 a0_2), .val (.int .i64 a0_3), .val (.int .i64 a0_4), .val (.int .i64 a0_5), .val (.int .i64 a0_6), .val (.int .u64 a0_7), .val (.int .i64 a0_8), .val (.int .i64 a0_9), .sl 0])] [Value.agg #[(.int .i64 a0_0), (.int .i64 a0_1), (.int .i64 a0_2), (.int .i64 a0_3), (.int .i64 a0_4), (.int .i64 a0_5), (.int .i64 a0_6), (.int .u64 a0_7), (.int .i64 a0_8), (.int .i64 a0_9), (.slice A0_10 a0_10.length c0_10)]] := ⟨⟨_, rfl, ⟨rfl, rfl, rfl, rfl, rfl, rfl, rfl, rfl, rfl, rfl, rfl, trivial⟩⟩, trivial⟩
  refine (good_true good8 (args := [.s1 (.agg [.val (.int .i64 a0_0), .val (.int .i64 a0_1), .val (.int .i64 a0_2), .val (.int .i64 a0_3), .val (.int .i64 a0_4), .val (.int .i64 a0_5), .val (.int .i64 a0_6), .val (.int .u64 a0_7), .val (.int .i64 a0_8), .val (.int .i64 a0_9), .sl 0])]) (rs := [⟨3, (.int .i64), a0_10, .ro⟩]) (out := ⟨Bool, L.FnExactCellOk a0_0 a0_1 a0_2 a0_3 a0_4 a0_5 a0_6 a0_7 a0_8 a0_9 a0_10, R8⟩) (t := true) rfl hn rfl hrs hin).mono fun e W' ⟨he, bel⟩ => ?_
  subst he
  exact ⟨_, rfl, _, _, _, [], _, [], hW', trodAll_mk1 (shut_bool Try.underlying4 _), (trodAll_cons_mk (Below.trod laidOut (by kernel_rfl) (of_decide_eq_true (by kernel_rfl)) h0 bel lt0) trodAll_mk0), rfl, bel.frame _, fun h => by cases h⟩
theorem over : Rows.fnExactCellOkRow.holds Try.pinned (OpenSpec.ofChange Rows.fnExactCellOkSpec) :=
  OpenClaim.holds_of_wide 8 Try.f8 rfl rfl rfl rfl rfl rfl rfl ⟨rfl, rfl, rfl, rfl, rfl⟩ rfl rfl rfl rfl rfl (by kernel_rfl) Try.func8 (by kernel_rfl)
    (of_decide_eq_true (by kernel_rfl)) (by unfold Func.isWrapper; first | (rw [if_pos (by decide +kernel)]; kernel_rfl) | (rw [if_neg (by decide +kernel)]; exact ⟨rfl, rfl⟩))
    (fun os started H enc _ => lifted os started H enc)
end Go.Proofs.Ytflagchmcnfigaa.fnExactCellOk
namespace Go.Proofs.Ytflagchmcnfigaa
/-- The row, under a short name, for the claim. -/
theorem fnExactCellOk_holds : Rows.FnExactCellOkSaid := fnExactCellOk.over
#print axioms fnExactCellOk_holds
end Go.Proofs.Ytflagchmcnfigaa
