/- The row of FnExactBoxAck: for every input the call returns true, and each argument reads as it read before. No condition. -/
import Derived.Test.YtidojhgkpgomcaaRows
import Derived.Test.YtidojhgkpgomcaaStmtFnExactBoxAck
import Derived.Test.YtidojhgkpgomcaaPureFnExactBoxAck
import Derived.Test.YtidojhgkpgomcaaOpen
import Derived.WalkKit
import Derived.ProofKit
import Derived.OpenShut
import Derived.ShutString
import Derived.ChangeOld
import Derived.Below
import Derived.SizedLaws
namespace Go.Proofs.Ytidojhgkpgomcaa.fnExactBoxAck
open Go.ChangeShapes Go.WideShapes Go.ChangeAt Go.RowKit Go.Proofs.Ytidojhgkpgomcaa.Opening Go.Proofs.YtidojhgkpgomcaaW.PrintWords Go.Proofs.Ytidojhgkpgomcaa.Vm Go.Proofs.Ytidojhgkpgomcaa.Run Go.Proofs.Ytidojhgkpgomcaa.StmtFnExactBoxAck
set_option linter.unusedVariables false
set_option linter.unusedSimpArgs false
theorem own : ownKnob Try.prog.godebug = none := by kernel_rfl
theorem laidOut : laidOutB Try.prog = true := by kernel_rfl
section
variable {H : Type} {enc : TypeId × Value → H} {W : World}
set_option maxRecDepth 100000 in
theorem oE3 : Opens enc Try.prog W 3 (Kd.int .i64) wfE3 := opens_int Try.underlying3
set_option maxRecDepth 100000 in
theorem oE126 : Opens enc Try.prog W 126 (Kd.pair (Kd.int .i64) (Kd.pair (Kd.int .i64) (Kd.pair (Kd.int .i64) (Kd.pair (Kd.int .i64) (Kd.pair (Kd.int .i64) (Kd.pair (Kd.int .i64) (Kd.pair (Kd.int .i64) (Kd.pair (Kd.int .i64) (Kd.pair (Kd.slice 3 (Kd.int .i64)) Kd.bool))))))))) wfE126 := opens_struct0 (total := 10) Try.underlying126 (by kernel_rfl) (opensF_cons (o := 0) (o' := 1) (total := 10) rfl (by kernel_rfl) (opens_int Try.underlying3) (opensF_cons (o := 1) (o' := 2) (total := 10) rfl (by kernel_rfl) (opens_int Try.underlying3) (opensF_last (o := 2) (total := 10) rfl (by kernel_rfl) (opens_struct0 (total := 8) Try.underlying83 (by kernel_rfl) (opensF_cons (o := 0) (o' := 1) (total := 8) rfl (by kernel_rfl) (opens_int Try.underlying3) (opensF_cons (o := 1) (o' := 2) (total := 8) rfl (by kernel_rfl) (opens_int Try.underlying3) (opensF_cons (o := 2) (o' := 3) (total := 8) rfl (by kernel_rfl) (opens_int Try.underlying3) (opensF_cons (o := 3) (o' := 4) (total := 8) rfl (by kernel_rfl) (opens_int Try.underlying3) (opensF_cons (o := 4) (o' := 5) (total := 8) rfl (by kernel_rfl) (opens_int Try.underlying3) (opensF_cons (o := 5) (o' := 6) (total := 8) rfl (by kernel_rfl) (opens_int Try.underlying3) (opensF_cons (o := 6) (o' := 7) (total := 8) rfl (by kernel_rfl) (opens_slice Try.underlying55 (by kernel_rfl) oE3) (opensF_last (o := 7) (total := 8) rfl (by kernel_rfl) (opens_bool Try.underlying4)))))))))))))
set_option maxRecDepth 100000 in
theorem oE132 : Opens enc Try.prog W 132 (Kd.pair (Kd.int .i64) (Kd.pair (Kd.int .i64) (Kd.int .i64))) wfE132 := opens_struct0 (total := 3) Try.underlying132 (by kernel_rfl) (opensF_cons (o := 0) (o' := 1) (total := 3) rfl (by kernel_rfl) (opens_int Try.underlying3) (opensF_cons (o := 1) (o' := 2) (total := 3) rfl (by kernel_rfl) (opens_int Try.underlying3) (opensF_last (o := 2) (total := 3) rfl (by kernel_rfl) (opens_int Try.underlying3))))
end
set_option maxRecDepth 100000 in
theorem lifted (os : Os) (started : os.Started) (H : Type) (enc : TypeId × Value → H) :
    ReturnsInHanded {} Try.checked os 4 .any (Rows.fnExactBoxAckSpec.pre6 enc Try.prog Try.f4 Rows.fnExactBoxAckRow.domain false) (Rows.fnExactBoxAckSpec.post enc Try.prog Try.f4 false true false false) := by
  refine returnsInHanded_of_change_sized (C := Try.checked) own started (by kernel_rfl) Try.func4
    (ChangeSpec.witness6 (enc := enc) (C := Try.checked) false ⟨#[], #[.agg #[.int .i64 0, .int .i64 0, .int .i64 0, .int .i64 0, .slice none 0 0, .slice none 0 0], .int .i64 0], []⟩ 8 (by kernel_rfl) (by kernel_rfl) (by kernel_rfl) (by kernel_rfl)) ?_
  intro W base args ds gs before hval0 hW hcnd hsz0 _
  have hval : ∀ (j : Nat) t v, Try.f4.params[j]? = some t → args[j]? = some v → Value.okWide Try.prog W .any base t v := hval0
  have hW' := hW
  obtain ⟨p, q, hA0, hV, rfl, hfz, hnd⟩ := hW
  have hA : DataW.TrodAll enc Try.prog W 0 (fun _ => true) true Try.f4.params.toList args.toList ds p := hA0
  rw [Try.params4] at hA hval
  obtain ⟨v0, vs0, d0, ds0, p0, q0, hargs, rfl, rfl, h0, r0⟩ := trodAll_cons hA
  obtain ⟨v1, vs1, d1, ds1, p1, q1, rfl, rfl, rfl, h1, r1⟩ := trodAll_cons r0
  obtain ⟨rfl, rfl, rfl⟩ := trodAll_nil r1
  obtain rfl : args = #[v0, v1] := by cases args; simp_all
  obtain ⟨rfl, rfl⟩ := trodVars_none hV
  have lt0 : ∀ x ∈ p0, x.block < W.heap.size := by obtain ⟨m, hm⟩ := h0; exact DataW.trod_lt m _ _ _ hm
  obtain ⟨x0, hK0, hw0⟩ := opens_arg (opens_struct0 (total := 6) Try.underlying33 (by kernel_rfl) (opensF_cons (o := 0) (o' := 1) (total := 6) rfl (by kernel_rfl) (opens_int Try.underlying3) (opensF_cons (o := 1) (o' := 2) (total := 6) rfl (by kernel_rfl) (opens_int Try.underlying3) (opensF_cons (o := 2) (o' := 3) (total := 6) rfl (by kernel_rfl) (opens_int Try.underlying3) (opensF_cons (o := 3) (o' := 4) (total := 6) rfl (by kernel_rfl) (opens_int Try.underlying3) (opensF_cons (o := 4) (o' := 5) (total := 6) rfl (by kernel_rfl) (opens_slice Try.underlying30 (by kernel_rfl) oE126) (opensF_last (o := 5) (total := 6) rfl (by kernel_rfl) (opens_slice Try.underlying31 (by kernel_rfl) oE132)))))))) h0
  obtain ⟨cs0, rfl, hcs0⟩ := arg_struct Try.underlying33 (hval 0 33 v0 rfl rfl)
  rw [hcs0] at hK0
  obtain ⟨a0_0, ⟨a0_1, ⟨a0_2, ⟨a0_3, ⟨a0_4, a0_5⟩⟩⟩⟩⟩ := x0
  obtain ⟨wa0_0, ⟨wa0_1, ⟨wa0_2, ⟨wa0_3, ⟨wa0_4, wa0_5⟩⟩⟩⟩⟩ := hw0
  obtain ⟨cp0_1, cq0_1, ee0_1, hp0_1, hq0_1⟩ := hK0
  have ea0_0 := hp0_1
  obtain ⟨cp0_2, cq0_2, ee0_2, hp0_2, hq0_2⟩ := hq0_1
  have ea0_1 := hp0_2
  obtain ⟨cp0_3, cq0_3, ee0_3, hp0_3, hq0_3⟩ := hq0_2
  have ea0_2 := hp0_3
  obtain ⟨cp0_4, cq0_4, ee0_4, hp0_4, hq0_4⟩ := hq0_3
  have ea0_3 := hp0_4
  obtain ⟨cp0_5, cq0_5, ee0_5, hp0_5, hq0_5⟩ := hq0_4
  obtain ⟨A0_4, c0_4, ea0_4, hc0_4, hA0_4⟩ := hp0_5
  obtain ⟨A0_5, c0_5, ea0_5, hc0_5, hA0_5⟩ := hq0_5
  obtain rfl : cs0 = #[.int .i64 a0_0, .int .i64 a0_1, .int .i64 a0_2, .int .i64 a0_3, .slice A0_4 a0_4.length c0_4, .slice A0_5 a0_5.length c0_5] := by
    have hl : cs0.toList = [.int .i64 a0_0, .int .i64 a0_1, .int .i64 a0_2, .int .i64 a0_3, .slice A0_4 a0_4.length c0_4, .slice A0_5 a0_5.length c0_5] := by rw [ee0_1, ea0_0, ee0_2, ea0_1, ee0_3, ea0_2, ee0_4, ea0_3, ee0_5, ea0_4, ea0_5]; rfl
    cases cs0
    simpa using hl
  have lt1 : ∀ x ∈ p1, x.block < W.heap.size := by obtain ⟨m, hm⟩ := h1; exact DataW.trod_lt m _ _ _ hm
  obtain ⟨a1, hK1, wa1⟩ := opens_arg (opens_int Try.underlying3) h1
  obtain ⟨y1, rfl⟩ := okWide_int Try.underlying3 (hval 1 3 v1 rfl rfl)
  have e_ : [Value.int .i64 y1] = [Value.int .i64 a1] := hK1
  simp at e_
  subst y1
  clear hA0 hval0 hsz0
  have hn := Pure.FnExactBoxAck a0_0 a0_1 a0_2 a0_3 a0_4 a0_5 a1 wa0_0 wa0_1 wa0_2 wa0_3 wa0_4 wa0_5 wa1
  have hrs : F2 (RoAs W) [⟨126, (.pair (.int .i64) (.pair (.int .i64) (.pair (.int .i64) (.pair (.int .i64) (.pair (.int .i64) (.pair (.int .i64) (.pair (.int .i64) (.pair (.int .i64) (.pair (.sl 3 (.int .i64)) .bool))))))))), a0_4, .ro⟩, ⟨132, (.pair (.int .i64) (.pair (.int .i64) (.int .i64))), a0_5, .ro⟩] [.slice A0_4 a0_4.length c0_4, .slice A0_5 a0_5.length c0_5] := ⟨⟨rfl, A0_4, c0_4, rfl, hc0_4, hA0_4⟩, ⟨rfl, A0_5, c0_5, rfl, hc0_5, hA0_5⟩, trivial⟩
  have hin : F2 (AV.R (gh0 W [.slice A0_4 a0_4.length c0_4, .slice A0_5 a0_5.length c0_5])) [.s1 (.agg [.val (.int .i64 a0_0), .val (.int .i64 a0_1), .val (.int .i64 a0_2), .val (.int .i64 a0_3), .sl 0, .sl 1]), .s1 (.one (.val (.int .i64 a1)))] [Value.agg #[(.int .i64 a0_0), (.int .i64 a0_1), (.int .i64 a0_2), (.int .i64 a0_3), (.slice A0_4 a0_4.length c0_4), (.slice A0_5 a0_5.length c0_5)], ((.int .i64 a1) : Value)] := ⟨⟨_, rfl, ⟨rfl, rfl, rfl, rfl, rfl, rfl, trivial⟩⟩, rfl, trivial⟩
  have hE : E4 [.s1 (.agg [.val (.int .i64 a0_0), .val (.int .i64 a0_1), .val (.int .i64 a0_2), .val (.int .i64 a0_3), .sl 0, .sl 1]), .s1 (.one (.val (.int .i64 a1)))] [] [⟨126, (.pair (.int .i64) (.pair (.int .i64) (.pair (.int .i64) (.pair (.int .i64) (.pair (.int .i64) (.pair (.int .i64) (.pair (.int .i64) (.pair (.int .i64) (.pair (.sl 3 (.int .i64)) .bool))))))))), a0_4, .ro⟩, ⟨132, (.pair (.int .i64) (.pair (.int .i64) (.int .i64))), a0_5, .ro⟩] = some ⟨Bool, L.FnExactBoxAck a0_0 a0_1 a0_2 a0_3 a1 a0_4 a0_5, fun t => resOf sg4.rsk (encP sg4.rks (toA sg4.rks t))⟩ := by kernel_rfl
  refine (good_true good4 (t := true) hE hn (by kernel_rfl) hrs hin).mono fun e W' ⟨he, bel⟩ => ?_
  subst he
  exact ⟨_, rfl, _, _, _, [], _, [], hW', trodAll_mk1 (shut_bool Try.underlying4 _), (trodAll_cons_mk (Below.trod laidOut (by kernel_rfl) (of_decide_eq_true (by kernel_rfl)) h0 bel lt0) (trodAll_cons_mk (Below.trod laidOut (by kernel_rfl) (of_decide_eq_true (by kernel_rfl)) h1 bel lt1) trodAll_mk0)), rfl, bel.frame _, fun h => by cases h⟩
theorem band {a b : Bool} (h1 : a = true) (h2 : b = true) : (a && b) = true := by rw [h1, h2]; rfl
set_option maxHeartbeats 40000000 in
theorem joined : joinedFacts Try.pinned.checked.prog 4 Try.f4 Rows.fnExactBoxAckSpec Rows.fnExactBoxAckRow = true := by
  unfold joinedFacts
  refine band (band (band (band (band (band (band (band (band (band (band (band (band (band (band (band (band (band (band (band (band (band (band (band (band (band (band (band (band (band (band ?_ ?_) ?_) ?_) ?_) ?_) ?_) ?_) ?_) ?_) ?_) ?_) ?_) ?_) ?_) ?_) ?_) ?_) ?_) ?_) ?_) ?_) ?_) ?_) ?_) ?_) ?_) ?_) ?_) ?_) ?_) ?_
  all_goals decide +kernel
theorem instOk : Try.f4.isInstance Try.pinned.checked.prog Rows.fnExactBoxAckRow.origin Rows.fnExactBoxAckRow.targs := of_decide_eq_true (by kernel_rfl)
theorem wrapOk : Try.f4.isWrapper Try.pinned.checked.prog Rows.fnExactBoxAckRow.wrapper Rows.fnExactBoxAckRow.mainSum := by unfold Func.isWrapper; first | (rw [if_pos (by decide +kernel)]; kernel_rfl) | (rw [if_neg (by decide +kernel)]; exact ⟨rfl, rfl⟩)
theorem over : Rows.fnExactBoxAckRow.holds Try.pinned (OpenSpec.ofChange Rows.fnExactBoxAckSpec) :=
  OpenClaim.holds_of_wide 4 Try.f4 rfl rfl rfl rfl rfl rfl rfl ⟨rfl, rfl, rfl, rfl, rfl⟩ rfl rfl rfl rfl rfl (by kernel_rfl) Try.func4 joined instOk wrapOk
    (fun os started H enc _ => lifted os started H enc)
end Go.Proofs.Ytidojhgkpgomcaa.fnExactBoxAck
namespace Go.Proofs.Ytidojhgkpgomcaa
theorem fnExactBoxAck_holds : Rows.FnExactBoxAckSaid := fnExactBoxAck.over
#print axioms fnExactBoxAck_holds
end Go.Proofs.Ytidojhgkpgomcaa
