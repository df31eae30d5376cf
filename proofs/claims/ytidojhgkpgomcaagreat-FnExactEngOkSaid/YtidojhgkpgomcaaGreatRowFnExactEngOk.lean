/- The row of FnExactEngOk: for every input the call returns true, and each argument reads as it read before. No condition. -/
import Derived.Test.YtidojhgkpgomcaaGreatRows
import Derived.Test.YtidojhgkpgomcaaGreatStmtFnExactEngOk
import Derived.Test.YtidojhgkpgomcaaGreatPureFnExactEngOk
import Derived.Test.YtidojhgkpgomcaaGreatOpen
import Derived.WalkKit
import Derived.ProofKit
import Derived.OpenShut
import Derived.ShutString
import Derived.ChangeOld
import Derived.Below
import Derived.SizedLaws
namespace Go.Proofs.YtidojhgkpgomcaaGreat.fnExactEngOk
open Go.ChangeShapes Go.WideShapes Go.ChangeAt Go.RowKit Go.Proofs.YtidojhgkpgomcaaGreat.Opening Go.Proofs.YtidojhgkpgomcaaGreatW.PrintWords Go.Proofs.YtidojhgkpgomcaaGreat.Vm Go.Proofs.YtidojhgkpgomcaaGreat.Run Go.Proofs.YtidojhgkpgomcaaGreat.StmtFnExactEngOk
set_option linter.unusedVariables false
set_option linter.unusedSimpArgs false
theorem own : ownKnob Tryz.prog.godebug = none := by kernel_rfl
theorem laidOut : laidOutB Tryz.prog = true := by kernel_rfl
section
variable {H : Type} {enc : TypeId × Value → H} {W : World}
set_option maxRecDepth 100000 in
theorem oE87 : Opens enc Tryz.prog W 87 (Kd.int .u64) wfE87 := opens_int Tryz.underlying87
set_option maxRecDepth 100000 in
theorem oE289 : Opens enc Tryz.prog W 289 (Kd.pair (Kd.int .i64) (Kd.int .i64)) wfE289 := opens_struct0 (total := 2) Tryz.underlying289 (by kernel_rfl) (opensF_cons (o := 0) (o' := 1) (total := 2) rfl (by kernel_rfl) (opens_int Tryz.underlying3) (opensF_last (o := 1) (total := 2) rfl (by kernel_rfl) (opens_int Tryz.underlying3)))
set_option maxRecDepth 100000 in
theorem oE185 : Opens enc Tryz.prog W 185 (Kd.pair (Kd.slice 289 (Kd.pair (Kd.int .i64) (Kd.int .i64))) (Kd.pair (Kd.slice 289 (Kd.pair (Kd.int .i64) (Kd.int .i64))) (Kd.pair (Kd.pair (Kd.int .i64) (Kd.pair (Kd.int .i64) (Kd.int .i64))) (Kd.pair (Kd.int .i64) (Kd.int .i64))))) wfE185 := opens_struct0 (total := 7) Tryz.underlying185 (by kernel_rfl) (opensF_cons (o := 0) (o' := 1) (total := 7) rfl (by kernel_rfl) (opens_slice Tryz.underlying183 (by kernel_rfl) oE289) (opensF_cons (o := 1) (o' := 2) (total := 7) rfl (by kernel_rfl) (opens_slice Tryz.underlying183 (by kernel_rfl) oE289) (opensF_cons (o := 2) (o' := 5) (total := 7) rfl (by kernel_rfl) (opens_struct0 (total := 3) Tryz.underlying24 (by kernel_rfl) (opensF_cons (o := 0) (o' := 1) (total := 3) rfl (by kernel_rfl) (opens_int Tryz.underlying3) (opensF_cons (o := 1) (o' := 2) (total := 3) rfl (by kernel_rfl) (opens_int Tryz.underlying3) (opensF_last (o := 2) (total := 3) rfl (by kernel_rfl) (opens_int Tryz.underlying3))))) (opensF_cons (o := 5) (o' := 6) (total := 7) rfl (by kernel_rfl) (opens_int Tryz.underlying3) (opensF_last (o := 6) (total := 7) rfl (by kernel_rfl) (opens_int Tryz.underlying3))))))
set_option maxRecDepth 100000 in
theorem oE194 : Opens enc Tryz.prog W 194 (Kd.pair (Kd.int .i64) (Kd.pair (Kd.int .i64) (Kd.int .i64))) wfE194 := opens_struct0 (total := 3) Tryz.underlying194 (by kernel_rfl) (opensF_cons (o := 0) (o' := 1) (total := 3) rfl (by kernel_rfl) (opens_int Tryz.underlying3) (opensF_cons (o := 1) (o' := 2) (total := 3) rfl (by kernel_rfl) (opens_int Tryz.underlying3) (opensF_last (o := 2) (total := 3) rfl (by kernel_rfl) (opens_int Tryz.underlying3))))
set_option maxRecDepth 100000 in
theorem oE196 : Opens enc Tryz.prog W 196 (Kd.pair (Kd.int .i64) (Kd.pair (Kd.int .i64) (Kd.pair (Kd.int .i64) (Kd.pair (Kd.int .i64) (Kd.int .i64))))) wfE196 := opens_struct0 (total := 5) Tryz.underlying196 (by kernel_rfl) (opensF_cons (o := 0) (o' := 1) (total := 5) rfl (by kernel_rfl) (opens_int Tryz.underlying3) (opensF_cons (o := 1) (o' := 2) (total := 5) rfl (by kernel_rfl) (opens_int Tryz.underlying3) (opensF_cons (o := 2) (o' := 3) (total := 5) rfl (by kernel_rfl) (opens_int Tryz.underlying3) (opensF_cons (o := 3) (o' := 4) (total := 5) rfl (by kernel_rfl) (opens_int Tryz.underlying3) (opensF_last (o := 4) (total := 5) rfl (by kernel_rfl) (opens_int Tryz.underlying3))))))
set_option maxRecDepth 100000 in
theorem oE235 : Opens enc Tryz.prog W 235 (Kd.pair (Kd.int .i64) (Kd.pair (Kd.int .i64) (Kd.pair (Kd.int .i64) (Kd.int .i64)))) wfE235 := opens_struct0 (total := 4) Tryz.underlying235 (by kernel_rfl) (opensF_cons (o := 0) (o' := 1) (total := 4) rfl (by kernel_rfl) (opens_int Tryz.underlying3) (opensF_cons (o := 1) (o' := 2) (total := 4) rfl (by kernel_rfl) (opens_int Tryz.underlying3) (opensF_cons (o := 2) (o' := 3) (total := 4) rfl (by kernel_rfl) (opens_int Tryz.underlying3) (opensF_last (o := 3) (total := 4) rfl (by kernel_rfl) (opens_int Tryz.underlying3)))))
set_option maxRecDepth 100000 in
theorem oE272 : Opens enc Tryz.prog W 272 (Kd.pair (Kd.int .i64) Kd.bool) wfE272 := opens_struct0 (total := 2) Tryz.underlying272 (by kernel_rfl) (opensF_cons (o := 0) (o' := 1) (total := 2) rfl (by kernel_rfl) (opens_int Tryz.underlying3) (opensF_last (o := 1) (total := 2) rfl (by kernel_rfl) (opens_bool Tryz.underlying4)))
set_option maxRecDepth 100000 in
theorem oE3 : Opens enc Tryz.prog W 3 (Kd.int .i64) wfE3 := opens_int Tryz.underlying3
set_option maxRecDepth 100000 in
theorem oE93 : Opens enc Tryz.prog W 93 (Kd.pair (Kd.int .i64) (Kd.pair (Kd.int .i64) (Kd.pair (Kd.int .i64) (Kd.pair (Kd.int .i64) (Kd.pair (Kd.int .i64) (Kd.pair (Kd.int .i64) (Kd.pair (Kd.pair (Kd.int .i64) (Kd.int .u64)) (Kd.pair (Kd.int .i64) (Kd.pair (Kd.int .i64) (Kd.slice 3 (Kd.int .i64))))))))))) wfE93 := opens_struct0 (total := 11) Tryz.underlying93 (by kernel_rfl) (opensF_cons (o := 0) (o' := 1) (total := 11) rfl (by kernel_rfl) (opens_int Tryz.underlying3) (opensF_cons (o := 1) (o' := 2) (total := 11) rfl (by kernel_rfl) (opens_int Tryz.underlying3) (opensF_cons (o := 2) (o' := 3) (total := 11) rfl (by kernel_rfl) (opens_int Tryz.underlying3) (opensF_cons (o := 3) (o' := 4) (total := 11) rfl (by kernel_rfl) (opens_int Tryz.underlying3) (opensF_cons (o := 4) (o' := 5) (total := 11) rfl (by kernel_rfl) (opens_int Tryz.underlying3) (opensF_last (o := 5) (total := 11) rfl (by kernel_rfl) (opens_struct0 (total := 6) Tryz.underlying91 (by kernel_rfl) (opensF_cons (o := 0) (o' := 1) (total := 6) rfl (by kernel_rfl) (opens_int Tryz.underlying3) (opensF_cons (o := 1) (o' := 3) (total := 6) rfl (by kernel_rfl) (opens_struct0 (total := 2) Tryz.underlying89 (by kernel_rfl) (opensF_cons (o := 0) (o' := 1) (total := 2) rfl (by kernel_rfl) (opens_int Tryz.underlying3) (opensF_last (o := 1) (total := 2) rfl (by kernel_rfl) (opens_int Tryz.underlying87)))) (opensF_cons (o := 3) (o' := 4) (total := 6) rfl (by kernel_rfl) (opens_int Tryz.underlying3) (opensF_cons (o := 4) (o' := 5) (total := 6) rfl (by kernel_rfl) (opens_int Tryz.underlying3) (opensF_last (o := 5) (total := 6) rfl (by kernel_rfl) (opens_slice Tryz.underlying54 (by kernel_rfl) oE3)))))))))))))
set_option maxRecDepth 100000 in
theorem oE307 : Opens enc Tryz.prog W 307 (Kd.pair (Kd.int .i64) (Kd.pair (Kd.int .i64) (Kd.pair (Kd.int .i64) (Kd.pair (Kd.int .i64) (Kd.pair (Kd.int .i64) (Kd.pair (Kd.int .i64) (Kd.pair (Kd.int .i64) (Kd.pair (Kd.int .i64) (Kd.pair (Kd.slice 3 (Kd.int .i64)) Kd.bool))))))))) wfE307 := opens_struct0 (total := 10) Tryz.underlying307 (by kernel_rfl) (opensF_cons (o := 0) (o' := 1) (total := 10) rfl (by kernel_rfl) (opens_int Tryz.underlying3) (opensF_cons (o := 1) (o' := 2) (total := 10) rfl (by kernel_rfl) (opens_int Tryz.underlying3) (opensF_last (o := 2) (total := 10) rfl (by kernel_rfl) (opens_struct0 (total := 8) Tryz.underlying305 (by kernel_rfl) (opensF_cons (o := 0) (o' := 1) (total := 8) rfl (by kernel_rfl) (opens_int Tryz.underlying3) (opensF_cons (o := 1) (o' := 2) (total := 8) rfl (by kernel_rfl) (opens_int Tryz.underlying3) (opensF_cons (o := 2) (o' := 3) (total := 8) rfl (by kernel_rfl) (opens_int Tryz.underlying3) (opensF_cons (o := 3) (o' := 4) (total := 8) rfl (by kernel_rfl) (opens_int Tryz.underlying3) (opensF_cons (o := 4) (o' := 5) (total := 8) rfl (by kernel_rfl) (opens_int Tryz.underlying3) (opensF_cons (o := 5) (o' := 6) (total := 8) rfl (by kernel_rfl) (opens_int Tryz.underlying3) (opensF_cons (o := 6) (o' := 7) (total := 8) rfl (by kernel_rfl) (opens_slice Tryz.underlying54 (by kernel_rfl) oE3) (opensF_last (o := 7) (total := 8) rfl (by kernel_rfl) (opens_bool Tryz.underlying4)))))))))))))
set_option maxRecDepth 100000 in
theorem oE310 : Opens enc Tryz.prog W 310 (Kd.pair (Kd.int .i64) (Kd.pair (Kd.int .i64) (Kd.int .i64))) wfE310 := opens_struct0 (total := 3) Tryz.underlying310 (by kernel_rfl) (opensF_cons (o := 0) (o' := 1) (total := 3) rfl (by kernel_rfl) (opens_int Tryz.underlying3) (opensF_cons (o := 1) (o' := 2) (total := 3) rfl (by kernel_rfl) (opens_int Tryz.underlying3) (opensF_last (o := 2) (total := 3) rfl (by kernel_rfl) (opens_int Tryz.underlying3))))
set_option maxRecDepth 100000 in
theorem oE222 : Opens enc Tryz.prog W 222 (Kd.pair (Kd.int .i64) (Kd.pair (Kd.int .i64) (Kd.pair (Kd.int .i64) (Kd.pair (Kd.int .i64) (Kd.pair (Kd.slice 307 (Kd.pair (Kd.int .i64) (Kd.pair (Kd.int .i64) (Kd.pair (Kd.int .i64) (Kd.pair (Kd.int .i64) (Kd.pair (Kd.int .i64) (Kd.pair (Kd.int .i64) (Kd.pair (Kd.int .i64) (Kd.pair (Kd.int .i64) (Kd.pair (Kd.slice 3 (Kd.int .i64)) Kd.bool)))))))))) (Kd.slice 310 (Kd.pair (Kd.int .i64) (Kd.pair (Kd.int .i64) (Kd.int .i64))))))))) wfE222 := opens_struct0 (total := 6) Tryz.underlying222 (by kernel_rfl) (opensF_cons (o := 0) (o' := 1) (total := 6) rfl (by kernel_rfl) (opens_int Tryz.underlying3) (opensF_cons (o := 1) (o' := 2) (total := 6) rfl (by kernel_rfl) (opens_int Tryz.underlying3) (opensF_cons (o := 2) (o' := 3) (total := 6) rfl (by kernel_rfl) (opens_int Tryz.underlying3) (opensF_cons (o := 3) (o' := 4) (total := 6) rfl (by kernel_rfl) (opens_int Tryz.underlying3) (opensF_cons (o := 4) (o' := 5) (total := 6) rfl (by kernel_rfl) (opens_slice Tryz.underlying219 (by kernel_rfl) oE307) (opensF_last (o := 5) (total := 6) rfl (by kernel_rfl) (opens_slice Tryz.underlying220 (by kernel_rfl) oE310)))))))
end
set_option maxRecDepth 100000 in
theorem lifted (os : Os) (started : os.Started) (H : Type) (enc : TypeId × Value → H) :
    ReturnsInHanded {} Tryz.checked os 6 .any (Rows.fnExactEngOkSpec.pre6 enc Tryz.prog Tryz.f6 Rows.fnExactEngOkRow.domain false) (Rows.fnExactEngOkSpec.post enc Tryz.prog Tryz.f6 false true false false) := by
  refine returnsInHanded_of_change_sized (C := Tryz.checked) own started (by kernel_rfl) Tryz.func6
    (ChangeSpec.witness6 (enc := enc) (C := Tryz.checked) false ⟨#[], #[.agg #[.int .i64 0, .slice none 0 0, .int .i64 0, .int .i64 0, .slice none 0 0, .slice none 0 0, .slice none 0 0, .slice none 0 0, .int .i64 0, .slice none 0 0, .slice none 0 0, .slice none 0 0, .slice none 0 0, .slice none 0 0]], []⟩ 8 (by kernel_rfl) (by kernel_rfl) (by kernel_rfl) (by kernel_rfl)) ?_
  intro W base args ds gs before hval0 hW hcnd hsz0 _
  have hval : ∀ (j : Nat) t v, Tryz.f6.params[j]? = some t → args[j]? = some v → Value.okWide Tryz.prog W .any base t v := hval0
  have hW' := hW
  obtain ⟨p, q, hA0, hV, rfl, hfz, hnd⟩ := hW
  have hA : DataW.TrodAll enc Tryz.prog W 0 (fun _ => true) true Tryz.f6.params.toList args.toList ds p := hA0
  rw [Tryz.params6] at hA hval
  obtain ⟨v0, vs0, d0, ds0, p0, q0, hargs, rfl, rfl, h0, r0⟩ := trodAll_cons hA
  obtain ⟨rfl, rfl, rfl⟩ := trodAll_nil r0
  obtain rfl : args = #[v0] := by cases args; simp_all
  obtain ⟨rfl, rfl⟩ := trodVars_none hV
  have lt0 : ∀ x ∈ p0, x.block < W.heap.size := by obtain ⟨m, hm⟩ := h0; exact DataW.trod_lt m _ _ _ hm
  obtain ⟨x0, hK0, hw0⟩ := opens_arg (opens_struct0 (total := 14) Tryz.underlying81 (by kernel_rfl) (opensF_cons (o := 0) (o' := 7) (total := 14) rfl (by kernel_rfl) (opens_struct0 (total := 7) Tryz.underlying42 (by kernel_rfl) (opensF_cons (o := 0) (o' := 2) (total := 7) rfl (by kernel_rfl) (opens_struct0 (total := 2) Tryz.underlying37 (by kernel_rfl) (opensF_cons (o := 0) (o' := 1) (total := 2) rfl (by kernel_rfl) (opens_int Tryz.underlying3) (opensF_last (o := 1) (total := 2) rfl (by kernel_rfl) (opens_slice Tryz.underlying35 (by kernel_rfl) oE87)))) (opensF_cons (o := 2) (o' := 3) (total := 7) rfl (by kernel_rfl) (opens_int Tryz.underlying3) (opensF_cons (o := 3) (o' := 4) (total := 7) rfl (by kernel_rfl) (opens_int Tryz.underlying3) (opensF_cons (o := 4) (o' := 5) (total := 7) rfl (by kernel_rfl) (opens_slice Tryz.underlying38 (by kernel_rfl) oE185) (opensF_cons (o := 5) (o' := 6) (total := 7) rfl (by kernel_rfl) (opens_slice Tryz.underlying39 (by kernel_rfl) oE194) (opensF_last (o := 6) (total := 7) rfl (by kernel_rfl) (opens_slice Tryz.underlying40 (by kernel_rfl) oE196)))))))) (opensF_cons (o := 7) (o' := 8) (total := 14) rfl (by kernel_rfl) (opens_slice Tryz.underlying75 (by kernel_rfl) oE235) (opensF_cons (o := 8) (o' := 10) (total := 14) rfl (by kernel_rfl) (opens_struct0 (total := 2) Tryz.underlying78 (by kernel_rfl) (opensF_cons (o := 0) (o' := 1) (total := 2) rfl (by kernel_rfl) (opens_int Tryz.underlying3) (opensF_last (o := 1) (total := 2) rfl (by kernel_rfl) (opens_slice Tryz.underlying76 (by kernel_rfl) oE272)))) (opensF_cons (o := 10) (o' := 11) (total := 14) rfl (by kernel_rfl) (opens_slice Tryz.underlying22 (by kernel_rfl) oE93) (opensF_cons (o := 11) (o' := 12) (total := 14) rfl (by kernel_rfl) (opens_slice Tryz.underlying54 (by kernel_rfl) oE3) (opensF_cons (o := 12) (o' := 13) (total := 14) rfl (by kernel_rfl) (opens_slice Tryz.underlying54 (by kernel_rfl) oE3) (opensF_last (o := 13) (total := 14) rfl (by kernel_rfl) (opens_slice Tryz.underlying79 (by kernel_rfl) oE222))))))))) h0
  obtain ⟨cs0, rfl, hcs0⟩ := arg_struct Tryz.underlying81 (hval 0 81 v0 rfl rfl)
  rw [hcs0] at hK0
  obtain ⟨⟨⟨a0_0, a0_1⟩, ⟨a0_2, ⟨a0_3, ⟨a0_4, ⟨a0_5, a0_6⟩⟩⟩⟩⟩, ⟨a0_7, ⟨⟨a0_8, a0_9⟩, ⟨a0_10, ⟨a0_11, ⟨a0_12, a0_13⟩⟩⟩⟩⟩⟩ := x0
  obtain ⟨⟨⟨wa0_0, wa0_1⟩, ⟨wa0_2, ⟨wa0_3, ⟨wa0_4, ⟨wa0_5, wa0_6⟩⟩⟩⟩⟩, ⟨wa0_7, ⟨⟨wa0_8, wa0_9⟩, ⟨wa0_10, ⟨wa0_11, ⟨wa0_12, wa0_13⟩⟩⟩⟩⟩⟩ := hw0
  obtain ⟨cp0_1, cq0_1, ee0_1, hp0_1, hq0_1⟩ := hK0
  obtain ⟨cp0_2, cq0_2, ee0_2, hp0_2, hq0_2⟩ := hp0_1
  obtain ⟨cp0_3, cq0_3, ee0_3, hp0_3, hq0_3⟩ := hp0_2
  have ea0_0 := hp0_3
  obtain ⟨A0_1, c0_1, ea0_1, hc0_1, hA0_1⟩ := hq0_3
  obtain ⟨cp0_4, cq0_4, ee0_4, hp0_4, hq0_4⟩ := hq0_2
  have ea0_2 := hp0_4
  obtain ⟨cp0_5, cq0_5, ee0_5, hp0_5, hq0_5⟩ := hq0_4
  have ea0_3 := hp0_5
  obtain ⟨cp0_6, cq0_6, ee0_6, hp0_6, hq0_6⟩ := hq0_5
  obtain ⟨A0_4, c0_4, ea0_4, hc0_4, hA0_4⟩ := hp0_6
  obtain ⟨cp0_7, cq0_7, ee0_7, hp0_7, hq0_7⟩ := hq0_6
  obtain ⟨A0_5, c0_5, ea0_5, hc0_5, hA0_5⟩ := hp0_7
  obtain ⟨A0_6, c0_6, ea0_6, hc0_6, hA0_6⟩ := hq0_7
  obtain ⟨cp0_8, cq0_8, ee0_8, hp0_8, hq0_8⟩ := hq0_1
  obtain ⟨A0_7, c0_7, ea0_7, hc0_7, hA0_7⟩ := hp0_8
  obtain ⟨cp0_9, cq0_9, ee0_9, hp0_9, hq0_9⟩ := hq0_8
  obtain ⟨cp0_10, cq0_10, ee0_10, hp0_10, hq0_10⟩ := hp0_9
  have ea0_8 := hp0_10
  obtain ⟨A0_9, c0_9, ea0_9, hc0_9, hA0_9⟩ := hq0_10
  obtain ⟨cp0_11, cq0_11, ee0_11, hp0_11, hq0_11⟩ := hq0_9
  obtain ⟨A0_10, c0_10, ea0_10, hc0_10, hA0_10⟩ := hp0_11
  obtain ⟨cp0_12, cq0_12, ee0_12, hp0_12, hq0_12⟩ := hq0_11
  obtain ⟨A0_11, c0_11, ea0_11, hc0_11, hA0_11⟩ := hp0_12
  obtain ⟨cp0_13, cq0_13, ee0_13, hp0_13, hq0_13⟩ := hq0_12
  obtain ⟨A0_12, c0_12, ea0_12, hc0_12, hA0_12⟩ := hp0_13
  obtain ⟨A0_13, c0_13, ea0_13, hc0_13, hA0_13⟩ := hq0_13
  obtain rfl : cs0 = #[.int .i64 a0_0, .slice A0_1 a0_1.length c0_1, .int .i64 a0_2, .int .i64 a0_3, .slice A0_4 a0_4.length c0_4, .slice A0_5 a0_5.length c0_5, .slice A0_6 a0_6.length c0_6, .slice A0_7 a0_7.length c0_7, .int .i64 a0_8, .slice A0_9 a0_9.length c0_9, .slice A0_10 a0_10.length c0_10, .slice A0_11 a0_11.length c0_11, .slice A0_12 a0_12.length c0_12, .slice A0_13 a0_13.length c0_13] := by
    have hl : cs0.toList = [.int .i64 a0_0, .slice A0_1 a0_1.length c0_1, .int .i64 a0_2, .int .i64 a0_3, .slice A0_4 a0_4.length c0_4, .slice A0_5 a0_5.length c0_5, .slice A0_6 a0_6.length c0_6, .slice A0_7 a0_7.length c0_7, .int .i64 a0_8, .slice A0_9 a0_9.length c0_9, .slice A0_10 a0_10.length c0_10, .slice A0_11 a0_11.length c0_11, .slice A0_12 a0_12.length c0_12, .slice A0_13 a0_13.length c0_13] := by rw [ee0_1, ee0_2, ee0_3, ea0_0, ea0_1, ee0_4, ea0_2, ee0_5, ea0_3, ee0_6, ea0_4, ee0_7, ea0_5, ea0_6, ee0_8, ea0_7, ee0_9, ee0_10, ea0_8, ea0_9, ee0_11, ea0_10, ee0_12, ea0_11, ee0_13, ea0_12, ea0_13]; rfl
    cases cs0
    simpa using hl
  clear hA0 hval0 hsz0
  have hn := Pure.FnExactEngOk a0_0 a0_1 a0_2 a0_3 a0_4 a0_5 a0_6 a0_7 a0_8 a0_9 a0_10 a0_11 a0_12 a0_13 wa0_0 wa0_1 wa0_2 wa0_3 wa0_4 wa0_5 wa0_6 wa0_7 wa0_8 wa0_9 wa0_10 wa0_11 wa0_12 wa0_13
  have hrs : F2 (RoAs W) [⟨87, (.int .u64), a0_1, .ro⟩, ⟨185, (.pair (.sl 289 (.pair (.int .i64) (.int .i64))) (.pair (.sl 289 (.pair (.int .i64) (.int .i64))) (.pair (.pair (.int .i64) (.pair (.int .i64) (.int .i64))) (.pair (.int .i64) (.int .i64))))), a0_4, .ro⟩, ⟨194, (.pair (.int .i64) (.pair (.int .i64) (.int .i64))), a0_5, .ro⟩, ⟨196, (.pair (.int .i64) (.pair (.int .i64) (.pair (.int .i64) (.pair (.int .i64) (.int .i64))))), a0_6, .ro⟩, ⟨235, (.pair (.int .i64) (.pair (.int .i64) (.pair (.int .i64) (.int .i64)))), a0_7, .ro⟩, ⟨272, (.pair (.int .i64) .bool), a0_9, .ro⟩, ⟨93, (.pair (.int .i64) (.pair (.int .i64) (.pair (.int .i64) (.pair (.int .i64) (.pair (.int .i64) (.pair (.int .i64) (.pair (.pair (.int .i64) (.int .u64)) (.pair (.int .i64) (.pair (.int .i64) (.sl 3 (.int .i64))))))))))), a0_10, .ro⟩, ⟨3, (.int .i64), a0_11, .ro⟩, ⟨3, (.int .i64), a0_12, .ro⟩, ⟨222, (.pair (.int .i64) (.pair (.int .i64) (.pair (.int .i64) (.pair (.int .i64) (.pair (.sl 307 (.pair (.int .i64) (.pair (.int .i64) (.pair (.int .i64) (.pair (.int .i64) (.pair (.int .i64) (.pair (.int .i64) (.pair (.int .i64) (.pair (.int .i64) (.pair (.sl 3 (.int .i64)) .bool)))))))))) (.sl 310 (.pair (.int .i64) (.pair (.int .i64) (.int .i64))))))))), a0_13, .ro⟩] [.slice A0_1 a0_1.length c0_1, .slice A0_4 a0_4.length c0_4, .slice A0_5 a0_5.length c0_5, .slice A0_6 a0_6.length c0_6, .slice A0_7 a0_7.length c0_7, .slice A0_9 a0_9.length c0_9, .slice A0_10 a0_10.length c0_10, .slice A0_11 a0_11.length c0_11, .slice A0_12 a0_12.length c0_12, .slice A0_13 a0_13.length c0_13] := ⟨⟨rfl, A0_1, c0_1, rfl, hc0_1, hA0_1⟩, ⟨rfl, A0_4, c0_4, rfl, hc0_4, hA0_4⟩, ⟨rfl, A0_5, c0_5, rfl, hc0_5, hA0_5⟩, ⟨rfl, A0_6, c0_6, rfl, hc0_6, hA0_6⟩, ⟨rfl, A0_7, c0_7, rfl, hc0_7, hA0_7⟩, ⟨rfl, A0_9, c0_9, rfl, hc0_9, hA0_9⟩, ⟨rfl, A0_10, c0_10, rfl, hc0_10, hA0_10⟩, ⟨rfl, A0_11, c0_11, rfl, hc0_11, hA0_11⟩, ⟨rfl, A0_12, c0_12, rfl, hc0_12, hA0_12⟩, ⟨rfl, A0_13, c0_13, rfl, hc0_13, hA0_13⟩, trivial⟩
  have hin : F2 (AV.R (gh0 W [.slice A0_1 a0_1.length c0_1, .slice A0_4 a0_4.length c0_4, .slice A0_5 a0_5.length c0_5, .slice A0_6 a0_6.length c0_6, .slice A0_7 a0_7.length c0_7, .slice A0_9 a0_9.length c0_9, .slice A0_10 a0_10.length c0_10, .slice A0_11 a0_11.length c0_11, .slice A0_12 a0_12.length c0_12, .slice A0_13 a0_13.length c0_13])) [.s1 (.agg [.val (.int .i64 a0_0), .sl 0, .val (.int .i64 a0_2), .val (.int .i64 a0_3), .sl 1, .sl 2, .sl 3, .sl 4, .val (.int .i64 a0_8), .sl 5, .sl 6, .sl 7, .sl 8, .sl 9])] [Value.agg #[(.int .i64 a0_0), (.slice A0_1 a0_1.length c0_1), (.int .i64 a0_2), (.int .i64 a0_3), (.slice A0_4 a0_4.length c0_4), (.slice A0_5 a0_5.length c0_5), (.slice A0_6 a0_6.length c0_6), (.slice A0_7 a0_7.length c0_7), (.int .i64 a0_8), (.slice A0_9 a0_9.length c0_9), (.slice A0_10 a0_10.length c0_10), (.slice A0_11 a0_11.length c0_11), (.slice A0_12 a0_12.length c0_12), (.slice A0_13 a0_13.length c0_13)]] := ⟨⟨_, rfl, ⟨rfl, rfl, rfl, rfl, rfl, rfl, rfl, rfl, rfl, rfl, rfl, rfl, rfl, rfl, trivial⟩⟩, trivial⟩
  have hE : E6 [.s1 (.agg [.val (.int .i64 a0_0), .sl 0, .val (.int .i64 a0_2), .val (.int .i64 a0_3), .sl 1, .sl 2, .sl 3, .sl 4, .val (.int .i64 a0_8), .sl 5, .sl 6, .sl 7, .sl 8, .sl 9])] [] [⟨87, (.int .u64), a0_1, .ro⟩, ⟨185, (.pair (.sl 289 (.pair (.int .i64) (.int .i64))) (.pair (.sl 289 (.pair (.int .i64) (.int .i64))) (.pair (.pair (.int .i64) (.pair (.int .i64) (.int .i64))) (.pair (.int .i64) (.int .i64))))), a0_4, .ro⟩, ⟨194, (.pair (.int .i64) (.pair (.int .i64) (.int .i64))), a0_5, .ro⟩, ⟨196, (.pair (.int .i64) (.pair (.int .i64) (.pair (.int .i64) (.pair (.int .i64) (.int .i64))))), a0_6, .ro⟩, ⟨235, (.pair (.int .i64) (.pair (.int .i64) (.pair (.int .i64) (.int .i64)))), a0_7, .ro⟩, ⟨272, (.pair (.int .i64) .bool), a0_9, .ro⟩, ⟨93, (.pair (.int .i64) (.pair (.int .i64) (.pair (.int .i64) (.pair (.int .i64) (.pair (.int .i64) (.pair (.int .i64) (.pair (.pair (.int .i64) (.int .u64)) (.pair (.int .i64) (.pair (.int .i64) (.sl 3 (.int .i64))))))))))), a0_10, .ro⟩, ⟨3, (.int .i64), a0_11, .ro⟩, ⟨3, (.int .i64), a0_12, .ro⟩, ⟨222, (.pair (.int .i64) (.pair (.int .i64) (.pair (.int .i64) (.pair (.int .i64) (.pair (.sl 307 (.pair (.int .i64) (.pair (.int .i64) (.pair (.int .i64) (.pair (.int .i64) (.pair (.int .i64) (.pair (.int .i64) (.pair (.int .i64) (.pair (.int .i64) (.pair (.sl 3 (.int .i64)) .bool)))))))))) (.sl 310 (.pair (.int .i64) (.pair (.int .i64) (.int .i64))))))))), a0_13, .ro⟩] = some ⟨Bool, L.FnExactEngOk a0_0 a0_2 a0_3 a0_8 a0_1 a0_4 a0_5 a0_6 a0_7 a0_9 a0_10 a0_11 a0_12 a0_13, fun t => resOf sg6.rsk (encP sg6.rks (toA sg6.rks t))⟩ := by kernel_rfl
  refine (good_true good6 (t := true) hE hn (by kernel_rfl) hrs hin).mono fun e W' ⟨he, bel⟩ => ?_
  subst he
  exact ⟨_, rfl, _, _, _, [], _, [], hW', trodAll_mk1 (shut_bool Tryz.underlying4 _), (trodAll_cons_mk (Below.trod laidOut (by kernel_rfl) (of_decide_eq_true (by kernel_rfl)) h0 bel lt0) trodAll_mk0), rfl, bel.frame _, fun h => by cases h⟩
theorem band {a b : Bool} (h1 : a = true) (h2 : b = true) : (a && b) = true := by rw [h1, h2]; rfl
set_option maxHeartbeats 40000000 in
theorem joined : joinedFacts Tryz.pinned.checked.prog 6 Tryz.f6 Rows.fnExactEngOkSpec Rows.fnExactEngOkRow = true := by
  unfold joinedFacts
  refine band (band (band (band (band (band (band (band (band (band (band (band (band (band (band (band (band (band (band (band (band (band (band (band (band (band (band (band (band (band (band ?_ ?_) ?_) ?_) ?_) ?_) ?_) ?_) ?_) ?_) ?_) ?_) ?_) ?_) ?_) ?_) ?_) ?_) ?_) ?_) ?_) ?_) ?_) ?_) ?_) ?_) ?_) ?_) ?_) ?_) ?_) ?_
  all_goals decide +kernel
theorem instOk : Tryz.f6.isInstance Tryz.pinned.checked.prog Rows.fnExactEngOkRow.origin Rows.fnExactEngOkRow.targs := of_decide_eq_true (by kernel_rfl)
theorem wrapOk : Tryz.f6.isWrapper Tryz.pinned.checked.prog Rows.fnExactEngOkRow.wrapper Rows.fnExactEngOkRow.mainSum := by unfold Func.isWrapper; first | (rw [if_pos (by decide +kernel)]; kernel_rfl) | (rw [if_neg (by decide +kernel)]; exact ⟨rfl, rfl⟩)
theorem over : Rows.fnExactEngOkRow.holds Tryz.pinned (OpenSpec.ofChange Rows.fnExactEngOkSpec) :=
  OpenClaim.holds_of_wide 6 Tryz.f6 rfl rfl rfl rfl rfl rfl rfl ⟨rfl, rfl, rfl, rfl, rfl⟩ rfl rfl rfl rfl rfl (by kernel_rfl) Tryz.func6 joined instOk wrapOk
    (fun os started H enc _ => lifted os started H enc)
end Go.Proofs.YtidojhgkpgomcaaGreat.fnExactEngOk
namespace Go.Proofs.YtidojhgkpgomcaaGreat
theorem fnExactEngOk_holds : Rows.FnExactEngOkSaid := fnExactEngOk.over
#print axioms fnExactEngOk_holds
end Go.Proofs.YtidojhgkpgomcaaGreat
