/- The row of FnExactEngNew: for every input the call returns true, and each argument reads as it read before. No condition. -/
import Derived.Test.YtidojhgkpgomcaaGreatRows
import Derived.Test.YtidojhgkpgomcaaGreatStmtFnExactEngNew
import Derived.Test.YtidojhgkpgomcaaGreatPureFnExactEngNew
import Derived.Test.YtidojhgkpgomcaaGreatOpen
import Derived.WalkKit
import Derived.ProofKit
import Derived.OpenShut
import Derived.ShutString
import Derived.ChangeOld
import Derived.Below
import Derived.SizedLaws
namespace Go.Proofs.YtidojhgkpgomcaaGreat.fnExactEngNew
open Go.ChangeShapes Go.WideShapes Go.ChangeAt Go.RowKit Go.Proofs.YtidojhgkpgomcaaGreat.Opening Go.Proofs.YtidojhgkpgomcaaGreatW.PrintWords Go.Proofs.YtidojhgkpgomcaaGreat.Vm Go.Proofs.YtidojhgkpgomcaaGreat.Run Go.Proofs.YtidojhgkpgomcaaGreat.StmtFnExactEngNew
set_option linter.unusedVariables false
set_option linter.unusedSimpArgs false
theorem own : ownKnob Tryz.prog.godebug = none := by kernel_rfl
theorem laidOut : laidOutB Tryz.prog = true := by kernel_rfl
section
variable {H : Type} {enc : TypeId × Value → H} {W : World}
set_option maxRecDepth 100000 in
theorem oE87 : Opens enc Tryz.prog W 87 (Kd.int .u64) wfE87 := opens_int Tryz.underlying87
set_option maxRecDepth 100000 in
theorem oE289 : Opens enc Tryz.prog W 289 (Kd.pair (Kd.int .i64) (Kd.int .i64)) wfE289 := opens_struct0 (total := 2) Tryz.underlying289 (by kernel_rfl) (opensF_cons (o := 0) (o' := 1) (total := 2) rfl (by kernel_rfl) (opens_int Tryz.underlying3) (opensF_last (o := 1) (total := 2) rfl (by kernel_rfl) (opens_int Tryz.underlying3)))
set_option maxRecDepth 100000 in
theorem oE185 : Opens enc Tryz.prog W 185 (Kd.pair (Kd.slice 289 (Kd.pair (Kd.int .i64) (Kd.int .i64))) (Kd.pair (Kd.slice 289 (Kd.pair (Kd.int .i64) (Kd.int .i64))) (Kd.pair (Kd.pair (Kd.int .i64) (Kd.pair (Kd.int .i64) (Kd.int .i64))) (Kd.pair (Kd.int .i64) (Kd.int .i64))))) wfE185 := opens_struct0 (total := 7) Tryz.underlying185 (by kernel_rfl) (opensF_cons (o := 0) (o' := 1) (total := 7) rfl (by kernel_rfl) (opens_slice Tryz.underlying183 (by kernel_rfl) oE289) (opensF_cons (o := 1) (o' := 2) (total := 7) rfl (by kernel_rfl) (opens_slice Tryz.underlying183 (by kernel_rfl) oE289) (opensF_cons (o := 2) (o' := 5) (total := 7) rfl (by kernel_rfl) (opens_struct0 (total := 3) Tryz.underlying24 (by kernel_rfl) (opensF_cons (o := 0) (o' := 1) (total := 3) rfl (by kernel_rfl) (opens_int Tryz.underlying3) (opensF_cons (o := 1) (o' := 2) (total := 3) rfl (by kernel_rfl) (opens_int Tryz.underlying3) (opensF_last (o := 2) (total := 3) rfl (by kernel_rfl) (opens_int Tryz.underlying3))))) (opensF_cons (o := 5) (o' := 6) (total := 7) rfl (by kernel_rfl) (opens_int Tryz.underlying3) (opensF_last (o := 6) (total := 7) rfl (by kernel_rfl) (opens_int Tryz.underlying3))))))
set_option maxRecDepth 100000 in
theorem oE194 : Opens enc Tryz.prog W 194 (Kd.pair (Kd.int .i64) (Kd.pair (Kd.int .i64) (Kd.int .i64))) wfE194 := opens_struct0 (total := 3) Tryz.underlying194 (by kernel_rfl) (opensF_cons (o := 0) (o' := 1) (total := 3) rfl (by kernel_rfl) (opens_int Tryz.underlying3) (opensF_cons (o := 1) (o' := 2) (total := 3) rfl (by kernel_rfl) (opens_int Tryz.underlying3) (opensF_last (o := 2) (total := 3) rfl (by kernel_rfl) (opens_int Tryz.underlying3))))
set_option maxRecDepth 100000 in
theorem oE196 : Opens enc Tryz.prog W 196 (Kd.pair (Kd.int .i64) (Kd.pair (Kd.int .i64) (Kd.pair (Kd.int .i64) (Kd.pair (Kd.int .i64) (Kd.int .i64))))) wfE196 := opens_struct0 (total := 5) Tryz.underlying196 (by kernel_rfl) (opensF_cons (o := 0) (o' := 1) (total := 5) rfl (by kernel_rfl) (opens_int Tryz.underlying3) (opensF_cons (o := 1) (o' := 2) (total := 5) rfl (by kernel_rfl) (opens_int Tryz.underlying3) (opensF_cons (o := 2) (o' := 3) (total := 5) rfl (by kernel_rfl) (opens_int Tryz.underlying3) (opensF_cons (o := 3) (o' := 4) (total := 5) rfl (by kernel_rfl) (opens_int Tryz.underlying3) (opensF_last (o := 4) (total := 5) rfl (by kernel_rfl) (opens_int Tryz.underlying3))))))
end
set_option maxRecDepth 100000 in
theorem lifted (os : Os) (started : os.Started) (H : Type) (enc : TypeId × Value → H) :
    ReturnsInHanded {} Tryz.checked os 4 .any (Rows.fnExactEngNewSpec.pre6 enc Tryz.prog Tryz.f4 Rows.fnExactEngNewRow.domain false) (Rows.fnExactEngNewSpec.post enc Tryz.prog Tryz.f4 false true false false) := by
  refine returnsInHanded_of_change_sized (C := Tryz.checked) own started (by kernel_rfl) Tryz.func4
    (ChangeSpec.witness6 (enc := enc) (C := Tryz.checked) false ⟨#[], #[.agg #[.int .i64 0, .slice none 0 0, .int .i64 0, .int .i64 0, .slice none 0 0, .slice none 0 0, .slice none 0 0]], []⟩ 8 (by kernel_rfl) (by kernel_rfl) (by kernel_rfl) (by kernel_rfl)) ?_
  intro W base args ds gs before hval0 hW hcnd hsz0 _
  have hval : ∀ (j : Nat) t v, Tryz.f4.params[j]? = some t → args[j]? = some v → Value.okWide Tryz.prog W .any base t v := hval0
  have hW' := hW
  obtain ⟨p, q, hA0, hV, rfl, hfz, hnd⟩ := hW
  have hA : DataW.TrodAll enc Tryz.prog W 0 (fun _ => true) true Tryz.f4.params.toList args.toList ds p := hA0
  rw [Tryz.params4] at hA hval
  obtain ⟨v0, vs0, d0, ds0, p0, q0, hargs, rfl, rfl, h0, r0⟩ := trodAll_cons hA
  obtain ⟨rfl, rfl, rfl⟩ := trodAll_nil r0
  obtain rfl : args = #[v0] := by cases args; simp_all
  obtain ⟨rfl, rfl⟩ := trodVars_none hV
  have lt0 : ∀ x ∈ p0, x.block < W.heap.size := by obtain ⟨m, hm⟩ := h0; exact DataW.trod_lt m _ _ _ hm
  obtain ⟨x0, hK0, hw0⟩ := opens_arg (opens_struct0 (total := 7) Tryz.underlying42 (by kernel_rfl) (opensF_cons (o := 0) (o' := 2) (total := 7) rfl (by kernel_rfl) (opens_struct0 (total := 2) Tryz.underlying37 (by kernel_rfl) (opensF_cons (o := 0) (o' := 1) (total := 2) rfl (by kernel_rfl) (opens_int Tryz.underlying3) (opensF_last (o := 1) (total := 2) rfl (by kernel_rfl) (opens_slice Tryz.underlying35 (by kernel_rfl) oE87)))) (opensF_cons (o := 2) (o' := 3) (total := 7) rfl (by kernel_rfl) (opens_int Tryz.underlying3) (opensF_cons (o := 3) (o' := 4) (total := 7) rfl (by kernel_rfl) (opens_int Tryz.underlying3) (opensF_cons (o := 4) (o' := 5) (total := 7) rfl (by kernel_rfl) (opens_slice Tryz.underlying38 (by kernel_rfl) oE185) (opensF_cons (o := 5) (o' := 6) (total := 7) rfl (by kernel_rfl) (opens_slice Tryz.underlying39 (by kernel_rfl) oE194) (opensF_last (o := 6) (total := 7) rfl (by kernel_rfl) (opens_slice Tryz.underlying40 (by kernel_rfl) oE196)))))))) h0
  obtain ⟨cs0, rfl, hcs0⟩ := arg_struct Tryz.underlying42 (hval 0 42 v0 rfl rfl)
  rw [hcs0] at hK0
  obtain ⟨⟨a0_0, a0_1⟩, ⟨a0_2, ⟨a0_3, ⟨a0_4, ⟨a0_5, a0_6⟩⟩⟩⟩⟩ := x0
  obtain ⟨⟨wa0_0, wa0_1⟩, ⟨wa0_2, ⟨wa0_3, ⟨wa0_4, ⟨wa0_5, wa0_6⟩⟩⟩⟩⟩ := hw0
  obtain ⟨cp0_1, cq0_1, ee0_1, hp0_1, hq0_1⟩ := hK0
  obtain ⟨cp0_2, cq0_2, ee0_2, hp0_2, hq0_2⟩ := hp0_1
  have ea0_0 := hp0_2
  obtain ⟨A0_1, c0_1, ea0_1, hc0_1, hA0_1⟩ := hq0_2
  obtain ⟨cp0_3, cq0_3, ee0_3, hp0_3, hq0_3⟩ := hq0_1
  have ea0_2 := hp0_3
  obtain ⟨cp0_4, cq0_4, ee0_4, hp0_4, hq0_4⟩ := hq0_3
  have ea0_3 := hp0_4
  obtain ⟨cp0_5, cq0_5, ee0_5, hp0_5, hq0_5⟩ := hq0_4
  obtain ⟨A0_4, c0_4, ea0_4, hc0_4, hA0_4⟩ := hp0_5
  obtain ⟨cp0_6, cq0_6, ee0_6, hp0_6, hq0_6⟩ := hq0_5
  obtain ⟨A0_5, c0_5, ea0_5, hc0_5, hA0_5⟩ := hp0_6
  obtain ⟨A0_6, c0_6, ea0_6, hc0_6, hA0_6⟩ := hq0_6
  obtain rfl : cs0 = #[.int .i64 a0_0, .slice A0_1 a0_1.length c0_1, .int .i64 a0_2, .int .i64 a0_3, .slice A0_4 a0_4.length c0_4, .slice A0_5 a0_5.length c0_5, .slice A0_6 a0_6.length c0_6] := by
    have hl : cs0.toList = [.int .i64 a0_0, .slice A0_1 a0_1.length c0_1, .int .i64 a0_2, .int .i64 a0_3, .slice A0_4 a0_4.length c0_4, .slice A0_5 a0_5.length c0_5, .slice A0_6 a0_6.length c0_6] := by rw [ee0_1, ee0_2, ea0_0, ea0_1, ee0_3, ea0_2, ee0_4, ea0_3, ee0_5, ea0_4, ee0_6, ea0_5, ea0_6]; rfl
    cases cs0
    simpa using hl
  clear hA0 hval0 hsz0
  have hn := Pure.FnExactEngNew a0_0 a0_1 a0_2 a0_3 a0_4 a0_5 a0_6 wa0_0 wa0_1 wa0_2 wa0_3 wa0_4 wa0_5 wa0_6
  have hrs : F2 (RoAs W) [⟨87, (.int .u64), a0_1, .ro⟩, ⟨185, (.pair (.sl 289 (.pair (.int .i64) (.int .i64))) (.pair (.sl 289 (.pair (.int .i64) (.int .i64))) (.pair (.pair (.int .i64) (.pair (.int .i64) (.int .i64))) (.pair (.int .i64) (.int .i64))))), a0_4, .ro⟩, ⟨194, (.pair (.int .i64) (.pair (.int .i64) (.int .i64))), a0_5, .ro⟩, ⟨196, (.pair (.int .i64) (.pair (.int .i64) (.pair (.int .i64) (.pair (.int .i64) (.int .i64))))), a0_6, .ro⟩] [.slice A0_1 a0_1.length c0_1, .slice A0_4 a0_4.length c0_4, .slice A0_5 a0_5.length c0_5, .slice A0_6 a0_6.length c0_6] := ⟨⟨rfl, A0_1, c0_1, rfl, hc0_1, hA0_1⟩, ⟨rfl, A0_4, c0_4, rfl, hc0_4, hA0_4⟩, ⟨rfl, A0_5, c0_5, rfl, hc0_5, hA0_5⟩, ⟨rfl, A0_6, c0_6, rfl, hc0_6, hA0_6⟩, trivial⟩
  have hin : F2 (AV.R (gh0 W [.slice A0_1 a0_1.length c0_1, .slice A0_4 a0_4.length c0_4, .slice A0_5 a0_5.length c0_5, .slice A0_6 a0_6.length c0_6])) [.s1 (.agg [.val (.int .i64 a0_0), .sl 0, .val (.int .i64 a0_2), .val (.int .i64 a0_3), .sl 1, .sl 2, .sl 3])] [Value.agg #[(.int .i64 a0_0), (.slice A0_1 a0_1.length c0_1), (.int .i64 a0_2), (.int .i64 a0_3), (.slice A0_4 a0_4.length c0_4), (.slice A0_5 a0_5.length c0_5), (.slice A0_6 a0_6.length c0_6)]] := ⟨⟨_, rfl, ⟨rfl, rfl, rfl, rfl, rfl, rfl, rfl, trivial⟩⟩, trivial⟩
  have hE : E4 [.s1 (.agg [.val (.int .i64 a0_0), .sl 0, .val (.int .i64 a0_2), .val (.int .i64 a0_3), .sl 1, .sl 2, .sl 3])] [] [⟨87, (.int .u64), a0_1, .ro⟩, ⟨185, (.pair (.sl 289 (.pair (.int .i64) (.int .i64))) (.pair (.sl 289 (.pair (.int .i64) (.int .i64))) (.pair (.pair (.int .i64) (.pair (.int .i64) (.int .i64))) (.pair (.int .i64) (.int .i64))))), a0_4, .ro⟩, ⟨194, (.pair (.int .i64) (.pair (.int .i64) (.int .i64))), a0_5, .ro⟩, ⟨196, (.pair (.int .i64) (.pair (.int .i64) (.pair (.int .i64) (.pair (.int .i64) (.int .i64))))), a0_6, .ro⟩] = some ⟨Bool, L.FnExactEngNew a0_0 a0_2 a0_3 a0_1 a0_4 a0_5 a0_6, fun t => resOf sg4.rsk (encP sg4.rks (toA sg4.rks t))⟩ := by kernel_rfl
  refine (good_true good4 (t := true) hE hn (by kernel_rfl) hrs hin).mono fun e W' ⟨he, bel⟩ => ?_
  subst he
  exact ⟨_, rfl, _, _, _, [], _, [], hW', trodAll_mk1 (shut_bool Tryz.underlying4 _), (trodAll_cons_mk (Below.trod laidOut (by kernel_rfl) (of_decide_eq_true (by kernel_rfl)) h0 bel lt0) trodAll_mk0), rfl, bel.frame _, fun h => by cases h⟩
theorem joined : joinedFacts Tryz.pinned.checked.prog 4 Tryz.f4 Rows.fnExactEngNewSpec Rows.fnExactEngNewRow = true := by kernel_rfl
theorem instOk : Tryz.f4.isInstance Tryz.pinned.checked.prog Rows.fnExactEngNewRow.origin Rows.fnExactEngNewRow.targs := of_decide_eq_true (by kernel_rfl)
theorem wrapOk : Tryz.f4.isWrapper Tryz.pinned.checked.prog Rows.fnExactEngNewRow.wrapper Rows.fnExactEngNewRow.mainSum := by unfold Func.isWrapper; first | (rw [if_pos (by decide +kernel)]; kernel_rfl) | (rw [if_neg (by decide +kernel)]; exact ⟨rfl, rfl⟩)
theorem over : Rows.fnExactEngNewRow.holds Tryz.pinned (OpenSpec.ofChange Rows.fnExactEngNewSpec) :=
  OpenClaim.holds_of_wide 4 Tryz.f4 rfl rfl rfl rfl rfl rfl rfl ⟨rfl, rfl, rfl, rfl, rfl⟩ rfl rfl rfl rfl rfl (by kernel_rfl) Tryz.func4 joined instOk wrapOk
    (fun os started H enc _ => lifted os started H enc)
end Go.Proofs.YtidojhgkpgomcaaGreat.fnExactEngNew
namespace Go.Proofs.YtidojhgkpgomcaaGreat
theorem fnExactEngNew_holds : Rows.FnExactEngNewSaid := fnExactEngNew.over
#print axioms fnExactEngNew_holds
end Go.Proofs.YtidojhgkpgomcaaGreat
