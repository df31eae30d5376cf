/- The row of FnExactSeenBy: for every input the call returns true, and each argument reads as it read before. No condition. -/
import Derived.Test.YthddkomphkanbaaRows
import Derived.Test.YthddkomphkanbaaStmtFnExactSeenBy
import Derived.Test.YthddkomphkanbaaPureFnExactSeenBy
import Derived.Test.YthddkomphkanbaaOpen
import Derived.WalkKit
import Derived.ProofKit
import Derived.OpenShut
import Derived.ShutString
import Derived.ChangeOld
import Derived.Below
import Derived.SizedLaws
namespace Go.Proofs.Ythddkomphkanbaa.fnExactSeenBy
open Go.ChangeShapes Go.WideShapes Go.ChangeAt Go.RowKit Go.Proofs.Ythddkomphkanbaa.Opening Go.Proofs.YthddkomphkanbaaW.PrintWords Go.Proofs.Ythddkomphkanbaa.Vm Go.Proofs.Ythddkomphkanbaa.Run Go.Proofs.Ythddkomphkanbaa.StmtFnExactSeenBy
set_option linter.unusedVariables false
set_option linter.unusedSimpArgs false
theorem own : ownKnob Try.prog.godebug = none := by kernel_rfl
theorem laidOut : laidOutB Try.prog = true := by kernel_rfl
section
variable {H : Type} {enc : TypeId × Value → H} {W : World}
set_option maxRecDepth 100000 in
theorem oE117 : Opens enc Try.prog W 117 (Kd.int .u64) wfE117 := opens_int Try.underlying117
set_option maxRecDepth 100000 in
theorem oE277 : Opens enc Try.prog W 277 (Kd.pair (Kd.int .i64) (Kd.int .i64)) wfE277 := opens_struct0 (total := 2) Try.underlying277 (by kernel_rfl) (opensF_cons (o := 0) (o' := 1) (total := 2) rfl (by kernel_rfl) (opens_int Try.underlying3) (opensF_last (o := 1) (total := 2) rfl (by kernel_rfl) (opens_int Try.underlying3)))
set_option maxRecDepth 100000 in
theorem oE114 : Opens enc Try.prog W 114 (Kd.pair (Kd.slice 277 (Kd.pair (Kd.int .i64) (Kd.int .i64))) (Kd.pair (Kd.slice 277 (Kd.pair (Kd.int .i64) (Kd.int .i64))) (Kd.pair (Kd.pair (Kd.int .i64) (Kd.pair (Kd.int .i64) (Kd.int .i64))) (Kd.pair (Kd.int .i64) (Kd.int .i64))))) wfE114 := opens_struct0 (total := 7) Try.underlying114 (by kernel_rfl) (opensF_cons (o := 0) (o' := 1) (total := 7) rfl (by kernel_rfl) (opens_slice Try.underlying110 (by kernel_rfl) oE277) (opensF_cons (o := 1) (o' := 2) (total := 7) rfl (by kernel_rfl) (opens_slice Try.underlying110 (by kernel_rfl) oE277) (opensF_cons (o := 2) (o' := 5) (total := 7) rfl (by kernel_rfl) (opens_struct0 (total := 3) Try.underlying112 (by kernel_rfl) (opensF_cons (o := 0) (o' := 1) (total := 3) rfl (by kernel_rfl) (opens_int Try.underlying3) (opensF_cons (o := 1) (o' := 2) (total := 3) rfl (by kernel_rfl) (opens_int Try.underlying3) (opensF_last (o := 2) (total := 3) rfl (by kernel_rfl) (opens_int Try.underlying3))))) (opensF_cons (o := 5) (o' := 6) (total := 7) rfl (by kernel_rfl) (opens_int Try.underlying3) (opensF_last (o := 6) (total := 7) rfl (by kernel_rfl) (opens_int Try.underlying3))))))
set_option maxRecDepth 100000 in
theorem oE255 : Opens enc Try.prog W 255 (Kd.pair (Kd.int .i64) (Kd.pair (Kd.int .i64) (Kd.int .i64))) wfE255 := opens_struct0 (total := 3) Try.underlying255 (by kernel_rfl) (opensF_cons (o := 0) (o' := 1) (total := 3) rfl (by kernel_rfl) (opens_int Try.underlying3) (opensF_cons (o := 1) (o' := 2) (total := 3) rfl (by kernel_rfl) (opens_int Try.underlying3) (opensF_last (o := 2) (total := 3) rfl (by kernel_rfl) (opens_int Try.underlying3))))
set_option maxRecDepth 100000 in
theorem oE257 : Opens enc Try.prog W 257 (Kd.pair (Kd.int .i64) (Kd.pair (Kd.int .i64) (Kd.pair (Kd.int .i64) (Kd.pair (Kd.int .i64) (Kd.int .i64))))) wfE257 := opens_struct0 (total := 5) Try.underlying257 (by kernel_rfl) (opensF_cons (o := 0) (o' := 1) (total := 5) rfl (by kernel_rfl) (opens_int Try.underlying3) (opensF_cons (o := 1) (o' := 2) (total := 5) rfl (by kernel_rfl) (opens_int Try.underlying3) (opensF_cons (o := 2) (o' := 3) (total := 5) rfl (by kernel_rfl) (opens_int Try.underlying3) (opensF_cons (o := 3) (o' := 4) (total := 5) rfl (by kernel_rfl) (opens_int Try.underlying3) (opensF_last (o := 4) (total := 5) rfl (by kernel_rfl) (opens_int Try.underlying3))))))
set_option maxRecDepth 100000 in
theorem oE204 : Opens enc Try.prog W 204 (Kd.pair (Kd.int .i64) (Kd.pair (Kd.pair (Kd.int .i64) (Kd.pair (Kd.int .i64) (Kd.pair (Kd.int .i64) (Kd.int .i64)))) (Kd.int .i64))) wfE204 := opens_struct0 (total := 6) Try.underlying204 (by kernel_rfl) (opensF_cons (o := 0) (o' := 1) (total := 6) rfl (by kernel_rfl) (opens_int Try.underlying3) (opensF_cons (o := 1) (o' := 5) (total := 6) rfl (by kernel_rfl) (opens_struct0 (total := 4) Try.underlying202 (by kernel_rfl) (opensF_cons (o := 0) (o' := 1) (total := 4) rfl (by kernel_rfl) (opens_int Try.underlying3) (opensF_cons (o := 1) (o' := 2) (total := 4) rfl (by kernel_rfl) (opens_int Try.underlying3) (opensF_cons (o := 2) (o' := 3) (total := 4) rfl (by kernel_rfl) (opens_int Try.underlying3) (opensF_last (o := 3) (total := 4) rfl (by kernel_rfl) (opens_int Try.underlying3)))))) (opensF_last (o := 5) (total := 6) rfl (by kernel_rfl) (opens_int Try.underlying3))))
end
set_option maxRecDepth 100000 in
theorem lifted (os : Os) (started : os.Started) (H : Type) (enc : TypeId × Value → H) :
    ReturnsInHanded {} Try.checked os 11 .any (Rows.fnExactSeenBySpec.pre6 enc Try.prog Try.f11 Rows.fnExactSeenByRow.domain false) (Rows.fnExactSeenBySpec.post enc Try.prog Try.f11 false true false false) := by
  refine returnsInHanded_of_change_sized (C := Try.checked) own started (by kernel_rfl) Try.func11
    (ChangeSpec.witness6 (enc := enc) (C := Try.checked) false ⟨#[], #[.agg #[.int .i64 0, .slice none 0 0, .int .i64 0, .int .i64 0, .slice none 0 0, .slice none 0 0, .slice none 0 0], .slice none 0 0, .int .i64 0], []⟩ 8 (by kernel_rfl) (by kernel_rfl) (by kernel_rfl) (by kernel_rfl)) ?_
  intro W base args ds gs before hval0 hW hcnd hsz0 _
  have hval : ∀ (j : Nat) t v, Try.f11.params[j]? = some t → args[j]? = some v → Value.okWide Try.prog W .any base t v := hval0
  have hW' := hW
  obtain ⟨p, q, hA0, hV, rfl, hfz, hnd⟩ := hW
  have hA : DataW.TrodAll enc Try.prog W 0 (fun _ => true) true Try.f11.params.toList args.toList ds p := hA0
  rw [Try.params11] at hA hval
  obtain ⟨v0, vs0, d0, ds0, p0, q0, hargs, rfl, rfl, h0, r0⟩ := trodAll_cons hA
  obtain ⟨v1, vs1, d1, ds1, p1, q1, rfl, rfl, rfl, h1, r1⟩ := trodAll_cons r0
  obtain ⟨v2, vs2, d2, ds2, p2, q2, rfl, rfl, rfl, h2, r2⟩ := trodAll_cons r1
  obtain ⟨rfl, rfl, rfl⟩ := trodAll_nil r2
  obtain rfl : args = #[v0, v1, v2] := by cases args; simp_all
  obtain ⟨rfl, rfl⟩ := trodVars_none hV
  have lt0 : ∀ x ∈ p0, x.block < W.heap.size := by obtain ⟨m, hm⟩ := h0; exact DataW.trod_lt m _ _ _ hm
  obtain ⟨x0, hK0, hw0⟩ := opens_arg (opens_struct0 (total := 7) Try.underlying90 (by kernel_rfl) (opensF_cons (o := 0) (o' := 2) (total := 7) rfl (by kernel_rfl) (opens_struct0 (total := 2) Try.underlying44 (by kernel_rfl) (opensF_cons (o := 0) (o' := 1) (total := 2) rfl (by kernel_rfl) (opens_int Try.underlying3) (opensF_last (o := 1) (total := 2) rfl (by kernel_rfl) (opens_slice Try.underlying42 (by kernel_rfl) oE117)))) (opensF_cons (o := 2) (o' := 3) (total := 7) rfl (by kernel_rfl) (opens_int Try.underlying3) (opensF_cons (o := 3) (o' := 4) (total := 7) rfl (by kernel_rfl) (opens_int Try.underlying3) (opensF_cons (o := 4) (o' := 5) (total := 7) rfl (by kernel_rfl) (opens_slice Try.underlying86 (by kernel_rfl) oE114) (opensF_cons (o := 5) (o' := 6) (total := 7) rfl (by kernel_rfl) (opens_slice Try.underlying87 (by kernel_rfl) oE255) (opensF_last (o := 6) (total := 7) rfl (by kernel_rfl) (opens_slice Try.underlying88 (by kernel_rfl) oE257)))))))) h0
  obtain ⟨cs0, rfl, hcs0⟩ := arg_struct Try.underlying90 (hval 0 90 v0 rfl rfl)
  rw [hcs0] at hK0
  obtain ⟨⟨a0_0, a0_1⟩, ⟨a0_2, ⟨a0_3, ⟨a0_4, ⟨a0_5, a0_6⟩⟩⟩⟩⟩ := x0
  obtain ⟨⟨wa0_0, wa0_1⟩, ⟨wa0_2, ⟨wa0_3, ⟨wa0_4, ⟨wa0_5, wa0_6⟩⟩⟩⟩⟩ := hw0
  obtain ⟨cp0_1, cq0_1, ee0_1, hp0_1, hq0_1⟩ := hK0
  obtain ⟨cp0_2, cq0_2, ee0_2, hp0_2, hq0_2⟩ := hp0_1
  have ea0_0 := hp0_2
  obtain ⟨A0_1, c0_1, ea0_1, hc0_1, hA0_1⟩ := hq0_2
  obtain ⟨cp0_3, cq0_3, ee0_3, hp0_3, hq0_3⟩ := hq0_1
  have ea0_2 := hp0_3
  obtain ⟨cp0_4, cq0_4, ee0_4, hp0_4, hq0_4⟩ := hq0_3
  have ea0_3 := hp0_4
  obtain ⟨cp0_5, cq0_5, ee0_5, hp0_5, hq0_5⟩ := hq0_4
  obtain ⟨A0_4, c0_4, ea0_4, hc0_4, hA0_4⟩ := hp0_5
  obtain ⟨cp0_6, cq0_6, ee0_6, hp0_6, hq0_6⟩ := hq0_5
  obtain ⟨A0_5, c0_5, ea0_5, hc0_5, hA0_5⟩ := hp0_6
  obtain ⟨A0_6, c0_6, ea0_6, hc0_6, hA0_6⟩ := hq0_6
  obtain rfl : cs0 = #[.int .i64 a0_0, .slice A0_1 a0_1.length c0_1, .int .i64 a0_2, .int .i64 a0_3, .slice A0_4 a0_4.length c0_4, .slice A0_5 a0_5.length c0_5, .slice A0_6 a0_6.length c0_6] := by
    have hl : cs0.toList = [.int .i64 a0_0, .slice A0_1 a0_1.length c0_1, .int .i64 a0_2, .int .i64 a0_3, .slice A0_4 a0_4.length c0_4, .slice A0_5 a0_5.length c0_5, .slice A0_6 a0_6.length c0_6] := by rw [ee0_1, ee0_2, ea0_0, ea0_1, ee0_3, ea0_2, ee0_4, ea0_3, ee0_5, ea0_4, ee0_6, ea0_5, ea0_6]; rfl
    cases cs0
    simpa using hl
  have lt1 : ∀ x ∈ p1, x.block < W.heap.size := by obtain ⟨m, hm⟩ := h1; exact DataW.trod_lt m _ _ _ hm
  obtain ⟨a1, hK1, wa1⟩ := opens_arg (opens_slice Try.underlying91 (by kernel_rfl) oE204) h1
  obtain ⟨A1, n1, c1, rfl⟩ := okWide_slice Try.underlying91 (hval 1 91 v1 rfl rfl)
  obtain ⟨A_, c_, e_, hc1, hA1⟩ := hK1
  simp [Value.cells] at e_
  obtain ⟨rfl, rfl, rfl⟩ := e_
  have lt2 : ∀ x ∈ p2, x.block < W.heap.size := by obtain ⟨m, hm⟩ := h2; exact DataW.trod_lt m _ _ _ hm
  obtain ⟨a2, hK2, wa2⟩ := opens_arg (opens_int Try.underlying3) h2
  obtain ⟨y2, rfl⟩ := okWide_int Try.underlying3 (hval 2 3 v2 rfl rfl)
  have e_ : [Value.int .i64 y2] = [Value.int .i64 a2] := hK2
  simp at e_
  subst y2
  clear hA0 hval0 hsz0
  have hn := Pure.FnExactSeenBy a0_0 a0_1 a0_2 a0_3 a0_4 a0_5 a0_6 a1 a2 wa0_0 wa0_1 wa0_2 wa0_3 wa0_4 wa0_5 wa0_6 wa1 wa2
  have hrs : F2 (RoAs W) [⟨117, (.int .u64), a0_1, .ro⟩, ⟨114, (.pair (.sl 277 (.pair (.int .i64) (.int .i64))) (.pair (.sl 277 (.pair (.int .i64) (.int .i64))) (.pair (.pair (.int .i64) (.pair (.int .i64) (.int .i64))) (.pair (.int .i64) (.int .i64))))), a0_4, .ro⟩, ⟨255, (.pair (.int .i64) (.pair (.int .i64) (.int .i64))), a0_5, .ro⟩, ⟨257, (.pair (.int .i64) (.pair (.int .i64) (.pair (.int .i64) (.pair (.int .i64) (.int .i64))))), a0_6, .ro⟩, ⟨204, (.pair (.int .i64) (.pair (.pair (.int .i64) (.pair (.int .i64) (.pair (.int .i64) (.int .i64)))) (.int .i64))), a1, .ro⟩] [.slice A0_1 a0_1.length c0_1, .slice A0_4 a0_4.length c0_4, .slice A0_5 a0_5.length c0_5, .slice A0_6 a0_6.length c0_6, .slice A1 a1.length c1] := ⟨⟨rfl, A0_1, c0_1, rfl, hc0_1, hA0_1⟩, ⟨rfl, A0_4, c0_4, rfl, hc0_4, hA0_4⟩, ⟨rfl, A0_5, c0_5, rfl, hc0_5, hA0_5⟩, ⟨rfl, A0_6, c0_6, rfl, hc0_6, hA0_6⟩, ⟨rfl, A1, c1, rfl, hc1, hA1⟩, trivial⟩
  have hin : F2 (AV.R (gh0 W [.slice A0_1 a0_1.length c0_1, .slice A0_4 a0_4.length c0_4, .slice A0_5 a0_5.length c0_5, .slice A0_6 a0_6.length c0_6, .slice A1 a1.length c1])) [.s1 (.agg [.val (.int .i64 a0_0), .sl 0, .val (.int .i64 a0_2), .val (.int .i64 a0_3), .sl 1, .sl 2, .sl 3]), .s1 (.one (.sl 4)), .s1 (.one (.val (.int .i64 a2)))] [Value.agg #[(.int .i64 a0_0), (.slice A0_1 a0_1.length c0_1), (.int .i64 a0_2), (.int .i64 a0_3), (.slice A0_4 a0_4.length c0_4), (.slice A0_5 a0_5.length c0_5), (.slice A0_6 a0_6.length c0_6)], ((.slice A1 a1.length c1) : Value), ((.int .i64 a2) : Value)] := ⟨⟨_, rfl, ⟨rfl, rfl, rfl, rfl, rfl, rfl, rfl, trivial⟩⟩, rfl, rfl, trivial⟩
  refine (good_true good11 (args := [.s1 (.agg [.val (.int .i64 a0_0), .sl 0, .val (.int .i64 a0_2), .val (.int .i64 a0_3), .sl 1, .sl 2, .sl 3]), .s1 (.one (.sl 4)), .s1 (.one (.val (.int .i64 a2)))]) (rs := [⟨117, (.int .u64), a0_1, .ro⟩, ⟨114, (.pair (.sl 277 (.pair (.int .i64) (.int .i64))) (.pair (.sl 277 (.pair (.int .i64) (.int .i64))) (.pair (.pair (.int .i64) (.pair (.int .i64) (.int .i64))) (.pair (.int .i64) (.int .i64))))), a0_4, .ro⟩, ⟨255, (.pair (.int .i64) (.pair (.int .i64) (.int .i64))), a0_5, .ro⟩, ⟨257, (.pair (.int .i64) (.pair (.int .i64) (.pair (.int .i64) (.pair (.int .i64) (.int .i64))))), a0_6, .ro⟩, ⟨204, (.pair (.int .i64) (.pair (.pair (.int .i64) (.pair (.int .i64) (.pair (.int .i64) (.int .i64)))) (.int .i64))), a1, .ro⟩]) (out := ⟨Bool, L.FnExactSeenBy a0_0 a0_2 a0_3 a2 a0_1 a0_4 a0_5 a0_6 a1, R11⟩) (t := true) rfl hn rfl hrs hin).mono fun e W' ⟨he, bel⟩ => ?_
  subst he
  exact ⟨_, rfl, _, _, _, [], _, [], hW', trodAll_mk1 (shut_bool Try.underlying4 _), (trodAll_cons_mk (Below.trod laidOut (by kernel_rfl) (of_decide_eq_true (by kernel_rfl)) h0 bel lt0) (trodAll_cons_mk (Below.trod laidOut (by kernel_rfl) (of_decide_eq_true (by kernel_rfl)) h1 bel lt1) (trodAll_cons_mk (Below.trod laidOut (by kernel_rfl) (of_decide_eq_true (by kernel_rfl)) h2 bel lt2) trodAll_mk0))), rfl, bel.frame _, fun h => by cases h⟩
theorem joined : joinedFacts Try.pinned.checked.prog 11 Try.f11 Rows.fnExactSeenBySpec Rows.fnExactSeenByRow = true := by kernel_rfl
theorem instOk : Try.f11.isInstance Try.pinned.checked.prog Rows.fnExactSeenByRow.origin Rows.fnExactSeenByRow.targs := of_decide_eq_true (by kernel_rfl)
theorem wrapOk : Try.f11.isWrapper Try.pinned.checked.prog Rows.fnExactSeenByRow.wrapper Rows.fnExactSeenByRow.mainSum := by unfold Func.isWrapper; first | (rw [if_pos (by decide +kernel)]; kernel_rfl) | (rw [if_neg (by decide +kernel)]; exact ⟨rfl, rfl⟩)
theorem over : Rows.fnExactSeenByRow.holds Try.pinned (OpenSpec.ofChange Rows.fnExactSeenBySpec) :=
  OpenClaim.holds_of_wide 11 Try.f11 rfl rfl rfl rfl rfl rfl rfl ⟨rfl, rfl, rfl, rfl, rfl⟩ rfl rfl rfl rfl rfl (by kernel_rfl) Try.func11 joined instOk wrapOk
    (fun os started H enc _ => lifted os started H enc)
end Go.Proofs.Ythddkomphkanbaa.fnExactSeenBy
namespace Go.Proofs.Ythddkomphkanbaa
/-- The row, under a short name, for the claim. -/
theorem fnExactSeenBy_holds : Rows.FnExactSeenBySaid := fnExactSeenBy.over
#print axioms fnExactSeenBy_holds
end Go.Proofs.Ythddkomphkanbaa
