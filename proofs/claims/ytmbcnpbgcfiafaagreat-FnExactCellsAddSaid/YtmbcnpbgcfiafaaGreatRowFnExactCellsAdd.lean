/- The row of FnExactCellsAdd: for every input the call returns true, and each argument reads as it read before. No condition. -/
import Derived.Test.YtmbcnpbgcfiafaaGreatRows
import Derived.Test.YtmbcnpbgcfiafaaGreatStmtFnExactCellsAdd
import Derived.Test.YtmbcnpbgcfiafaaGreatPureFnExactCellsAdd
import Derived.Test.YtmbcnpbgcfiafaaGreatOpen
import Derived.WalkKit
import Derived.ProofKit
import Derived.OpenShut
import Derived.ShutString
import Derived.ChangeOld
import Derived.Below
import Derived.SizedLaws
import Derived.LaidLaws
namespace Go.Proofs.YtmbcnpbgcfiafaaGreat.fnExactCellsAdd
open Go.ChangeShapes Go.WideShapes Go.ChangeAt Go.RowKit Go.Proofs.YtmbcnpbgcfiafaaGreat.Opening Go.Proofs.YtmbcnpbgcfiafaaGreatW.PrintWords Go.Proofs.YtmbcnpbgcfiafaaGreat.Vm Go.Proofs.YtmbcnpbgcfiafaaGreat.Run Go.Proofs.YtmbcnpbgcfiafaaGreat.StmtFnExactCellsAdd
set_option linter.unusedVariables false
set_option linter.unusedSimpArgs false
theorem own : ownKnob Tryz.prog.godebug = none := by kernel_rfl
theorem laidOut : laidOutB Tryz.prog = true := by kernel_rfl
section
variable {H : Type} {enc : TypeId × Value → H} {W : World}
set_option maxRecDepth 100000 in
theorem oE3 : Opens enc Tryz.prog W 3 (Kd.int .i64) wfE3 := opens_int Tryz.underlying3
set_option maxRecDepth 100000 in
theorem oE101 : Opens enc Tryz.prog W 101 (Kd.pair (Kd.int .i64) (Kd.pair (Kd.int .i64) (Kd.pair (Kd.int .i64) (Kd.pair (Kd.int .i64) (Kd.pair (Kd.int .i64) (Kd.pair (Kd.int .i64) (Kd.pair (Kd.pair (Kd.int .i64) (Kd.int .u64)) (Kd.pair (Kd.int .i64) (Kd.pair (Kd.int .i64) (Kd.slice 3 (Kd.int .i64))))))))))) wfE101 := opens_struct0 (total := 11) Tryz.underlying101 (by kernel_rfl) (opensF_cons (o := 0) (o' := 1) (total := 11) rfl (by kernel_rfl) (opens_int Tryz.underlying3) (opensF_cons (o := 1) (o' := 2) (total := 11) rfl (by kernel_rfl) (opens_int Tryz.underlying3) (opensF_cons (o := 2) (o' := 3) (total := 11) rfl (by kernel_rfl) (opens_int Tryz.underlying3) (opensF_cons (o := 3) (o' := 4) (total := 11) rfl (by kernel_rfl) (opens_int Tryz.underlying3) (opensF_cons (o := 4) (o' := 5) (total := 11) rfl (by kernel_rfl) (opens_int Tryz.underlying3) (opensF_last (o := 5) (total := 11) rfl (by kernel_rfl) (opens_struct0 (total := 6) Tryz.underlying99 (by kernel_rfl) (opensF_cons (o := 0) (o' := 1) (total := 6) rfl (by kernel_rfl) (opens_int Tryz.underlying3) (opensF_cons (o := 1) (o' := 3) (total := 6) rfl (by kernel_rfl) (opens_struct0 (total := 2) Tryz.underlying97 (by kernel_rfl) (opensF_cons (o := 0) (o' := 1) (total := 2) rfl (by kernel_rfl) (opens_int Tryz.underlying3) (opensF_last (o := 1) (total := 2) rfl (by kernel_rfl) (opens_int Tryz.underlying95)))) (opensF_cons (o := 3) (o' := 4) (total := 6) rfl (by kernel_rfl) (opens_int Tryz.underlying3) (opensF_cons (o := 4) (o' := 5) (total := 6) rfl (by kernel_rfl) (opens_int Tryz.underlying3) (opensF_last (o := 5) (total := 6) rfl (by kernel_rfl) (opens_slice Tryz.underlying38 (by kernel_rfl) oE3)))))))))))))
end
set_option maxRecDepth 100000 in
theorem lifted (os : Os) (started : os.Started) (H : Type) (enc : TypeId × Value → H) :
    ReturnsInHanded {} Tryz.checked os 3 .any (Rows.fnExactCellsAddSpec.pre6 enc Tryz.prog Tryz.f3 Rows.fnExactCellsAddRow.domain false) (Rows.fnExactCellsAddSpec.post enc Tryz.prog Tryz.f3 false true false false) := by
  refine returnsInHanded_of_change_sized (C := Tryz.checked) own started (by kernel_rfl) Tryz.func3
    (ChangeSpec.witness6 (enc := enc) (C := Tryz.checked) false ⟨#[], #[.slice none 0 0, .int .i64 0, .agg #[.int .i64 0, .int .i64 0, .int .i64 0], .int .i64 0, .int .i64 0, .int .i64 0, .int .i64 0], []⟩ 8 (by kernel_rfl) (by kernel_rfl) (by kernel_rfl) (by kernel_rfl)) ?_
  intro W base args ds gs before hval0 hW hcnd hsz0 _
  have hval : ∀ (j : Nat) t v, Tryz.f3.params[j]? = some t → args[j]? = some v → Value.okWide Tryz.prog W .any base t v := hval0
  have hW' := hW
  obtain ⟨p, q, hA0, hV, rfl, hfz, hnd⟩ := hW
  have hA : DataW.TrodAll enc Tryz.prog W 0 (fun _ => true) true Tryz.f3.params.toList args.toList ds p := hA0
  rw [Tryz.params3] at hA hval
  obtain ⟨v0, vs0, d0, ds0, p0, q0, hargs, rfl, rfl, h0, r0⟩ := trodAll_cons hA
  obtain ⟨v1, vs1, d1, ds1, p1, q1, rfl, rfl, rfl, h1, r1⟩ := trodAll_cons r0
  obtain ⟨v2, vs2, d2, ds2, p2, q2, rfl, rfl, rfl, h2, r2⟩ := trodAll_cons r1
  obtain ⟨v3, vs3, d3, ds3, p3, q3, rfl, rfl, rfl, h3, r3⟩ := trodAll_cons r2
  obtain ⟨v4, vs4, d4, ds4, p4, q4, rfl, rfl, rfl, h4, r4⟩ := trodAll_cons r3
  obtain ⟨v5, vs5, d5, ds5, p5, q5, rfl, rfl, rfl, h5, r5⟩ := trodAll_cons r4
  obtain ⟨v6, vs6, d6, ds6, p6, q6, rfl, rfl, rfl, h6, r6⟩ := trodAll_cons r5
  obtain ⟨rfl, rfl, rfl⟩ := trodAll_nil r6
  obtain rfl : args = #[v0, v1, v2, v3, v4, v5, v6] := by cases args; simp_all
  obtain ⟨rfl, rfl⟩ := trodVars_none hV
  have lt0 : ∀ x ∈ p0, x.block < W.heap.size := by obtain ⟨m, hm⟩ := h0; exact DataW.trod_lt m _ _ _ hm
  obtain ⟨a0, hK0, wa0⟩ := opens_arg (opens_slice Tryz.underlying22 (by kernel_rfl) oE101) h0
  obtain ⟨A0, n0, c0, rfl⟩ := okWide_slice Tryz.underlying22 (hval 0 22 v0 rfl rfl)
  obtain ⟨A_, c_, e_, hc0, hA0⟩ := hK0
  simp [Value.cells] at e_
  obtain ⟨rfl, rfl, rfl⟩ := e_
  have lt1 : ∀ x ∈ p1, x.block < W.heap.size := by obtain ⟨m, hm⟩ := h1; exact DataW.trod_lt m _ _ _ hm
  obtain ⟨a1, hK1, wa1⟩ := opens_arg (opens_int Tryz.underlying3) h1
  obtain ⟨y1, rfl⟩ := okWide_int Tryz.underlying3 (hval 1 3 v1 rfl rfl)
  have e_ : [Value.int .i64 y1] = [Value.int .i64 a1] := hK1
  simp at e_
  subst y1
  have lt2 : ∀ x ∈ p2, x.block < W.heap.size := by obtain ⟨m, hm⟩ := h2; exact DataW.trod_lt m _ _ _ hm
  obtain ⟨x2, hK2, hw2⟩ := opens_arg (opens_struct0 (total := 3) Tryz.underlying24 (by kernel_rfl) (opensF_cons (o := 0) (o' := 1) (total := 3) rfl (by kernel_rfl) (opens_int Tryz.underlying3) (opensF_cons (o := 1) (o' := 2) (total := 3) rfl (by kernel_rfl) (opens_int Tryz.underlying3) (opensF_last (o := 2) (total := 3) rfl (by kernel_rfl) (opens_int Tryz.underlying3))))) h2
  obtain ⟨cs2, rfl, hcs2⟩ := arg_struct Tryz.underlying24 (hval 2 24 v2 rfl rfl)
  rw [hcs2] at hK2
  obtain ⟨a2_0, ⟨a2_1, a2_2⟩⟩ := x2
  obtain ⟨wa2_0, ⟨wa2_1, wa2_2⟩⟩ := hw2
  obtain ⟨cp2_1, cq2_1, ee2_1, hp2_1, hq2_1⟩ := hK2
  have ea2_0 := hp2_1
  obtain ⟨cp2_2, cq2_2, ee2_2, hp2_2, hq2_2⟩ := hq2_1
  have ea2_1 := hp2_2
  have ea2_2 := hq2_2
  obtain rfl : cs2 = #[.int .i64 a2_0, .int .i64 a2_1, .int .i64 a2_2] := by
    have hl : cs2.toList = [.int .i64 a2_0, .int .i64 a2_1, .int .i64 a2_2] := by rw [ee2_1, ea2_0, ee2_2, ea2_1, ea2_2]; rfl
    cases cs2
    simpa using hl
  have lt3 : ∀ x ∈ p3, x.block < W.heap.size := by obtain ⟨m, hm⟩ := h3; exact DataW.trod_lt m _ _ _ hm
  obtain ⟨a3, hK3, wa3⟩ := opens_arg (opens_int Tryz.underlying3) h3
  obtain ⟨y3, rfl⟩ := okWide_int Tryz.underlying3 (hval 3 3 v3 rfl rfl)
  have e_ : [Value.int .i64 y3] = [Value.int .i64 a3] := hK3
  simp at e_
  subst y3
  have lt4 : ∀ x ∈ p4, x.block < W.heap.size := by obtain ⟨m, hm⟩ := h4; exact DataW.trod_lt m _ _ _ hm
  obtain ⟨a4, hK4, wa4⟩ := opens_arg (opens_int Tryz.underlying3) h4
  obtain ⟨y4, rfl⟩ := okWide_int Tryz.underlying3 (hval 4 3 v4 rfl rfl)
  have e_ : [Value.int .i64 y4] = [Value.int .i64 a4] := hK4
  simp at e_
  subst y4
  have lt5 : ∀ x ∈ p5, x.block < W.heap.size := by obtain ⟨m, hm⟩ := h5; exact DataW.trod_lt m _ _ _ hm
  obtain ⟨a5, hK5, wa5⟩ := opens_arg (opens_int Tryz.underlying3) h5
  obtain ⟨y5, rfl⟩ := okWide_int Tryz.underlying3 (hval 5 3 v5 rfl rfl)
  have e_ : [Value.int .i64 y5] = [Value.int .i64 a5] := hK5
  simp at e_
  subst y5
  have lt6 : ∀ x ∈ p6, x.block < W.heap.size := by obtain ⟨m, hm⟩ := h6; exact DataW.trod_lt m _ _ _ hm
  obtain ⟨a6, hK6, wa6⟩ := opens_arg (opens_int Tryz.underlying3) h6
  obtain ⟨y6, rfl⟩ := okWide_int Tryz.underlying3 (hval 6 3 v6 rfl rfl)
  have e_ : [Value.int .i64 y6] = [Value.int .i64 a6] := hK6
  simp at e_
  subst y6
  clear hA0 hval0 hsz0
  have hn := Pure.FnExactCellsAdd a0 a1 a2_0 a2_1 a2_2 a3 a4 a5 a6 wa0 wa1 wa2_0 wa2_1 wa2_2 wa3 wa4 wa5 wa6
  have hrs : F2 (RoAs W) [⟨101, (.pair (.int .i64) (.pair (.int .i64) (.pair (.int .i64) (.pair (.int .i64) (.pair (.int .i64) (.pair (.int .i64) (.pair (.pair (.int .i64) (.int .u64)) (.pair (.int .i64) (.pair (.int .i64) (.sl 3 (.int .i64))))))))))), a0, .ro⟩] [.slice A0 a0.length c0] := ⟨⟨rfl, A0, c0, rfl, hc0, hA0⟩, trivial⟩
  have hin : F2 (AV.R (gh0 W [.slice A0 a0.length c0])) [.s1 (.one (.sl 0)), .s1 (.one (.val (.int .i64 a1))), .s1 (.agg [.val (.int .i64 a2_0), .val (.int .i64 a2_1), .val (.int .i64 a2_2)]), .s1 (.one (.val (.int .i64 a3))), .s1 (.one (.val (.int .i64 a4))), .s1 (.one (.val (.int .i64 a5))), .s1 (.one (.val (.int .i64 a6)))] [((.slice A0 a0.length c0) : Value), ((.int .i64 a1) : Value), Value.agg #[(.int .i64 a2_0), (.int .i64 a2_1), (.int .i64 a2_2)], ((.int .i64 a3) : Value), ((.int .i64 a4) : Value), ((.int .i64 a5) : Value), ((.int .i64 a6) : Value)] := ⟨rfl, rfl, ⟨_, rfl, ⟨rfl, rfl, rfl, trivial⟩⟩, rfl, rfl, rfl, rfl, trivial⟩
  have hE : E3 [.s1 (.one (.sl 0)), .s1 (.one (.val (.int .i64 a1))), .s1 (.agg [.val (.int .i64 a2_0), .val (.int .i64 a2_1), .val (.int .i64 a2_2)]), .s1 (.one (.val (.int .i64 a3))), .s1 (.one (.val (.int .i64 a4))), .s1 (.one (.val (.int .i64 a5))), .s1 (.one (.val (.int .i64 a6)))] [] [⟨101, (.pair (.int .i64) (.pair (.int .i64) (.pair (.int .i64) (.pair (.int .i64) (.pair (.int .i64) (.pair (.int .i64) (.pair (.pair (.int .i64) (.int .u64)) (.pair (.int .i64) (.pair (.int .i64) (.sl 3 (.int .i64))))))))))), a0, .ro⟩] = some ⟨Bool, L.FnExactCellsAdd a1 a2_0 a2_1 a2_2 a3 a4 a5 a6 a0, fun t => resOf sg3.rsk (encP sg3.rks (toA sg3.rks t))⟩ := by kernel_rfl
  refine (good_true good3 (t := true) hE hn (by kernel_rfl) (fun x hx => by cases (show x ∈ ([] : List (Nat × (List Value → Prop))) from hx)) hrs hin).mono fun e W' ⟨he, bel⟩ => ?_
  subst he
  exact ⟨_, rfl, _, _, _, [], _, [], hW', trodAll_mk1 (shut_bool Tryz.underlying4 _), (trodAll_cons_mk (Below.trod laidOut (by kernel_rfl) (of_decide_eq_true (by kernel_rfl)) h0 bel lt0) (trodAll_cons_mk (Below.trod laidOut (by kernel_rfl) (of_decide_eq_true (by kernel_rfl)) h1 bel lt1) (trodAll_cons_mk (Below.trod laidOut (by kernel_rfl) (of_decide_eq_true (by kernel_rfl)) h2 bel lt2) (trodAll_cons_mk (Below.trod laidOut (by kernel_rfl) (of_decide_eq_true (by kernel_rfl)) h3 bel lt3) (trodAll_cons_mk (Below.trod laidOut (by kernel_rfl) (of_decide_eq_true (by kernel_rfl)) h4 bel lt4) (trodAll_cons_mk (Below.trod laidOut (by kernel_rfl) (of_decide_eq_true (by kernel_rfl)) h5 bel lt5) (trodAll_cons_mk (Below.trod laidOut (by kernel_rfl) (of_decide_eq_true (by kernel_rfl)) h6 bel lt6) trodAll_mk0))))))), rfl, bel.frame _, fun h => by cases h⟩
theorem band {a b : Bool} (h1 : a = true) (h2 : b = true) : (a && b) = true := by rw [h1, h2]; rfl
set_option maxHeartbeats 40000000 in
theorem joined : joinedFacts Tryz.pinned.checked.prog 3 Tryz.f3 Rows.fnExactCellsAddSpec Rows.fnExactCellsAddRow = true := by
  unfold joinedFacts
  refine band (band (band (band (band (band (band (band (band (band (band (band (band (band (band (band (band (band (band (band (band (band (band (band (band (band (band (band (band (band (band ?_ ?_) ?_) ?_) ?_) ?_) ?_) ?_) ?_) ?_) ?_) ?_) ?_) ?_) ?_) ?_) ?_) ?_) ?_) ?_) ?_) ?_) ?_) ?_) ?_) ?_) ?_) ?_) ?_) ?_) ?_) ?_
  all_goals decide +kernel
theorem instOk : Tryz.f3.isInstance Tryz.pinned.checked.prog Rows.fnExactCellsAddRow.origin Rows.fnExactCellsAddRow.targs := of_decide_eq_true (by kernel_rfl)
theorem wrapOk : Tryz.f3.isWrapper Tryz.pinned.checked.prog Rows.fnExactCellsAddRow.wrapper Rows.fnExactCellsAddRow.mainSum := by unfold Func.isWrapper; first | (rw [if_pos (by decide +kernel)]; kernel_rfl) | (rw [if_neg (by decide +kernel)]; exact ⟨rfl, rfl⟩)
theorem over : Rows.fnExactCellsAddRow.holds Tryz.pinned (OpenSpec.ofChange Rows.fnExactCellsAddSpec) :=
  OpenClaim.holds_of_wide 3 Tryz.f3 rfl rfl rfl rfl rfl rfl rfl ⟨rfl, rfl, rfl, rfl, rfl⟩ rfl rfl rfl rfl rfl (by kernel_rfl) Tryz.func3 joined instOk wrapOk
    (fun os started H enc _ => lifted os started H enc)
end Go.Proofs.YtmbcnpbgcfiafaaGreat.fnExactCellsAdd
namespace Go.Proofs.YtmbcnpbgcfiafaaGreat
theorem fnExactCellsAdd_holds : Rows.FnExactCellsAddSaid := fnExactCellsAdd.over
#print axioms fnExactCellsAdd_holds
end Go.Proofs.YtmbcnpbgcfiafaaGreat
