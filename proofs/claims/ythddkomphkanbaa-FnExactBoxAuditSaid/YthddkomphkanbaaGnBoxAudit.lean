import Derived.Test.YthddkomphkanbaaGnBoxAuditA
namespace Go.Proofs.Ythddkomphkanbaa.Run
open Go Go.RowKit Go.Proofs.YthddkomphkanbaaW.PrintWords Go.Proofs.Ythddkomphkanbaa.Vm
set_option linter.unusedVariables false
set_option maxRecDepth 100000

/-! ### L.FnExactBoxAudit -/
noncomputable def G4 : Env := (envCons 14 [] E14 (envCons 16 [] E16 (envCons 23 [] E23 (envCons 24 [] E24 (envCons 19 [] E19 (envCons 25 [] E25 (envCons 20 [4, 5] E20 (envCons 26 [0] E26 (envCons 27 [] E27 (envCons 28 [] E28 envNil))))))))))
noncomputable def c4 : Code := bodyOf Try.f4
noncomputable def L.FnExactBoxAudit (a1 a2 a3 a4 a5 : Int) (a6 : List (Int × Int × Int × Int × Int × Int × Int × Int × List Int × Bool)) (a7 : List (Int × Int × Int)) : Option Bool :=
(Option.bind (L.szBox a1 a2 a3 a4 1048576 a6 a7) fun r8 =>
(bif (decide (r8 < 0)) then
(some true)
else
(Option.bind (L.toBox a1 a2 a3 a4 a6 a7) fun r10 =>
(Option.bind (S.BoxAudit r10.1 r10.2.1 r10.2.2.1 r10.2.2.2.1 a5 r10.2.2.2.2.1 r10.2.2.2.2.2) fun r11 =>
(Option.bind (L.toBox a1 a2 a3 a4 a6 a7) fun r12 =>
(Option.bind (I.BoxAudit r12.1 r12.2.1 r12.2.2.1 r12.2.2.2.1 a5 r12.2.2.2.2.1 r12.2.2.2.2.2) fun r13 =>
(Option.bind (L.eqBox r13.1 r13.2.1 r13.2.2.1 r13.2.2.2.1 r11.1 r11.2.1 r11.2.2.1 r11.2.2.2.1 r13.2.2.2.2.2.1 r13.2.2.2.2.2.2.1 r11.2.2.2.2.2.1 r11.2.2.2.2.2.2.1) fun r14 =>
(bif (!r14) then
(some false)
else
(Option.bind (L.eqRecS r13.2.2.2.2.2.2.2 r11.2.2.2.2.2.2.2) fun r15 =>
(bif (!r15) then
(some false)
else
(bif (!(r13.2.2.2.2.1 == r11.2.2.2.2.1)) then
(some false)
else
(Option.bind (L.toBox a1 a2 a3 a4 a6 a7) fun r17 =>
(Option.bind (L.eqBox r12.1 r12.2.1 r12.2.2.1 r12.2.2.2.1 r17.1 r17.2.1 r17.2.2.1 r17.2.2.2.1 r12.2.2.2.2.1 r12.2.2.2.2.2 r17.2.2.2.2.1 r17.2.2.2.2.2) fun r18 =>
(bif (!r18) then
(some false)
else
(Option.bind (L.markBox r12.1 r12.2.1 r12.2.2.1 r12.2.2.2.1 1 r12.2.2.2.2.1 r12.2.2.2.2.2) fun r19 =>
(bif (decide (r19.1 < 0)) then
(some false)
else
(Option.bind (L.eqBox r13.1 r13.2.1 r13.2.2.1 r13.2.2.2.1 r11.1 r11.2.1 r11.2.2.1 r11.2.2.2.1 r13.2.2.2.2.2.1 r13.2.2.2.2.2.2.1 r11.2.2.2.2.2.1 r11.2.2.2.2.2.2.1) fun r21 =>
(bif (!r21) then
(some false)
else
(Option.bind (L.eqRecS r13.2.2.2.2.2.2.2 r11.2.2.2.2.2.2.2) fun r22 =>
(bif (!r22) then
(some false)
else
(bif (!(r13.2.2.2.2.1 == r11.2.2.2.2.1)) then
(some false)
else
(Option.bind (L.markBox r13.1 r13.2.1 r13.2.2.1 r13.2.2.2.1 1 r13.2.2.2.2.2.1 r13.2.2.2.2.2.2.1) fun r24 =>
(Option.bind (L.markRecS r24.1 r13.2.2.2.2.2.2.2) fun r25 =>
(Option.bind (L.heldBox r13.1 r13.2.1 r13.2.2.1 r13.2.2.2.1 1 r24.2.1 r24.2.2) fun r26 =>
(bif (decide (r26 < 0)) then
(some false)
else
(Option.bind (L.heldRecS r26 r25.2) fun r28 =>
(bif (decide (r28 < 0)) then
(some false)
else
(bif (r28 != r25.1) then
(some false)
else
(Option.bind (L.toBox a1 a2 a3 a4 a6 a7) fun r30 =>
(Option.bind (I.BoxAudit r30.1 r30.2.1 r30.2.2.1 r30.2.2.2.1 a5 r30.2.2.2.2.1 r30.2.2.2.2.2) fun r31 =>
(Option.bind (L.eqBox r31.1 r31.2.1 r31.2.2.1 r31.2.2.2.1 r11.1 r11.2.1 r11.2.2.1 r11.2.2.2.1 r31.2.2.2.2.2.1 r31.2.2.2.2.2.2.1 r11.2.2.2.2.2.1 r11.2.2.2.2.2.2.1) fun r32 =>
(bif (!r32) then
(some false)
else
(Option.bind (L.eqRecS r31.2.2.2.2.2.2.2 r11.2.2.2.2.2.2.2) fun r33 =>
(bif (!r33) then
(some false)
else
(bif (!(r31.2.2.2.2.1 == r11.2.2.2.2.1)) then
(some false)
else
(Option.bind (L.heldBox r13.1 r13.2.1 r13.2.2.1 r13.2.2.2.1 1 r24.2.1 r24.2.2) fun r35 =>
(bif (decide (r35 < 0)) then
(some false)
else
(Option.bind (L.heldRecS r35 r25.2) fun r37 =>
(bif (decide (r37 < 0)) then
(some false)
else
(bif (r37 != r25.1) then
(some false)
else
(some true)))))))))))))))))))))))))))))))))))))))))
noncomputable def R4 (x : Bool) : Res := ⟨[.one (ab x)], [], []⟩
noncomputable def K4 (r : Res) : Option Bool :=
  match r with
  | ⟨[.one (.val (.bool v1))], [], []⟩ => some (v1)
  | _ => none
noncomputable def E4 : Fun2 := fun args bs rs =>
  match args, bs, rs with
  | [.s1 (.agg [.val (.int .i64 a1), .val (.int .i64 a2), .val (.int .i64 a3), .val (.int .i64 a4), .sl 0, .sl 1]), .s1 (.one (.val (.int .i64 a5)))], [], [⟨230, (.pair (.int .i64) (.pair (.int .i64) (.pair (.int .i64) (.pair (.int .i64) (.pair (.int .i64) (.pair (.int .i64) (.pair (.int .i64) (.pair (.int .i64) (.pair (.sl 3 (.int .i64)) .bool))))))))), a6, .ro⟩, ⟨233, (.pair (.int .i64) (.pair (.int .i64) (.int .i64))), a7, .ro⟩] => some ⟨Bool, L.FnExactBoxAudit a1 a2 a3 a4 a5 a6 a7, R4⟩
  | _, _, _ => none
theorem ev4 (a1 a2 a3 a4 a5 : Int) (a6 : List (Int × Int × Int × Int × Int × Int × Int × Int × List Int × Bool)) (a7 : List (Int × Int × Int)) : evF Try.prog G4 loopNil (0, 0) [] Try.f4 c4 [.s1 (.agg [ai a1, ai a2, ai a3, ai a4, .sl 0, .sl 1]), vi a5] [] [⟨230, (.pair (.int .i64) (.pair (.int .i64) (.pair (.int .i64) (.pair (.int .i64) (.pair (.int .i64) (.pair (.int .i64) (.pair (.int .i64) (.pair (.int .i64) (.pair (.sl 3 (.int .i64)) .bool))))))))), a6, .ro⟩, ⟨233, (.pair (.int .i64) (.pair (.int .i64) (.int .i64))), a7, .ro⟩] K4 = L.FnExactBoxAudit a1 a2 a3 a4 a5 a6 a7 := by kernel_rfl
theorem good4 : Vm.Good Try.prog 4 E4 := by
  refine evF_good (G := G4) (c := c4) (envCons_good good14 (envCons_good good16 (envCons_good good23 (envCons_good good24 (envCons_good good19 (envCons_good good25 (envCons_good good20 (envCons_good good26 (envCons_good good27 (envCons_good good28 envNil_good)))))))))) Try.func4 (by kernel_rfl) (by kernel_rfl) (0, 0) (fun args bs rs out t h h2 => ?_)
  unfold E4 at h
  split at h
  · injection h with h
    subst h
    exact ⟨rfl, [], loopNil, K4, (by intro x hx; simp [show loopsOf c4 = [] from by kernel_rfl] at hx), (fun r t h => by unfold K4 at h; split at h; (injection h with h; subst h; rfl); cases h), (ev4 _ _ _ _ _ _ _).trans h2⟩
  · cases h
end Go.Proofs.Ythddkomphkanbaa.Run
