import Derived.Test.YthddkomphkanbaaGnBoxPutsA
namespace Go.Proofs.Ythddkomphkanbaa.Run
open Go Go.RowKit Go.Proofs.YthddkomphkanbaaW.PrintWords Go.Proofs.Ythddkomphkanbaa.Vm
set_option linter.unusedVariables false
set_option maxRecDepth 100000

/-! ### L.markItemS -/
noncomputable def G21 : Env := (envCons 96 [0] E96 envNil)
noncomputable def c21 : Code := bodyOf Try.f21
noncomputable def c21_2 : Code := (loopsOf c21).getD 0 .skip
noncomputable def L.markItemS_l0 : Nat → (Int → (List (Int × Int × Int × Int × Int × Int × Int × Int × List Int × Bool)) → Option (Int × (List (Int × Int × Int × Int × Int × Int × Int × Int × List Int × Bool)))) → Int → Int → (List (Int × Int × Int × Int × Int × Int × Int × Int × List Int × Bool)) → Option (Int × (List (Int × Int × Int × Int × Int × Int × Int × Int × List Int × Bool)))
  | 0, _, _, _, _ => none
  | m + 1, e2_0, a3, a4, a5 =>
    (bif (decide (a4 < (a5.length : Int))) then
    (bif decide ((0 : Int) ≤ a4 ∧ a4 < (a5.length : Int)) then
    (let v8 : List (Int × Int × Int × Int × Int × Int × Int × Int × List Int × Bool) := (a5.set (Int.toNat a4) (a3, (nthI a5 a4 ((0 : Int), ((0 : Int), ((0 : Int), ((0 : Int), ((0 : Int), ((0 : Int), ((0 : Int), ((0 : Int), ([], false)))))))))).2))
    (let v9 : Int := (IntKind.wrap .i64 (a3 + 1))
    (bif decide ((0 : Int) ≤ a4 ∧ a4 < (v8.length : Int)) then
    (let v10 : List (Int × Int × Int × Int × Int × Int × Int × Int × List Int × Bool) := (v8.set (Int.toNat a4) ((nthI v8 a4 ((0 : Int), ((0 : Int), ((0 : Int), ((0 : Int), ((0 : Int), ((0 : Int), ((0 : Int), ((0 : Int), ([], false)))))))))).1, (v9, (nthI v8 a4 ((0 : Int), ((0 : Int), ((0 : Int), ((0 : Int), ((0 : Int), ((0 : Int), ((0 : Int), ((0 : Int), ([], false)))))))))).2.2)))
    (let v11 : Int := (IntKind.wrap .i64 (v9 + 1))
    (bif decide ((0 : Int) ≤ a4 ∧ a4 < (v10.length : Int)) then
    (let v12 : List (Int × Int × Int × Int × Int × Int × Int × Int × List Int × Bool) := (v10.set (Int.toNat a4) ((nthI v10 a4 ((0 : Int), ((0 : Int), ((0 : Int), ((0 : Int), ((0 : Int), ((0 : Int), ((0 : Int), ((0 : Int), ([], false)))))))))).1, ((nthI v10 a4 ((0 : Int), ((0 : Int), ((0 : Int), ((0 : Int), ((0 : Int), ((0 : Int), ((0 : Int), ((0 : Int), ([], false)))))))))).2.1, (v11, (nthI v10 a4 ((0 : Int), ((0 : Int), ((0 : Int), ((0 : Int), ((0 : Int), ((0 : Int), ((0 : Int), ((0 : Int), ([], false)))))))))).2.2.2))))
    (let v13 : Int := (IntKind.wrap .i64 (v11 + 1))
    (bif decide ((0 : Int) ≤ a4 ∧ a4 < (v12.length : Int)) then
    (let v14 : List (Int × Int × Int × Int × Int × Int × Int × Int × List Int × Bool) := (v12.set (Int.toNat a4) ((nthI v12 a4 ((0 : Int), ((0 : Int), ((0 : Int), ((0 : Int), ((0 : Int), ((0 : Int), ((0 : Int), ((0 : Int), ([], false)))))))))).1, ((nthI v12 a4 ((0 : Int), ((0 : Int), ((0 : Int), ((0 : Int), ((0 : Int), ((0 : Int), ((0 : Int), ((0 : Int), ([], false)))))))))).2.1, ((nthI v12 a4 ((0 : Int), ((0 : Int), ((0 : Int), ((0 : Int), ((0 : Int), ((0 : Int), ((0 : Int), ((0 : Int), ([], false)))))))))).2.2.1, (v13, (nthI v12 a4 ((0 : Int), ((0 : Int), ((0 : Int), ((0 : Int), ((0 : Int), ((0 : Int), ((0 : Int), ((0 : Int), ([], false)))))))))).2.2.2.2)))))
    (let v15 : Int := (IntKind.wrap .i64 (v13 + 1))
    (bif decide ((0 : Int) ≤ a4 ∧ a4 < (v14.length : Int)) then
    (let v16 : List (Int × Int × Int × Int × Int × Int × Int × Int × List Int × Bool) := (v14.set (Int.toNat a4) ((nthI v14 a4 ((0 : Int), ((0 : Int), ((0 : Int), ((0 : Int), ((0 : Int), ((0 : Int), ((0 : Int), ((0 : Int), ([], false)))))))))).1, ((nthI v14 a4 ((0 : Int), ((0 : Int), ((0 : Int), ((0 : Int), ((0 : Int), ((0 : Int), ((0 : Int), ((0 : Int), ([], false)))))))))).2.1, ((nthI v14 a4 ((0 : Int), ((0 : Int), ((0 : Int), ((0 : Int), ((0 : Int), ((0 : Int), ((0 : Int), ((0 : Int), ([], false)))))))))).2.2.1, ((nthI v14 a4 ((0 : Int), ((0 : Int), ((0 : Int), ((0 : Int), ((0 : Int), ((0 : Int), ((0 : Int), ((0 : Int), ([], false)))))))))).2.2.2.1, (v15, (nthI v14 a4 ((0 : Int), ((0 : Int), ((0 : Int), ((0 : Int), ((0 : Int), ((0 : Int), ((0 : Int), ((0 : Int), ([], false)))))))))).2.2.2.2.2))))))
    (let v17 : Int := (IntKind.wrap .i64 (v15 + 1))
    (bif decide ((0 : Int) ≤ a4 ∧ a4 < (v16.length : Int)) then
    (let v18 : List (Int × Int × Int × Int × Int × Int × Int × Int × List Int × Bool) := (v16.set (Int.toNat a4) ((nthI v16 a4 ((0 : Int), ((0 : Int), ((0 : Int), ((0 : Int), ((0 : Int), ((0 : Int), ((0 : Int), ((0 : Int), ([], false)))))))))).1, ((nthI v16 a4 ((0 : Int), ((0 : Int), ((0 : Int), ((0 : Int), ((0 : Int), ((0 : Int), ((0 : Int), ((0 : Int), ([], false)))))))))).2.1, ((nthI v16 a4 ((0 : Int), ((0 : Int), ((0 : Int), ((0 : Int), ((0 : Int), ((0 : Int), ((0 : Int), ((0 : Int), ([], false)))))))))).2.2.1, ((nthI v16 a4 ((0 : Int), ((0 : Int), ((0 : Int), ((0 : Int), ((0 : Int), ((0 : Int), ((0 : Int), ((0 : Int), ([], false)))))))))).2.2.2.1, ((nthI v16 a4 ((0 : Int), ((0 : Int), ((0 : Int), ((0 : Int), ((0 : Int), ((0 : Int), ((0 : Int), ((0 : Int), ([], false)))))))))).2.2.2.2.1, (v17, (nthI v16 a4 ((0 : Int), ((0 : Int), ((0 : Int), ((0 : Int), ((0 : Int), ((0 : Int), ((0 : Int), ((0 : Int), ([], false)))))))))).2.2.2.2.2.2)))))))
    (let v19 : Int := (IntKind.wrap .i64 (v17 + 1))
    (bif decide ((0 : Int) ≤ a4 ∧ a4 < (v18.length : Int)) then
    (let v20 : List (Int × Int × Int × Int × Int × Int × Int × Int × List Int × Bool) := (v18.set (Int.toNat a4) ((nthI v18 a4 ((0 : Int), ((0 : Int), ((0 : Int), ((0 : Int), ((0 : Int), ((0 : Int), ((0 : Int), ((0 : Int), ([], false)))))))))).1, ((nthI v18 a4 ((0 : Int), ((0 : Int), ((0 : Int), ((0 : Int), ((0 : Int), ((0 : Int), ((0 : Int), ((0 : Int), ([], false)))))))))).2.1, ((nthI v18 a4 ((0 : Int), ((0 : Int), ((0 : Int), ((0 : Int), ((0 : Int), ((0 : Int), ((0 : Int), ((0 : Int), ([], false)))))))))).2.2.1, ((nthI v18 a4 ((0 : Int), ((0 : Int), ((0 : Int), ((0 : Int), ((0 : Int), ((0 : Int), ((0 : Int), ((0 : Int), ([], false)))))))))).2.2.2.1, ((nthI v18 a4 ((0 : Int), ((0 : Int), ((0 : Int), ((0 : Int), ((0 : Int), ((0 : Int), ((0 : Int), ((0 : Int), ([], false)))))))))).2.2.2.2.1, ((nthI v18 a4 ((0 : Int), ((0 : Int), ((0 : Int), ((0 : Int), ((0 : Int), ((0 : Int), ((0 : Int), ((0 : Int), ([], false)))))))))).2.2.2.2.2.1, (v19, (nthI v18 a4 ((0 : Int), ((0 : Int), ((0 : Int), ((0 : Int), ((0 : Int), ((0 : Int), ((0 : Int), ((0 : Int), ([], false)))))))))).2.2.2.2.2.2.2))))))))
    (let v21 : Int := (IntKind.wrap .i64 (v19 + 1))
    (bif decide ((0 : Int) ≤ a4 ∧ a4 < (v20.length : Int)) then
    (let v22 : List (Int × Int × Int × Int × Int × Int × Int × Int × List Int × Bool) := (v20.set (Int.toNat a4) ((nthI v20 a4 ((0 : Int), ((0 : Int), ((0 : Int), ((0 : Int), ((0 : Int), ((0 : Int), ((0 : Int), ((0 : Int), ([], false)))))))))).1, ((nthI v20 a4 ((0 : Int), ((0 : Int), ((0 : Int), ((0 : Int), ((0 : Int), ((0 : Int), ((0 : Int), ((0 : Int), ([], false)))))))))).2.1, ((nthI v20 a4 ((0 : Int), ((0 : Int), ((0 : Int), ((0 : Int), ((0 : Int), ((0 : Int), ((0 : Int), ((0 : Int), ([], false)))))))))).2.2.1, ((nthI v20 a4 ((0 : Int), ((0 : Int), ((0 : Int), ((0 : Int), ((0 : Int), ((0 : Int), ((0 : Int), ((0 : Int), ([], false)))))))))).2.2.2.1, ((nthI v20 a4 ((0 : Int), ((0 : Int), ((0 : Int), ((0 : Int), ((0 : Int), ((0 : Int), ((0 : Int), ((0 : Int), ([], false)))))))))).2.2.2.2.1, ((nthI v20 a4 ((0 : Int), ((0 : Int), ((0 : Int), ((0 : Int), ((0 : Int), ((0 : Int), ((0 : Int), ((0 : Int), ([], false)))))))))).2.2.2.2.2.1, ((nthI v20 a4 ((0 : Int), ((0 : Int), ((0 : Int), ((0 : Int), ((0 : Int), ((0 : Int), ((0 : Int), ((0 : Int), ([], false)))))))))).2.2.2.2.2.2.1, (v21, (nthI v20 a4 ((0 : Int), ((0 : Int), ((0 : Int), ((0 : Int), ((0 : Int), ((0 : Int), ((0 : Int), ((0 : Int), ([], false)))))))))).2.2.2.2.2.2.2.2)))))))))
    (bif decide ((0 : Int) ≤ a4 ∧ a4 < (v22.length : Int)) then
    (Option.bind (L.markIntS (IntKind.wrap .i64 (v21 + 1)) ((nthI v22 a4 ((0 : Int), ((0 : Int), ((0 : Int), ((0 : Int), ((0 : Int), ((0 : Int), ((0 : Int), ((0 : Int), ([], false)))))))))).2.2.2.2.2.2.2.2.1)) fun r24 =>
    (let v25 : List (Int × Int × Int × Int × Int × Int × Int × Int × List Int × Bool) := (v22.set (Int.toNat a4) ((nthI v22 a4 ((0 : Int), ((0 : Int), ((0 : Int), ((0 : Int), ((0 : Int), ((0 : Int), ((0 : Int), ((0 : Int), ([], false)))))))))).1, ((nthI v22 a4 ((0 : Int), ((0 : Int), ((0 : Int), ((0 : Int), ((0 : Int), ((0 : Int), ((0 : Int), ((0 : Int), ([], false)))))))))).2.1, ((nthI v22 a4 ((0 : Int), ((0 : Int), ((0 : Int), ((0 : Int), ((0 : Int), ((0 : Int), ((0 : Int), ((0 : Int), ([], false)))))))))).2.2.1, ((nthI v22 a4 ((0 : Int), ((0 : Int), ((0 : Int), ((0 : Int), ((0 : Int), ((0 : Int), ((0 : Int), ((0 : Int), ([], false)))))))))).2.2.2.1, ((nthI v22 a4 ((0 : Int), ((0 : Int), ((0 : Int), ((0 : Int), ((0 : Int), ((0 : Int), ((0 : Int), ((0 : Int), ([], false)))))))))).2.2.2.2.1, ((nthI v22 a4 ((0 : Int), ((0 : Int), ((0 : Int), ((0 : Int), ((0 : Int), ((0 : Int), ((0 : Int), ((0 : Int), ([], false)))))))))).2.2.2.2.2.1, ((nthI v22 a4 ((0 : Int), ((0 : Int), ((0 : Int), ((0 : Int), ((0 : Int), ((0 : Int), ((0 : Int), ((0 : Int), ([], false)))))))))).2.2.2.2.2.2.1, ((nthI v22 a4 ((0 : Int), ((0 : Int), ((0 : Int), ((0 : Int), ((0 : Int), ((0 : Int), ((0 : Int), ((0 : Int), ([], false)))))))))).2.2.2.2.2.2.2.1, (r24.2, (nthI v22 a4 ((0 : Int), ((0 : Int), ((0 : Int), ((0 : Int), ((0 : Int), ((0 : Int), ((0 : Int), ((0 : Int), ([], false)))))))))).2.2.2.2.2.2.2.2.2))))))))))
    (bif decide (3 = 0) then
    none
    else
    (bif decide ((0 : Int) ≤ a4 ∧ a4 < (v25.length : Int)) then
    (let v27 : List (Int × Int × Int × Int × Int × Int × Int × Int × List Int × Bool) := (v25.set (Int.toNat a4) ((nthI v25 a4 ((0 : Int), ((0 : Int), ((0 : Int), ((0 : Int), ((0 : Int), ((0 : Int), ((0 : Int), ((0 : Int), ([], false)))))))))).1, ((nthI v25 a4 ((0 : Int), ((0 : Int), ((0 : Int), ((0 : Int), ((0 : Int), ((0 : Int), ((0 : Int), ((0 : Int), ([], false)))))))))).2.1, ((nthI v25 a4 ((0 : Int), ((0 : Int), ((0 : Int), ((0 : Int), ((0 : Int), ((0 : Int), ((0 : Int), ((0 : Int), ([], false)))))))))).2.2.1, ((nthI v25 a4 ((0 : Int), ((0 : Int), ((0 : Int), ((0 : Int), ((0 : Int), ((0 : Int), ((0 : Int), ((0 : Int), ([], false)))))))))).2.2.2.1, ((nthI v25 a4 ((0 : Int), ((0 : Int), ((0 : Int), ((0 : Int), ((0 : Int), ((0 : Int), ((0 : Int), ((0 : Int), ([], false)))))))))).2.2.2.2.1, ((nthI v25 a4 ((0 : Int), ((0 : Int), ((0 : Int), ((0 : Int), ((0 : Int), ((0 : Int), ((0 : Int), ((0 : Int), ([], false)))))))))).2.2.2.2.2.1, ((nthI v25 a4 ((0 : Int), ((0 : Int), ((0 : Int), ((0 : Int), ((0 : Int), ((0 : Int), ((0 : Int), ((0 : Int), ([], false)))))))))).2.2.2.2.2.2.1, ((nthI v25 a4 ((0 : Int), ((0 : Int), ((0 : Int), ((0 : Int), ((0 : Int), ((0 : Int), ((0 : Int), ((0 : Int), ([], false)))))))))).2.2.2.2.2.2.2.1, ((nthI v25 a4 ((0 : Int), ((0 : Int), ((0 : Int), ((0 : Int), ((0 : Int), ((0 : Int), ((0 : Int), ((0 : Int), ([], false)))))))))).2.2.2.2.2.2.2.2.1, ((Int.tmod r24.1 3) == 0)))))))))))
    (L.markItemS_l0 m e2_0 (IntKind.wrap .i64 (r24.1 + 1)) (IntKind.wrap .i64 (a4 + 1)) v27))
    else
    none))))
    else
    none))
    else
    none)))
    else
    none)))
    else
    none)))
    else
    none)))
    else
    none)))
    else
    none)))
    else
    none)))
    else
    none)
    else
    (e2_0 a3 a5))
noncomputable def L.markItemS (a1 : Int) (a2 : List (Int × Int × Int × Int × Int × Int × Int × Int × List Int × Bool)) : Option (Int × (List (Int × Int × Int × Int × Int × Int × Int × Int × List Int × Bool))) :=
(L.markItemS_l0 fu (fun y30 y31 =>
(some (y30, y31))) a1 0 a2)
noncomputable def H21_2 : LoopH := ⟨⟨((.one (.sl 0)) :: hh :: (hu 3 (hh :: (hu 87 [])))), [], [(146, (.pair (.int .i64) (.pair (.int .i64) (.pair (.int .i64) (.pair (.int .i64) (.pair (.int .i64) (.pair (.int .i64) (.pair (.int .i64) (.pair (.int .i64) (.pair (.sl 3 (.int .i64)) .bool))))))))), .own)]⟩, [2, 3, 4, 6, 7, 8, 9, 10, 11, 12, 13, 14, 15, 16, 17, 18, 19, 20, 21, 22, 23, 24, 25, 26, 27, 28, 29, 30, 31, 32, 33, 34, 35, 36, 37, 38, 39, 40, 41, 42, 43, 44, 45, 46, 47, 48, 49, 50, 51, 52, 53, 54, 55, 56, 57, 58, 59, 60, 61, 62, 63, 64, 65, 66, 67, 68, 69, 70, 71, 72, 73, 74, 75, 76, 77, 78, 79, 80, 81, 82, 83, 84, 85, 86, 87, 88, 89, 90, 91, 92], [], [0, 2, 3, 5, 6, 7, 8, 9, 10, 11, 12, 13, 14, 15, 16, 17, 18, 19, 20, 21, 22, 23, 24, 25, 26, 27, 28, 29, 30, 31, 32, 33, 34, 35, 36, 37, 38, 39, 40, 41, 42, 43, 44, 45, 46, 47, 48, 49, 50, 51, 52, 53, 54, 55, 56, 57, 58, 59, 60, 61, 62, 63, 64, 65, 66, 67, 68, 69, 70, 71, 72, 73, 74, 75, 76, 77, 78, 79, 80, 81, 82, 83, 84, 85, 86, 87, 88, 89, 90, 91, 92]⟩
noncomputable def E21_2 (m : Nat) (ps : List Prm) (k : Kont (Int × (List (Int × Int × Int × Int × Int × Int × Int × Int × List Int × Bool)))) : Option (Int × (List (Int × Int × Int × Int × Int × Int × Int × Int × List Int × Bool))) :=
  match ps with
  | [.v (.int .i64 a3), .v (.int .i64 a4), .row (.pair (.int .i64) (.pair (.int .i64) (.pair (.int .i64) (.pair (.int .i64) (.pair (.int .i64) (.pair (.int .i64) (.pair (.int .i64) (.pair (.int .i64) (.pair (.sl 3 (.int .i64)) .bool))))))))) a5] => L.markItemS_l0 m (fun z34 z35 => k (.exit 0) (⟨((.s1 (.one (.unk))) :: (vi z34) :: (vu 91 [])), [], [⟨146, (.pair (.int .i64) (.pair (.int .i64) (.pair (.int .i64) (.pair (.int .i64) (.pair (.int .i64) (.pair (.int .i64) (.pair (.int .i64) (.pair (.int .i64) (.pair (.sl 3 (.int .i64)) .bool))))))))), z35, .own⟩]⟩ : St)) a3 a4 a5
  | _ => none
noncomputable def S21_2 (a3 a4 : Int) (a5 : List (Int × Int × Int × Int × Int × Int × Int × Int × List Int × Bool)) : St := (⟨((vl 0) :: (vi a3) :: (vu 3 ((vi a4) :: (vu 87 [])))), [], [⟨146, (.pair (.int .i64) (.pair (.int .i64) (.pair (.int .i64) (.pair (.int .i64) (.pair (.int .i64) (.pair (.int .i64) (.pair (.int .i64) (.pair (.int .i64) (.pair (.sl 3 (.int .i64)) .bool))))))))), a5, .own⟩]⟩ : St)
theorem ev21_2 (m : Nat) (k : Kont (Int × (List (Int × Int × Int × Int × Int × Int × Int × Int × List Int × Bool)))) (a3 a4 : Int) (a5 : List (Int × Int × Int × Int × Int × Int × Int × Int × List Int × Bool)) : evC Try.prog G21 loopNil c21_2 (S21_2 a3 a4 a5) (turn Try.prog (0, 1) H21_2 (E21_2 m) k) = E21_2 (m + 1) [.v (.int .i64 a3), .v (.int .i64 a4), .row (.pair (.int .i64) (.pair (.int .i64) (.pair (.int .i64) (.pair (.int .i64) (.pair (.int .i64) (.pair (.int .i64) (.pair (.int .i64) (.pair (.int .i64) (.pair (.sl 3 (.int .i64)) .bool))))))))) a5] k := by kernel_rfl
theorem ok21_2 (m : Nat) : LoopOk Try.prog (0, 1) c21_2 (enter Try.prog (0, 1) H21_2 (E21_2 m)) := by
  refine loop_ok (G := G21) (L := loopNil) (envCons_good good96 envNil_good) (by intro x hx; simp [show loopsOf c21_2 = [] from by kernel_rfl] at hx) (fun ps k => by unfold E21_2; split <;> rfl) (fun m ps k r h => ?_) m
  have h0 := h
  unfold E21_2 at h
  split at h
  · exact ⟨S21_2 _ _ _, by kernel_rfl, (ev21_2 m k _ _ _).trans h0⟩
  · cases h
noncomputable def L21 : LEnv (Int × (List (Int × Int × Int × Int × Int × Int × Int × Int × List Int × Bool))) := (loopCons 2 (enter Try.prog (0, 1) H21_2 (E21_2 fu)) loopNil)
theorem lq21 : loopsOf c21 = [c21_2] := by kernel_rfl
theorem fr21_2 : firstReg c21_2 = some 2 := by kernel_rfl
theorem le21_2 : L21 2 = enter Try.prog (0, 1) H21_2 (E21_2 fu) := by kernel_rfl
theorem lm21 : ∀ x ∈ [c21_2], ∀ id, firstReg x = some id → LoopOk Try.prog (0, 1) x (L21 id) := (loops_cons fr21_2 le21_2 (ok21_2 fu) loops_nil)
theorem lp21 : ∀ x ∈ loopsOf c21, ∀ id, firstReg x = some id → LoopOk Try.prog (0, 1) x (L21 id) := loops_eq lq21 lm21
noncomputable def R21 (x : Int × (List (Int × Int × Int × Int × Int × Int × Int × Int × List Int × Bool))) : Res := ⟨[.one (ai x.1)], [], [⟨146, (.pair (.int .i64) (.pair (.int .i64) (.pair (.int .i64) (.pair (.int .i64) (.pair (.int .i64) (.pair (.int .i64) (.pair (.int .i64) (.pair (.int .i64) (.pair (.sl 3 (.int .i64)) .bool))))))))), x.2, .own⟩]⟩
noncomputable def K21 (r : Res) : Option (Int × (List (Int × Int × Int × Int × Int × Int × Int × Int × List Int × Bool))) :=
  match r with
  | ⟨[.one (.val (.int .i64 v1))], [], [⟨146, (.pair (.int .i64) (.pair (.int .i64) (.pair (.int .i64) (.pair (.int .i64) (.pair (.int .i64) (.pair (.int .i64) (.pair (.int .i64) (.pair (.int .i64) (.pair (.sl 3 (.int .i64)) .bool))))))))), v2, .own⟩]⟩ => some (v1, v2)
  | _ => none
noncomputable def E21 : Fun2 := fun args bs rs =>
  match args, bs, rs with
  | [.s1 (.one (.sl 0)), .s1 (.one (.val (.int .i64 a1)))], [], [⟨146, (.pair (.int .i64) (.pair (.int .i64) (.pair (.int .i64) (.pair (.int .i64) (.pair (.int .i64) (.pair (.int .i64) (.pair (.int .i64) (.pair (.int .i64) (.pair (.sl 3 (.int .i64)) .bool))))))))), a2, .own⟩] => some ⟨Int × (List (Int × Int × Int × Int × Int × Int × Int × Int × List Int × Bool)), L.markItemS a1 a2, R21⟩
  | _, _, _ => none
theorem ev21 (a1 : Int) (a2 : List (Int × Int × Int × Int × Int × Int × Int × Int × List Int × Bool)) : evF Try.prog G21 L21 (0, 1) [] Try.f21 c21 [vl 0, vi a1] [] [⟨146, (.pair (.int .i64) (.pair (.int .i64) (.pair (.int .i64) (.pair (.int .i64) (.pair (.int .i64) (.pair (.int .i64) (.pair (.int .i64) (.pair (.int .i64) (.pair (.sl 3 (.int .i64)) .bool))))))))), a2, .own⟩] K21 = L.markItemS a1 a2 := by kernel_rfl
theorem good21 : Vm.Good Try.prog 21 E21 := by
  refine evF_good (G := G21) (c := c21) (envCons_good good96 envNil_good) Try.func21 (by kernel_rfl) (by kernel_rfl) (0, 1) (fun args bs rs out t h h2 => ?_)
  unfold E21 at h
  split at h
  · injection h with h
    subst h
    exact ⟨rfl, [], L21, K21, lp21, (fun r t h => by unfold K21 at h; split at h; (injection h with h; subst h; rfl); cases h), (ev21 _ _).trans h2⟩
  · cases h
/-! ### L.markRecS -/
noncomputable def G26 : Env := envNil
noncomputable def c26 : Code := bodyOf Try.f26
noncomputable def c26_2 : Code := (loopsOf c26).getD 0 .skip
noncomputable def L.markRecS_l0 : Nat → (Int → (List (Int × Int × Int)) → Option (Int × (List (Int × Int × Int)))) → Int → Int → (List (Int × Int × Int)) → Option (Int × (List (Int × Int × Int)))
  | 0, _, _, _, _ => none
  | m + 1, e2_0, a3, a4, a5 =>
    (bif (decide (a4 < (a5.length : Int))) then
    (bif decide ((0 : Int) ≤ a4 ∧ a4 < (a5.length : Int)) then
    (let v8 : List (Int × Int × Int) := (a5.set (Int.toNat a4) (a3, (nthI a5 a4 ((0 : Int), ((0 : Int), (0 : Int)))).2))
    (let v9 : Int := (IntKind.wrap .i64 (a3 + 1))
    (bif decide ((0 : Int) ≤ a4 ∧ a4 < (v8.length : Int)) then
    (let v10 : List (Int × Int × Int) := (v8.set (Int.toNat a4) ((nthI v8 a4 ((0 : Int), ((0 : Int), (0 : Int)))).1, (v9, (nthI v8 a4 ((0 : Int), ((0 : Int), (0 : Int)))).2.2)))
    (let v11 : Int := (IntKind.wrap .i64 (v9 + 1))
    (bif decide ((0 : Int) ≤ a4 ∧ a4 < (v10.length : Int)) then
    (let v12 : List (Int × Int × Int) := (v10.set (Int.toNat a4) ((nthI v10 a4 ((0 : Int), ((0 : Int), (0 : Int)))).1, ((nthI v10 a4 ((0 : Int), ((0 : Int), (0 : Int)))).2.1, v11)))
    (L.markRecS_l0 m e2_0 (IntKind.wrap .i64 (v11 + 1)) (IntKind.wrap .i64 (a4 + 1)) v12))
    else
    none)))
    else
    none)))
    else
    none)
    else
    (e2_0 a3 a5))
noncomputable def L.markRecS (a1 : Int) (a2 : List (Int × Int × Int)) : Option (Int × (List (Int × Int × Int))) :=
(L.markRecS_l0 fu (fun y15 y16 =>
(some (y15, y16))) a1 0 a2)
noncomputable def H26_2 : LoopH := ⟨⟨((.one (.sl 0)) :: hh :: (hu 3 (hh :: (hu 28 [])))), [], [(158, (.pair (.int .i64) (.pair (.int .i64) (.int .i64))), .own)]⟩, [2, 3, 4, 6, 7, 8, 9, 10, 11, 12, 13, 14, 15, 16, 17, 18, 19, 20, 21, 22, 23, 24, 25, 26, 27, 28, 29, 30, 31, 32, 33], [], [0, 2, 3, 5, 6, 7, 8, 9, 10, 11, 12, 13, 14, 15, 16, 17, 18, 19, 20, 21, 22, 23, 24, 25, 26, 27, 28, 29, 30, 31, 32, 33]⟩
noncomputable def E26_2 (m : Nat) (ps : List Prm) (k : Kont (Int × (List (Int × Int × Int)))) : Option (Int × (List (Int × Int × Int))) :=
  match ps with
  | [.v (.int .i64 a3), .v (.int .i64 a4), .row (.pair (.int .i64) (.pair (.int .i64) (.int .i64))) a5] => L.markRecS_l0 m (fun z19 z20 => k (.exit 0) (⟨((.s1 (.one (.unk))) :: (vi z19) :: (vu 32 [])), [], [⟨158, (.pair (.int .i64) (.pair (.int .i64) (.int .i64))), z20, .own⟩]⟩ : St)) a3 a4 a5
  | _ => none
noncomputable def S26_2 (a3 a4 : Int) (a5 : List (Int × Int × Int)) : St := (⟨((vl 0) :: (vi a3) :: (vu 3 ((vi a4) :: (vu 28 [])))), [], [⟨158, (.pair (.int .i64) (.pair (.int .i64) (.int .i64))), a5, .own⟩]⟩ : St)
theorem ev26_2 (m : Nat) (k : Kont (Int × (List (Int × Int × Int)))) (a3 a4 : Int) (a5 : List (Int × Int × Int)) : evC Try.prog G26 loopNil c26_2 (S26_2 a3 a4 a5) (turn Try.prog (0, 1) H26_2 (E26_2 m) k) = E26_2 (m + 1) [.v (.int .i64 a3), .v (.int .i64 a4), .row (.pair (.int .i64) (.pair (.int .i64) (.int .i64))) a5] k := by kernel_rfl
theorem ok26_2 (m : Nat) : LoopOk Try.prog (0, 1) c26_2 (enter Try.prog (0, 1) H26_2 (E26_2 m)) := by
  refine loop_ok (G := G26) (L := loopNil) envNil_good (by intro x hx; simp [show loopsOf c26_2 = [] from by kernel_rfl] at hx) (fun ps k => by unfold E26_2; split <;> rfl) (fun m ps k r h => ?_) m
  have h0 := h
  unfold E26_2 at h
  split at h
  · exact ⟨S26_2 _ _ _, by kernel_rfl, (ev26_2 m k _ _ _).trans h0⟩
  · cases h
noncomputable def L26 : LEnv (Int × (List (Int × Int × Int))) := (loopCons 2 (enter Try.prog (0, 1) H26_2 (E26_2 fu)) loopNil)
theorem lq26 : loopsOf c26 = [c26_2] := by kernel_rfl
theorem fr26_2 : firstReg c26_2 = some 2 := by kernel_rfl
theorem le26_2 : L26 2 = enter Try.prog (0, 1) H26_2 (E26_2 fu) := by kernel_rfl
theorem lm26 : ∀ x ∈ [c26_2], ∀ id, firstReg x = some id → LoopOk Try.prog (0, 1) x (L26 id) := (loops_cons fr26_2 le26_2 (ok26_2 fu) loops_nil)
theorem lp26 : ∀ x ∈ loopsOf c26, ∀ id, firstReg x = some id → LoopOk Try.prog (0, 1) x (L26 id) := loops_eq lq26 lm26
noncomputable def R26 (x : Int × (List (Int × Int × Int))) : Res := ⟨[.one (ai x.1)], [], [⟨158, (.pair (.int .i64) (.pair (.int .i64) (.int .i64))), x.2, .own⟩]⟩
noncomputable def K26 (r : Res) : Option (Int × (List (Int × Int × Int))) :=
  match r with
  | ⟨[.one (.val (.int .i64 v1))], [], [⟨158, (.pair (.int .i64) (.pair (.int .i64) (.int .i64))), v2, .own⟩]⟩ => some (v1, v2)
  | _ => none
noncomputable def E26 : Fun2 := fun args bs rs =>
  match args, bs, rs with
  | [.s1 (.one (.sl 0)), .s1 (.one (.val (.int .i64 a1)))], [], [⟨158, (.pair (.int .i64) (.pair (.int .i64) (.int .i64))), a2, .own⟩] => some ⟨Int × (List (Int × Int × Int)), L.markRecS a1 a2, R26⟩
  | _, _, _ => none
theorem ev26 (a1 : Int) (a2 : List (Int × Int × Int)) : evF Try.prog G26 L26 (0, 1) [] Try.f26 c26 [vl 0, vi a1] [] [⟨158, (.pair (.int .i64) (.pair (.int .i64) (.int .i64))), a2, .own⟩] K26 = L.markRecS a1 a2 := by kernel_rfl
theorem good26 : Vm.Good Try.prog 26 E26 := by
  refine evF_good (G := G26) (c := c26) envNil_good Try.func26 (by kernel_rfl) (by kernel_rfl) (0, 1) (fun args bs rs out t h h2 => ?_)
  unfold E26 at h
  split at h
  · injection h with h
    subst h
    exact ⟨rfl, [], L26, K26, lp26, (fun r t h => by unfold K26 at h; split at h; (injection h with h; subst h; rfl); cases h), (ev26 _ _).trans h2⟩
  · cases h
/-! ### L.markBox -/
noncomputable def G20 : Env := (envCons 21 [0] E21 (envCons 26 [0] E26 envNil))
noncomputable def c20 : Code := bodyOf Try.f20
noncomputable def L.markBox (a1 a2 a3 a4 a5 : Int) (a6 : List (Int × Int × Int × Int × Int × Int × Int × Int × List Int × Bool)) (a7 : List (Int × Int × Int)) : Option (Int × (List (Int × Int × Int × Int × Int × Int × Int × Int × List Int × Bool)) × (List (Int × Int × Int))) :=
(Option.bind (L.markItemS a5 a6) fun r8 =>
(Option.bind (L.markRecS r8.1 a7) fun r9 =>
(some (r9.1, r8.2, r9.2))))
noncomputable def R20 (x : Int × (List (Int × Int × Int × Int × Int × Int × Int × Int × List Int × Bool)) × (List (Int × Int × Int))) : Res := ⟨[.one (ai x.1)], [], [⟨146, (.pair (.int .i64) (.pair (.int .i64) (.pair (.int .i64) (.pair (.int .i64) (.pair (.int .i64) (.pair (.int .i64) (.pair (.int .i64) (.pair (.int .i64) (.pair (.sl 3 (.int .i64)) .bool))))))))), x.2.1, .own⟩, ⟨158, (.pair (.int .i64) (.pair (.int .i64) (.int .i64))), x.2.2, .own⟩]⟩
noncomputable def K20 (r : Res) : Option (Int × (List (Int × Int × Int × Int × Int × Int × Int × Int × List Int × Bool)) × (List (Int × Int × Int))) :=
  match r with
  | ⟨[.one (.val (.int .i64 v1))], [], [⟨146, (.pair (.int .i64) (.pair (.int .i64) (.pair (.int .i64) (.pair (.int .i64) (.pair (.int .i64) (.pair (.int .i64) (.pair (.int .i64) (.pair (.int .i64) (.pair (.sl 3 (.int .i64)) .bool))))))))), v2, .own⟩, ⟨158, (.pair (.int .i64) (.pair (.int .i64) (.int .i64))), v3, .own⟩]⟩ => some (v1, v2, v3)
  | _ => none
noncomputable def E20 : Fun2 := fun args bs rs =>
  match args, bs, rs with
  | [.s1 (.agg [.val (.int .i64 a1), .val (.int .i64 a2), .val (.int .i64 a3), .val (.int .i64 a4), .sl 0, .sl 1]), .s1 (.one (.val (.int .i64 a5)))], [], [⟨146, (.pair (.int .i64) (.pair (.int .i64) (.pair (.int .i64) (.pair (.int .i64) (.pair (.int .i64) (.pair (.int .i64) (.pair (.int .i64) (.pair (.int .i64) (.pair (.sl 3 (.int .i64)) .bool))))))))), a6, .own⟩, ⟨158, (.pair (.int .i64) (.pair (.int .i64) (.int .i64))), a7, .own⟩] => some ⟨Int × (List (Int × Int × Int × Int × Int × Int × Int × Int × List Int × Bool)) × (List (Int × Int × Int)), L.markBox a1 a2 a3 a4 a5 a6 a7, R20⟩
  | _, _, _ => none
theorem ev20 (a1 a2 a3 a4 a5 : Int) (a6 : List (Int × Int × Int × Int × Int × Int × Int × Int × List Int × Bool)) (a7 : List (Int × Int × Int)) : evF Try.prog G20 loopNil (0, 2) [] Try.f20 c20 [.s1 (.agg [ai a1, ai a2, ai a3, ai a4, .sl 0, .sl 1]), vi a5] [] [⟨146, (.pair (.int .i64) (.pair (.int .i64) (.pair (.int .i64) (.pair (.int .i64) (.pair (.int .i64) (.pair (.int .i64) (.pair (.int .i64) (.pair (.int .i64) (.pair (.sl 3 (.int .i64)) .bool))))))))), a6, .own⟩, ⟨158, (.pair (.int .i64) (.pair (.int .i64) (.int .i64))), a7, .own⟩] K20 = L.markBox a1 a2 a3 a4 a5 a6 a7 := by kernel_rfl
theorem good20 : Vm.Good Try.prog 20 E20 := by
  refine evF_good (G := G20) (c := c20) (envCons_good good21 (envCons_good good26 envNil_good)) Try.func20 (by kernel_rfl) (by kernel_rfl) (0, 2) (fun args bs rs out t h h2 => ?_)
  unfold E20 at h
  split at h
  · injection h with h
    subst h
    exact ⟨rfl, [], loopNil, K20, (by intro x hx; simp [show loopsOf c20 = [] from by kernel_rfl] at hx), (fun r t h => by unfold K20 at h; split at h; (injection h with h; subst h; rfl); cases h), (ev20 _ _ _ _ _ _ _).trans h2⟩
  · cases h
/-! ### L.markPaneS -/
noncomputable def G39 : Env := (envCons 96 [0] E96 envNil)
noncomputable def c39 : Code := bodyOf Try.f39
noncomputable def c39_2 : Code := (loopsOf c39).getD 0 .skip
noncomputable def L.markPaneS_l0 : Nat → (Int → (List (Int × Int × Int × Int × Int × Int × List Int × Bool)) → Option (Int × (List (Int × Int × Int × Int × Int × Int × List Int × Bool)))) → Int → Int → (List (Int × Int × Int × Int × Int × Int × List Int × Bool)) → Option (Int × (List (Int × Int × Int × Int × Int × Int × List Int × Bool)))
  | 0, _, _, _, _ => none
  | m + 1, e2_0, a3, a4, a5 =>
    (bif (decide (a4 < (a5.length : Int))) then
    (bif decide ((0 : Int) ≤ a4 ∧ a4 < (a5.length : Int)) then
    (let v8 : List (Int × Int × Int × Int × Int × Int × List Int × Bool) := (a5.set (Int.toNat a4) (a3, (nthI a5 a4 ((0 : Int), ((0 : Int), ((0 : Int), ((0 : Int), ((0 : Int), ((0 : Int), ([], false)))))))).2))
    (let v9 : Int := (IntKind.wrap .i64 (a3 + 1))
    (bif decide ((0 : Int) ≤ a4 ∧ a4 < (v8.length : Int)) then
    (let v10 : List (Int × Int × Int × Int × Int × Int × List Int × Bool) := (v8.set (Int.toNat a4) ((nthI v8 a4 ((0 : Int), ((0 : Int), ((0 : Int), ((0 : Int), ((0 : Int), ((0 : Int), ([], false)))))))).1, (v9, (nthI v8 a4 ((0 : Int), ((0 : Int), ((0 : Int), ((0 : Int), ((0 : Int), ((0 : Int), ([], false)))))))).2.2)))
    (let v11 : Int := (IntKind.wrap .i64 (v9 + 1))
    (bif decide ((0 : Int) ≤ a4 ∧ a4 < (v10.length : Int)) then
    (let v12 : List (Int × Int × Int × Int × Int × Int × List Int × Bool) := (v10.set (Int.toNat a4) ((nthI v10 a4 ((0 : Int), ((0 : Int), ((0 : Int), ((0 : Int), ((0 : Int), ((0 : Int), ([], false)))))))).1, ((nthI v10 a4 ((0 : Int), ((0 : Int), ((0 : Int), ((0 : Int), ((0 : Int), ((0 : Int), ([], false)))))))).2.1, (v11, (nthI v10 a4 ((0 : Int), ((0 : Int), ((0 : Int), ((0 : Int), ((0 : Int), ((0 : Int), ([], false)))))))).2.2.2))))
    (let v13 : Int := (IntKind.wrap .i64 (v11 + 1))
    (bif decide ((0 : Int) ≤ a4 ∧ a4 < (v12.length : Int)) then
    (let v14 : List (Int × Int × Int × Int × Int × Int × List Int × Bool) := (v12.set (Int.toNat a4) ((nthI v12 a4 ((0 : Int), ((0 : Int), ((0 : Int), ((0 : Int), ((0 : Int), ((0 : Int), ([], false)))))))).1, ((nthI v12 a4 ((0 : Int), ((0 : Int), ((0 : Int), ((0 : Int), ((0 : Int), ((0 : Int), ([], false)))))))).2.1, ((nthI v12 a4 ((0 : Int), ((0 : Int), ((0 : Int), ((0 : Int), ((0 : Int), ((0 : Int), ([], false)))))))).2.2.1, (v13, (nthI v12 a4 ((0 : Int), ((0 : Int), ((0 : Int), ((0 : Int), ((0 : Int), ((0 : Int), ([], false)))))))).2.2.2.2)))))
    (let v15 : Int := (IntKind.wrap .i64 (v13 + 1))
    (bif decide ((0 : Int) ≤ a4 ∧ a4 < (v14.length : Int)) then
    (let v16 : List (Int × Int × Int × Int × Int × Int × List Int × Bool) := (v14.set (Int.toNat a4) ((nthI v14 a4 ((0 : Int), ((0 : Int), ((0 : Int), ((0 : Int), ((0 : Int), ((0 : Int), ([], false)))))))).1, ((nthI v14 a4 ((0 : Int), ((0 : Int), ((0 : Int), ((0 : Int), ((0 : Int), ((0 : Int), ([], false)))))))).2.1, ((nthI v14 a4 ((0 : Int), ((0 : Int), ((0 : Int), ((0 : Int), ((0 : Int), ((0 : Int), ([], false)))))))).2.2.1, ((nthI v14 a4 ((0 : Int), ((0 : Int), ((0 : Int), ((0 : Int), ((0 : Int), ((0 : Int), ([], false)))))))).2.2.2.1, (v15, (nthI v14 a4 ((0 : Int), ((0 : Int), ((0 : Int), ((0 : Int), ((0 : Int), ((0 : Int), ([], false)))))))).2.2.2.2.2))))))
    (let v17 : Int := (IntKind.wrap .i64 (v15 + 1))
    (bif decide ((0 : Int) ≤ a4 ∧ a4 < (v16.length : Int)) then
    (let v18 : List (Int × Int × Int × Int × Int × Int × List Int × Bool) := (v16.set (Int.toNat a4) ((nthI v16 a4 ((0 : Int), ((0 : Int), ((0 : Int), ((0 : Int), ((0 : Int), ((0 : Int), ([], false)))))))).1, ((nthI v16 a4 ((0 : Int), ((0 : Int), ((0 : Int), ((0 : Int), ((0 : Int), ((0 : Int), ([], false)))))))).2.1, ((nthI v16 a4 ((0 : Int), ((0 : Int), ((0 : Int), ((0 : Int), ((0 : Int), ((0 : Int), ([], false)))))))).2.2.1, ((nthI v16 a4 ((0 : Int), ((0 : Int), ((0 : Int), ((0 : Int), ((0 : Int), ((0 : Int), ([], false)))))))).2.2.2.1, ((nthI v16 a4 ((0 : Int), ((0 : Int), ((0 : Int), ((0 : Int), ((0 : Int), ((0 : Int), ([], false)))))))).2.2.2.2.1, (v17, (nthI v16 a4 ((0 : Int), ((0 : Int), ((0 : Int), ((0 : Int), ((0 : Int), ((0 : Int), ([], false)))))))).2.2.2.2.2.2)))))))
    (bif decide ((0 : Int) ≤ a4 ∧ a4 < (v18.length : Int)) then
    (Option.bind (L.markIntS (IntKind.wrap .i64 (v17 + 1)) ((nthI v18 a4 ((0 : Int), ((0 : Int), ((0 : Int), ((0 : Int), ((0 : Int), ((0 : Int), ([], false)))))))).2.2.2.2.2.2.1)) fun r20 =>
    (let v21 : List (Int × Int × Int × Int × Int × Int × List Int × Bool) := (v18.set (Int.toNat a4) ((nthI v18 a4 ((0 : Int), ((0 : Int), ((0 : Int), ((0 : Int), ((0 : Int), ((0 : Int), ([], false)))))))).1, ((nthI v18 a4 ((0 : Int), ((0 : Int), ((0 : Int), ((0 : Int), ((0 : Int), ((0 : Int), ([], false)))))))).2.1, ((nthI v18 a4 ((0 : Int), ((0 : Int), ((0 : Int), ((0 : Int), ((0 : Int), ((0 : Int), ([], false)))))))).2.2.1, ((nthI v18 a4 ((0 : Int), ((0 : Int), ((0 : Int), ((0 : Int), ((0 : Int), ((0 : Int), ([], false)))))))).2.2.2.1, ((nthI v18 a4 ((0 : Int), ((0 : Int), ((0 : Int), ((0 : Int), ((0 : Int), ((0 : Int), ([], false)))))))).2.2.2.2.1, ((nthI v18 a4 ((0 : Int), ((0 : Int), ((0 : Int), ((0 : Int), ((0 : Int), ((0 : Int), ([], false)))))))).2.2.2.2.2.1, (r20.2, (nthI v18 a4 ((0 : Int), ((0 : Int), ((0 : Int), ((0 : Int), ((0 : Int), ((0 : Int), ([], false)))))))).2.2.2.2.2.2.2))))))))
    (bif decide (3 = 0) then
    none
    else
    (bif decide ((0 : Int) ≤ a4 ∧ a4 < (v21.length : Int)) then
    (let v23 : List (Int × Int × Int × Int × Int × Int × List Int × Bool) := (v21.set (Int.toNat a4) ((nthI v21 a4 ((0 : Int), ((0 : Int), ((0 : Int), ((0 : Int), ((0 : Int), ((0 : Int), ([], false)))))))).1, ((nthI v21 a4 ((0 : Int), ((0 : Int), ((0 : Int), ((0 : Int), ((0 : Int), ((0 : Int), ([], false)))))))).2.1, ((nthI v21 a4 ((0 : Int), ((0 : Int), ((0 : Int), ((0 : Int), ((0 : Int), ((0 : Int), ([], false)))))))).2.2.1, ((nthI v21 a4 ((0 : Int), ((0 : Int), ((0 : Int), ((0 : Int), ((0 : Int), ((0 : Int), ([], false)))))))).2.2.2.1, ((nthI v21 a4 ((0 : Int), ((0 : Int), ((0 : Int), ((0 : Int), ((0 : Int), ((0 : Int), ([], false)))))))).2.2.2.2.1, ((nthI v21 a4 ((0 : Int), ((0 : Int), ((0 : Int), ((0 : Int), ((0 : Int), ((0 : Int), ([], false)))))))).2.2.2.2.2.1, ((nthI v21 a4 ((0 : Int), ((0 : Int), ((0 : Int), ((0 : Int), ((0 : Int), ((0 : Int), ([], false)))))))).2.2.2.2.2.2.1, ((Int.tmod r20.1 3) == 0)))))))))
    (L.markPaneS_l0 m e2_0 (IntKind.wrap .i64 (r20.1 + 1)) (IntKind.wrap .i64 (a4 + 1)) v23))
    else
    none))))
    else
    none))
    else
    none)))
    else
    none)))
    else
    none)))
    else
    none)))
    else
    none)))
    else
    none)
    else
    (e2_0 a3 a5))
noncomputable def L.markPaneS (a1 : Int) (a2 : List (Int × Int × Int × Int × Int × Int × List Int × Bool)) : Option (Int × (List (Int × Int × Int × Int × Int × Int × List Int × Bool))) :=
(L.markPaneS_l0 fu (fun y26 y27 =>
(some (y26, y27))) a1 0 a2)
noncomputable def H39_2 : LoopH := ⟨⟨((.one (.sl 0)) :: hh :: (hu 3 (hh :: (hu 65 [])))), [], [(68, (.pair (.int .i64) (.pair (.int .i64) (.pair (.int .i64) (.pair (.int .i64) (.pair (.int .i64) (.pair (.int .i64) (.pair (.sl 3 (.int .i64)) .bool))))))), .own)]⟩, [2, 3, 4, 6, 7, 8, 9, 10, 11, 12, 13, 14, 15, 16, 17, 18, 19, 20, 21, 22, 23, 24, 25, 26, 27, 28, 29, 30, 31, 32, 33, 34, 35, 36, 37, 38, 39, 40, 41, 42, 43, 44, 45, 46, 47, 48, 49, 50, 51, 52, 53, 54, 55, 56, 57, 58, 59, 60, 61, 62, 63, 64, 65, 66, 67, 68, 69, 70], [], [0, 2, 3, 5, 6, 7, 8, 9, 10, 11, 12, 13, 14, 15, 16, 17, 18, 19, 20, 21, 22, 23, 24, 25, 26, 27, 28, 29, 30, 31, 32, 33, 34, 35, 36, 37, 38, 39, 40, 41, 42, 43, 44, 45, 46, 47, 48, 49, 50, 51, 52, 53, 54, 55, 56, 57, 58, 59, 60, 61, 62, 63, 64, 65, 66, 67, 68, 69, 70]⟩
noncomputable def E39_2 (m : Nat) (ps : List Prm) (k : Kont (Int × (List (Int × Int × Int × Int × Int × Int × List Int × Bool)))) : Option (Int × (List (Int × Int × Int × Int × Int × Int × List Int × Bool))) :=
  match ps with
  | [.v (.int .i64 a3), .v (.int .i64 a4), .row (.pair (.int .i64) (.pair (.int .i64) (.pair (.int .i64) (.pair (.int .i64) (.pair (.int .i64) (.pair (.int .i64) (.pair (.sl 3 (.int .i64)) .bool))))))) a5] => L.markPaneS_l0 m (fun z30 z31 => k (.exit 0) (⟨((.s1 (.one (.unk))) :: (vi z30) :: (vu 69 [])), [], [⟨68, (.pair (.int .i64) (.pair (.int .i64) (.pair (.int .i64) (.pair (.int .i64) (.pair (.int .i64) (.pair (.int .i64) (.pair (.sl 3 (.int .i64)) .bool))))))), z31, .own⟩]⟩ : St)) a3 a4 a5
  | _ => none
noncomputable def S39_2 (a3 a4 : Int) (a5 : List (Int × Int × Int × Int × Int × Int × List Int × Bool)) : St := (⟨((vl 0) :: (vi a3) :: (vu 3 ((vi a4) :: (vu 65 [])))), [], [⟨68, (.pair (.int .i64) (.pair (.int .i64) (.pair (.int .i64) (.pair (.int .i64) (.pair (.int .i64) (.pair (.int .i64) (.pair (.sl 3 (.int .i64)) .bool))))))), a5, .own⟩]⟩ : St)
theorem ev39_2 (m : Nat) (k : Kont (Int × (List (Int × Int × Int × Int × Int × Int × List Int × Bool)))) (a3 a4 : Int) (a5 : List (Int × Int × Int × Int × Int × Int × List Int × Bool)) : evC Try.prog G39 loopNil c39_2 (S39_2 a3 a4 a5) (turn Try.prog (0, 1) H39_2 (E39_2 m) k) = E39_2 (m + 1) [.v (.int .i64 a3), .v (.int .i64 a4), .row (.pair (.int .i64) (.pair (.int .i64) (.pair (.int .i64) (.pair (.int .i64) (.pair (.int .i64) (.pair (.int .i64) (.pair (.sl 3 (.int .i64)) .bool))))))) a5] k := by kernel_rfl
theorem ok39_2 (m : Nat) : LoopOk Try.prog (0, 1) c39_2 (enter Try.prog (0, 1) H39_2 (E39_2 m)) := by
  refine loop_ok (G := G39) (L := loopNil) (envCons_good good96 envNil_good) (by intro x hx; simp [show loopsOf c39_2 = [] from by kernel_rfl] at hx) (fun ps k => by unfold E39_2; split <;> rfl) (fun m ps k r h => ?_) m
  have h0 := h
  unfold E39_2 at h
  split at h
  · exact ⟨S39_2 _ _ _, by kernel_rfl, (ev39_2 m k _ _ _).trans h0⟩
  · cases h
noncomputable def L39 : LEnv (Int × (List (Int × Int × Int × Int × Int × Int × List Int × Bool))) := (loopCons 2 (enter Try.prog (0, 1) H39_2 (E39_2 fu)) loopNil)
theorem lq39 : loopsOf c39 = [c39_2] := by kernel_rfl
theorem fr39_2 : firstReg c39_2 = some 2 := by kernel_rfl
theorem le39_2 : L39 2 = enter Try.prog (0, 1) H39_2 (E39_2 fu) := by kernel_rfl
theorem lm39 : ∀ x ∈ [c39_2], ∀ id, firstReg x = some id → LoopOk Try.prog (0, 1) x (L39 id) := (loops_cons fr39_2 le39_2 (ok39_2 fu) loops_nil)
theorem lp39 : ∀ x ∈ loopsOf c39, ∀ id, firstReg x = some id → LoopOk Try.prog (0, 1) x (L39 id) := loops_eq lq39 lm39
noncomputable def R39 (x : Int × (List (Int × Int × Int × Int × Int × Int × List Int × Bool))) : Res := ⟨[.one (ai x.1)], [], [⟨68, (.pair (.int .i64) (.pair (.int .i64) (.pair (.int .i64) (.pair (.int .i64) (.pair (.int .i64) (.pair (.int .i64) (.pair (.sl 3 (.int .i64)) .bool))))))), x.2, .own⟩]⟩
noncomputable def K39 (r : Res) : Option (Int × (List (Int × Int × Int × Int × Int × Int × List Int × Bool))) :=
  match r with
  | ⟨[.one (.val (.int .i64 v1))], [], [⟨68, (.pair (.int .i64) (.pair (.int .i64) (.pair (.int .i64) (.pair (.int .i64) (.pair (.int .i64) (.pair (.int .i64) (.pair (.sl 3 (.int .i64)) .bool))))))), v2, .own⟩]⟩ => some (v1, v2)
  | _ => none
noncomputable def E39 : Fun2 := fun args bs rs =>
  match args, bs, rs with
  | [.s1 (.one (.sl 0)), .s1 (.one (.val (.int .i64 a1)))], [], [⟨68, (.pair (.int .i64) (.pair (.int .i64) (.pair (.int .i64) (.pair (.int .i64) (.pair (.int .i64) (.pair (.int .i64) (.pair (.sl 3 (.int .i64)) .bool))))))), a2, .own⟩] => some ⟨Int × (List (Int × Int × Int × Int × Int × Int × List Int × Bool)), L.markPaneS a1 a2, R39⟩
  | _, _, _ => none
theorem ev39 (a1 : Int) (a2 : List (Int × Int × Int × Int × Int × Int × List Int × Bool)) : evF Try.prog G39 L39 (0, 1) [] Try.f39 c39 [vl 0, vi a1] [] [⟨68, (.pair (.int .i64) (.pair (.int .i64) (.pair (.int .i64) (.pair (.int .i64) (.pair (.int .i64) (.pair (.int .i64) (.pair (.sl 3 (.int .i64)) .bool))))))), a2, .own⟩] K39 = L.markPaneS a1 a2 := by kernel_rfl
theorem good39 : Vm.Good Try.prog 39 E39 := by
  refine evF_good (G := G39) (c := c39) (envCons_good good96 envNil_good) Try.func39 (by kernel_rfl) (by kernel_rfl) (0, 1) (fun args bs rs out t h h2 => ?_)
  unfold E39 at h
  split at h
  · injection h with h
    subst h
    exact ⟨rfl, [], L39, K39, lp39, (fun r t h => by unfold K39 at h; split at h; (injection h with h; subst h; rfl); cases h), (ev39 _ _).trans h2⟩
  · cases h
/-! ### L.heldIntS -/
noncomputable def G97 : Env := envNil
noncomputable def c97 : Code := bodyOf Try.f97
noncomputable def c97_2 : Code := (loopsOf c97).getD 0 .skip
noncomputable def L.heldIntS_l0 : Nat → (Int → Int → Option Int) → (Int → Option Int) → Int → Int → List Int → Option Int
  | 0, _, _, _, _, _ => none
  | m + 1, e2_0, e2_1, a3, a4, a5 =>
    (bif (decide (a4 < (a5.length : Int))) then
    (bif decide ((0 : Int) ≤ a4 ∧ a4 < (a5.length : Int)) then
    (bif ((nthI a5 a4 (0 : Int)) != a3) then
    (e2_0 a3 (-1))
    else
    (L.heldIntS_l0 m e2_0 e2_1 (IntKind.wrap .i64 (a3 + 1)) (IntKind.wrap .i64 (a4 + 1)) a5))
    else
    none)
    else
    (e2_1 a3))
noncomputable def L.heldIntS (a1 : Int) (a2 : List Int) : Option Int :=
(L.heldIntS_l0 fu (fun y11 y12 =>
(some y12)) (fun y13 =>
(some y13)) a1 0 a2)
noncomputable def H97_2 : LoopH := ⟨⟨((.one (.sl 0)) :: hh :: (hu 3 (hh :: (hu 15 [])))), [], [(3, (.int .i64), .ro)]⟩, [2, 3, 4, 6, 7, 8, 9, 10, 11, 12, 13, 14, 15, 16, 17, 18, 19, 20], [], [0, 2, 3, 5, 6, 7, 8, 9, 10, 11, 12, 13, 14, 15, 16, 17, 18, 19, 20]⟩
noncomputable def E97_2 (m : Nat) (ps : List Prm) (k : Kont Int) : Option Int :=
  match ps with
  | [.v (.int .i64 a3), .v (.int .i64 a4), .row (.int .i64) a5] => L.heldIntS_l0 m (fun z17 z18 => k .ret (⟨((.s1 (.one (.unk))) :: (vi z17) :: (vu 2 ((vi z18) :: (vu 16 [])))), [], []⟩ : St)) (fun z19 => k (.exit 0) (⟨((.s1 (.one (.unk))) :: (vi z19) :: (vu 19 [])), [], []⟩ : St)) a3 a4 a5
  | _ => none
noncomputable def S97_2 (a3 a4 : Int) (a5 : List Int) : St := (⟨((vl 0) :: (vi a3) :: (vu 3 ((vi a4) :: (vu 15 [])))), [], [⟨3, (.int .i64), a5, .ro⟩]⟩ : St)
theorem ev97_2 (m : Nat) (k : Kont Int) (a3 a4 : Int) (a5 : List Int) : evC Try.prog G97 loopNil c97_2 (S97_2 a3 a4 a5) (turn Try.prog (0, 0) H97_2 (E97_2 m) k) = E97_2 (m + 1) [.v (.int .i64 a3), .v (.int .i64 a4), .row (.int .i64) a5] k := by kernel_rfl
theorem ok97_2 (m : Nat) : LoopOk Try.prog (0, 0) c97_2 (enter Try.prog (0, 0) H97_2 (E97_2 m)) := by
  refine loop_ok (G := G97) (L := loopNil) envNil_good (by intro x hx; simp [show loopsOf c97_2 = [] from by kernel_rfl] at hx) (fun ps k => by unfold E97_2; split <;> rfl) (fun m ps k r h => ?_) m
  have h0 := h
  unfold E97_2 at h
  split at h
  · exact ⟨S97_2 _ _ _, by kernel_rfl, (ev97_2 m k _ _ _).trans h0⟩
  · cases h
noncomputable def L97 : LEnv Int := (loopCons 2 (enter Try.prog (0, 0) H97_2 (E97_2 fu)) loopNil)
theorem lq97 : loopsOf c97 = [c97_2] := by kernel_rfl
theorem fr97_2 : firstReg c97_2 = some 2 := by kernel_rfl
theorem le97_2 : L97 2 = enter Try.prog (0, 0) H97_2 (E97_2 fu) := by kernel_rfl
theorem lm97 : ∀ x ∈ [c97_2], ∀ id, firstReg x = some id → LoopOk Try.prog (0, 0) x (L97 id) := (loops_cons fr97_2 le97_2 (ok97_2 fu) loops_nil)
theorem lp97 : ∀ x ∈ loopsOf c97, ∀ id, firstReg x = some id → LoopOk Try.prog (0, 0) x (L97 id) := loops_eq lq97 lm97
noncomputable def R97 (x : Int) : Res := ⟨[.one (ai x)], [], []⟩
noncomputable def K97 (r : Res) : Option Int :=
  match r with
  | ⟨[.one (.val (.int .i64 v1))], [], []⟩ => some (v1)
  | _ => none
noncomputable def E97 : Fun2 := fun args bs rs =>
  match args, bs, rs with
  | [.s1 (.one (.sl 0)), .s1 (.one (.val (.int .i64 a1)))], [], [⟨3, (.int .i64), a2, .ro⟩] => some ⟨Int, L.heldIntS a1 a2, R97⟩
  | _, _, _ => none
theorem ev97 (a1 : Int) (a2 : List Int) : evF Try.prog G97 L97 (0, 0) [] Try.f97 c97 [vl 0, vi a1] [] [⟨3, (.int .i64), a2, .ro⟩] K97 = L.heldIntS a1 a2 := by kernel_rfl
theorem good97 : Vm.Good Try.prog 97 E97 := by
  refine evF_good (G := G97) (c := c97) envNil_good Try.func97 (by kernel_rfl) (by kernel_rfl) (0, 0) (fun args bs rs out t h h2 => ?_)
  unfold E97 at h
  split at h
  · injection h with h
    subst h
    exact ⟨rfl, [], L97, K97, lp97, (fun r t h => by unfold K97 at h; split at h; (injection h with h; subst h; rfl); cases h), (ev97 _ _).trans h2⟩
  · cases h
/-! ### L.heldItemS -/
noncomputable def G22 : Env := (envCons 97 [] E97 envNil)
noncomputable def c22 : Code := bodyOf Try.f22
noncomputable def c22_2 : Code := (loopsOf c22).getD 0 .skip
noncomputable def L.heldItemS_l0 : Nat → (Int → Int → Option Int) → (Int → Option Int) → Int → Int → (List (Int × Int × Int × Int × Int × Int × Int × Int × List Int × Bool)) → Option Int
  | 0, _, _, _, _, _ => none
  | m + 1, e2_0, e2_1, a3, a4, a5 =>
    (bif (decide (a4 < (a5.length : Int))) then
    (bif decide ((0 : Int) ≤ a4 ∧ a4 < (a5.length : Int)) then
    (let v8 : Bool := ((nthI a5 a4 ((0 : Int), ((0 : Int), ((0 : Int), ((0 : Int), ((0 : Int), ((0 : Int), ((0 : Int), ((0 : Int), ([], false)))))))))).1 != a3)
    (bif v8 then
    (e2_0 a3 (-1))
    else
    (let v9 : Int := (IntKind.wrap .i64 (a3 + 1))
    (bif decide ((0 : Int) ≤ a4 ∧ a4 < (a5.length : Int)) then
    (let v10 : Bool := ((nthI a5 a4 ((0 : Int), ((0 : Int), ((0 : Int), ((0 : Int), ((0 : Int), ((0 : Int), ((0 : Int), ((0 : Int), ([], false)))))))))).2.1 != v9)
    (bif v10 then
    (e2_0 v9 (-1))
    else
    (let v11 : Int := (IntKind.wrap .i64 (v9 + 1))
    (bif decide ((0 : Int) ≤ a4 ∧ a4 < (a5.length : Int)) then
    (let v12 : Bool := ((nthI a5 a4 ((0 : Int), ((0 : Int), ((0 : Int), ((0 : Int), ((0 : Int), ((0 : Int), ((0 : Int), ((0 : Int), ([], false)))))))))).2.2.1 != v11)
    (bif v12 then
    (e2_0 v11 (-1))
    else
    (let v13 : Int := (IntKind.wrap .i64 (v11 + 1))
    (bif decide ((0 : Int) ≤ a4 ∧ a4 < (a5.length : Int)) then
    (let v14 : Bool := ((nthI a5 a4 ((0 : Int), ((0 : Int), ((0 : Int), ((0 : Int), ((0 : Int), ((0 : Int), ((0 : Int), ((0 : Int), ([], false)))))))))).2.2.2.1 != v13)
    (bif v14 then
    (e2_0 v13 (-1))
    else
    (let v15 : Int := (IntKind.wrap .i64 (v13 + 1))
    (bif decide ((0 : Int) ≤ a4 ∧ a4 < (a5.length : Int)) then
    (let v16 : Bool := ((nthI a5 a4 ((0 : Int), ((0 : Int), ((0 : Int), ((0 : Int), ((0 : Int), ((0 : Int), ((0 : Int), ((0 : Int), ([], false)))))))))).2.2.2.2.1 != v15)
    (bif v16 then
    (e2_0 v15 (-1))
    else
    (let v17 : Int := (IntKind.wrap .i64 (v15 + 1))
    (bif decide ((0 : Int) ≤ a4 ∧ a4 < (a5.length : Int)) then
    (let v18 : Bool := ((nthI a5 a4 ((0 : Int), ((0 : Int), ((0 : Int), ((0 : Int), ((0 : Int), ((0 : Int), ((0 : Int), ((0 : Int), ([], false)))))))))).2.2.2.2.2.1 != v17)
    (bif v18 then
    (e2_0 v17 (-1))
    else
    (let v19 : Int := (IntKind.wrap .i64 (v17 + 1))
    (bif decide ((0 : Int) ≤ a4 ∧ a4 < (a5.length : Int)) then
    (let v20 : Bool := ((nthI a5 a4 ((0 : Int), ((0 : Int), ((0 : Int), ((0 : Int), ((0 : Int), ((0 : Int), ((0 : Int), ((0 : Int), ([], false)))))))))).2.2.2.2.2.2.1 != v19)
    (bif v20 then
    (e2_0 v19 (-1))
    else
    (let v21 : Int := (IntKind.wrap .i64 (v19 + 1))
    (bif decide ((0 : Int) ≤ a4 ∧ a4 < (a5.length : Int)) then
    (let v22 : Bool := ((nthI a5 a4 ((0 : Int), ((0 : Int), ((0 : Int), ((0 : Int), ((0 : Int), ((0 : Int), ((0 : Int), ((0 : Int), ([], false)))))))))).2.2.2.2.2.2.2.1 != v21)
    (bif v22 then
    (e2_0 v21 (-1))
    else
    (bif decide ((0 : Int) ≤ a4 ∧ a4 < (a5.length : Int)) then
    (Option.bind (L.heldIntS (IntKind.wrap .i64 (v21 + 1)) ((nthI a5 a4 ((0 : Int), ((0 : Int), ((0 : Int), ((0 : Int), ((0 : Int), ((0 : Int), ((0 : Int), ((0 : Int), ([], false)))))))))).2.2.2.2.2.2.2.2.1)) fun r24 =>
    (bif (decide (r24 < 0)) then
    (e2_0 r24 (-1))
    else
    (bif decide ((0 : Int) ≤ a4 ∧ a4 < (a5.length : Int)) then
    (bif decide (3 = 0) then
    none
    else
    (let v27 : Bool := (!((nthI a5 a4 ((0 : Int), ((0 : Int), ((0 : Int), ((0 : Int), ((0 : Int), ((0 : Int), ((0 : Int), ((0 : Int), ([], false)))))))))).2.2.2.2.2.2.2.2.2 == ((Int.tmod r24 3) == 0)))
    (bif v27 then
    (e2_0 r24 (-1))
    else
    (L.heldItemS_l0 m e2_0 e2_1 (IntKind.wrap .i64 (r24 + 1)) (IntKind.wrap .i64 (a4 + 1)) a5))))
    else
    none)))
    else
    none)))
    else
    none))))
    else
    none))))
    else
    none))))
    else
    none))))
    else
    none))))
    else
    none))))
    else
    none))))
    else
    none)
    else
    (e2_1 a3))
noncomputable def L.heldItemS (a1 : Int) (a2 : List (Int × Int × Int × Int × Int × Int × Int × Int × List Int × Bool)) : Option Int :=
(L.heldItemS_l0 fu (fun y30 y31 =>
(some y31)) (fun y32 =>
(some y32)) a1 0 a2)
noncomputable def H22_2 : LoopH := ⟨⟨((.one (.sl 0)) :: hh :: (hu 3 (hh :: (hu 107 [])))), [], [(146, (.pair (.int .i64) (.pair (.int .i64) (.pair (.int .i64) (.pair (.int .i64) (.pair (.int .i64) (.pair (.int .i64) (.pair (.int .i64) (.pair (.int .i64) (.pair (.sl 3 (.int .i64)) .bool))))))))), .ro)]⟩, [2, 3, 4, 6, 7, 8, 9, 10, 11, 12, 13, 14, 15, 16, 17, 18, 19, 20, 21, 22, 23, 24, 25, 26, 27, 28, 29, 30, 31, 32, 33, 34, 35, 36, 37, 38, 39, 40, 41, 42, 43, 44, 45, 46, 47, 48, 49, 50, 51, 52, 53, 54, 55, 56, 57, 58, 59, 60, 61, 62, 63, 64, 65, 66, 67, 68, 69, 70, 71, 72, 73, 74, 75, 76, 77, 78, 79, 80, 81, 82, 83, 84, 85, 86, 87, 88, 89, 90, 91, 92, 93, 94, 95, 96, 97, 98, 99, 100, 101, 102, 103, 104, 105, 106, 107, 108, 109, 110, 111, 112], [], [0, 2, 3, 5, 6, 7, 8, 9, 10, 11, 12, 13, 14, 15, 16, 17, 18, 19, 20, 21, 22, 23, 24, 25, 26, 27, 28, 29, 30, 31, 32, 33, 34, 35, 36, 37, 38, 39, 40, 41, 42, 43, 44, 45, 46, 47, 48, 49, 50, 51, 52, 53, 54, 55, 56, 57, 58, 59, 60, 61, 62, 63, 64, 65, 66, 67, 68, 69, 70, 71, 72, 73, 74, 75, 76, 77, 78, 79, 80, 81, 82, 83, 84, 85, 86, 87, 88, 89, 90, 91, 92, 93, 94, 95, 96, 97, 98, 99, 100, 101, 102, 103, 104, 105, 106, 107, 108, 109, 110, 111, 112]⟩
noncomputable def E22_2 (m : Nat) (ps : List Prm) (k : Kont Int) : Option Int :=
  match ps with
  | [.v (.int .i64 a3), .v (.int .i64 a4), .row (.pair (.int .i64) (.pair (.int .i64) (.pair (.int .i64) (.pair (.int .i64) (.pair (.int .i64) (.pair (.int .i64) (.pair (.int .i64) (.pair (.int .i64) (.pair (.sl 3 (.int .i64)) .bool))))))))) a5] => L.heldItemS_l0 m (fun z36 z37 => k .ret (⟨((.s1 (.one (.unk))) :: (vi z36) :: (vu 2 ((vi z37) :: (vu 108 [])))), [], []⟩ : St)) (fun z38 => k (.exit 0) (⟨((.s1 (.one (.unk))) :: (vi z38) :: (vu 111 [])), [], []⟩ : St)) a3 a4 a5
  | _ => none
noncomputable def S22_2 (a3 a4 : Int) (a5 : List (Int × Int × Int × Int × Int × Int × Int × Int × List Int × Bool)) : St := (⟨((vl 0) :: (vi a3) :: (vu 3 ((vi a4) :: (vu 107 [])))), [], [⟨146, (.pair (.int .i64) (.pair (.int .i64) (.pair (.int .i64) (.pair (.int .i64) (.pair (.int .i64) (.pair (.int .i64) (.pair (.int .i64) (.pair (.int .i64) (.pair (.sl 3 (.int .i64)) .bool))))))))), a5, .ro⟩]⟩ : St)
theorem ev22_2 (m : Nat) (k : Kont Int) (a3 a4 : Int) (a5 : List (Int × Int × Int × Int × Int × Int × Int × Int × List Int × Bool)) : evC Try.prog G22 loopNil c22_2 (S22_2 a3 a4 a5) (turn Try.prog (0, 0) H22_2 (E22_2 m) k) = E22_2 (m + 1) [.v (.int .i64 a3), .v (.int .i64 a4), .row (.pair (.int .i64) (.pair (.int .i64) (.pair (.int .i64) (.pair (.int .i64) (.pair (.int .i64) (.pair (.int .i64) (.pair (.int .i64) (.pair (.int .i64) (.pair (.sl 3 (.int .i64)) .bool))))))))) a5] k := by kernel_rfl
theorem ok22_2 (m : Nat) : LoopOk Try.prog (0, 0) c22_2 (enter Try.prog (0, 0) H22_2 (E22_2 m)) := by
  refine loop_ok (G := G22) (L := loopNil) (envCons_good good97 envNil_good) (by intro x hx; simp [show loopsOf c22_2 = [] from by kernel_rfl] at hx) (fun ps k => by unfold E22_2; split <;> rfl) (fun m ps k r h => ?_) m
  have h0 := h
  unfold E22_2 at h
  split at h
  · exact ⟨S22_2 _ _ _, by kernel_rfl, (ev22_2 m k _ _ _).trans h0⟩
  · cases h
noncomputable def L22 : LEnv Int := (loopCons 2 (enter Try.prog (0, 0) H22_2 (E22_2 fu)) loopNil)
theorem lq22 : loopsOf c22 = [c22_2] := by kernel_rfl
theorem fr22_2 : firstReg c22_2 = some 2 := by kernel_rfl
theorem le22_2 : L22 2 = enter Try.prog (0, 0) H22_2 (E22_2 fu) := by kernel_rfl
theorem lm22 : ∀ x ∈ [c22_2], ∀ id, firstReg x = some id → LoopOk Try.prog (0, 0) x (L22 id) := (loops_cons fr22_2 le22_2 (ok22_2 fu) loops_nil)
theorem lp22 : ∀ x ∈ loopsOf c22, ∀ id, firstReg x = some id → LoopOk Try.prog (0, 0) x (L22 id) := loops_eq lq22 lm22
noncomputable def R22 (x : Int) : Res := ⟨[.one (ai x)], [], []⟩
noncomputable def K22 (r : Res) : Option Int :=
  match r with
  | ⟨[.one (.val (.int .i64 v1))], [], []⟩ => some (v1)
  | _ => none
noncomputable def E22 : Fun2 := fun args bs rs =>
  match args, bs, rs with
  | [.s1 (.one (.sl 0)), .s1 (.one (.val (.int .i64 a1)))], [], [⟨146, (.pair (.int .i64) (.pair (.int .i64) (.pair (.int .i64) (.pair (.int .i64) (.pair (.int .i64) (.pair (.int .i64) (.pair (.int .i64) (.pair (.int .i64) (.pair (.sl 3 (.int .i64)) .bool))))))))), a2, .ro⟩] => some ⟨Int, L.heldItemS a1 a2, R22⟩
  | _, _, _ => none
theorem ev22 (a1 : Int) (a2 : List (Int × Int × Int × Int × Int × Int × Int × Int × List Int × Bool)) : evF Try.prog G22 L22 (0, 0) [] Try.f22 c22 [vl 0, vi a1] [] [⟨146, (.pair (.int .i64) (.pair (.int .i64) (.pair (.int .i64) (.pair (.int .i64) (.pair (.int .i64) (.pair (.int .i64) (.pair (.int .i64) (.pair (.int .i64) (.pair (.sl 3 (.int .i64)) .bool))))))))), a2, .ro⟩] K22 = L.heldItemS a1 a2 := by kernel_rfl
theorem good22 : Vm.Good Try.prog 22 E22 := by
  refine evF_good (G := G22) (c := c22) (envCons_good good97 envNil_good) Try.func22 (by kernel_rfl) (by kernel_rfl) (0, 0) (fun args bs rs out t h h2 => ?_)
  unfold E22 at h
  split at h
  · injection h with h
    subst h
    exact ⟨rfl, [], L22, K22, lp22, (fun r t h => by unfold K22 at h; split at h; (injection h with h; subst h; rfl); cases h), (ev22 _ _).trans h2⟩
  · cases h
/-! ### L.heldRecS -/
noncomputable def G28 : Env := envNil
noncomputable def c28 : Code := bodyOf Try.f28
noncomputable def c28_2 : Code := (loopsOf c28).getD 0 .skip
noncomputable def L.heldRecS_l0 : Nat → (Int → Int → Option Int) → (Int → Option Int) → Int → Int → (List (Int × Int × Int)) → Option Int
  | 0, _, _, _, _, _ => none
  | m + 1, e2_0, e2_1, a3, a4, a5 =>
    (bif (decide (a4 < (a5.length : Int))) then
    (bif decide ((0 : Int) ≤ a4 ∧ a4 < (a5.length : Int)) then
    (bif ((nthI a5 a4 ((0 : Int), ((0 : Int), (0 : Int)))).1 != a3) then
    (e2_0 a3 (-1))
    else
    (let v9 : Int := (IntKind.wrap .i64 (a3 + 1))
    (bif decide ((0 : Int) ≤ a4 ∧ a4 < (a5.length : Int)) then
    (bif ((nthI a5 a4 ((0 : Int), ((0 : Int), (0 : Int)))).2.1 != v9) then
    (e2_0 v9 (-1))
    else
    (let v11 : Int := (IntKind.wrap .i64 (v9 + 1))
    (bif decide ((0 : Int) ≤ a4 ∧ a4 < (a5.length : Int)) then
    (let v12 : Bool := ((nthI a5 a4 ((0 : Int), ((0 : Int), (0 : Int)))).2.2 != v11)
    (bif v12 then
    (e2_0 v11 (-1))
    else
    (L.heldRecS_l0 m e2_0 e2_1 (IntKind.wrap .i64 (v11 + 1)) (IntKind.wrap .i64 (a4 + 1)) a5)))
    else
    none)))
    else
    none)))
    else
    none)
    else
    (e2_1 a3))
noncomputable def L.heldRecS (a1 : Int) (a2 : List (Int × Int × Int)) : Option Int :=
(L.heldRecS_l0 fu (fun y15 y16 =>
(some y16)) (fun y17 =>
(some y17)) a1 0 a2)
noncomputable def H28_2 : LoopH := ⟨⟨((.one (.sl 0)) :: hh :: (hu 3 (hh :: (hu 34 [])))), [], [(158, (.pair (.int .i64) (.pair (.int .i64) (.int .i64))), .ro)]⟩, [2, 3, 4, 6, 7, 8, 9, 10, 11, 12, 13, 14, 15, 16, 17, 18, 19, 20, 21, 22, 23, 24, 25, 26, 27, 28, 29, 30, 31, 32, 33, 34, 35, 36, 37, 38, 39], [], [0, 2, 3, 5, 6, 7, 8, 9, 10, 11, 12, 13, 14, 15, 16, 17, 18, 19, 20, 21, 22, 23, 24, 25, 26, 27, 28, 29, 30, 31, 32, 33, 34, 35, 36, 37, 38, 39]⟩
noncomputable def E28_2 (m : Nat) (ps : List Prm) (k : Kont Int) : Option Int :=
  match ps with
  | [.v (.int .i64 a3), .v (.int .i64 a4), .row (.pair (.int .i64) (.pair (.int .i64) (.int .i64))) a5] => L.heldRecS_l0 m (fun z21 z22 => k .ret (⟨((.s1 (.one (.unk))) :: (vi z21) :: (vu 2 ((vi z22) :: (vu 35 [])))), [], []⟩ : St)) (fun z23 => k (.exit 0) (⟨((.s1 (.one (.unk))) :: (vi z23) :: (vu 38 [])), [], []⟩ : St)) a3 a4 a5
  | _ => none
noncomputable def S28_2 (a3 a4 : Int) (a5 : List (Int × Int × Int)) : St := (⟨((vl 0) :: (vi a3) :: (vu 3 ((vi a4) :: (vu 34 [])))), [], [⟨158, (.pair (.int .i64) (.pair (.int .i64) (.int .i64))), a5, .ro⟩]⟩ : St)
theorem ev28_2 (m : Nat) (k : Kont Int) (a3 a4 : Int) (a5 : List (Int × Int × Int)) : evC Try.prog G28 loopNil c28_2 (S28_2 a3 a4 a5) (turn Try.prog (0, 0) H28_2 (E28_2 m) k) = E28_2 (m + 1) [.v (.int .i64 a3), .v (.int .i64 a4), .row (.pair (.int .i64) (.pair (.int .i64) (.int .i64))) a5] k := by kernel_rfl
theorem ok28_2 (m : Nat) : LoopOk Try.prog (0, 0) c28_2 (enter Try.prog (0, 0) H28_2 (E28_2 m)) := by
  refine loop_ok (G := G28) (L := loopNil) envNil_good (by intro x hx; simp [show loopsOf c28_2 = [] from by kernel_rfl] at hx) (fun ps k => by unfold E28_2; split <;> rfl) (fun m ps k r h => ?_) m
  have h0 := h
  unfold E28_2 at h
  split at h
  · exact ⟨S28_2 _ _ _, by kernel_rfl, (ev28_2 m k _ _ _).trans h0⟩
  · cases h
noncomputable def L28 : LEnv Int := (loopCons 2 (enter Try.prog (0, 0) H28_2 (E28_2 fu)) loopNil)
theorem lq28 : loopsOf c28 = [c28_2] := by kernel_rfl
theorem fr28_2 : firstReg c28_2 = some 2 := by kernel_rfl
theorem le28_2 : L28 2 = enter Try.prog (0, 0) H28_2 (E28_2 fu) := by kernel_rfl
theorem lm28 : ∀ x ∈ [c28_2], ∀ id, firstReg x = some id → LoopOk Try.prog (0, 0) x (L28 id) := (loops_cons fr28_2 le28_2 (ok28_2 fu) loops_nil)
theorem lp28 : ∀ x ∈ loopsOf c28, ∀ id, firstReg x = some id → LoopOk Try.prog (0, 0) x (L28 id) := loops_eq lq28 lm28
noncomputable def R28 (x : Int) : Res := ⟨[.one (ai x)], [], []⟩
noncomputable def K28 (r : Res) : Option Int :=
  match r with
  | ⟨[.one (.val (.int .i64 v1))], [], []⟩ => some (v1)
  | _ => none
noncomputable def E28 : Fun2 := fun args bs rs =>
  match args, bs, rs with
  | [.s1 (.one (.sl 0)), .s1 (.one (.val (.int .i64 a1)))], [], [⟨158, (.pair (.int .i64) (.pair (.int .i64) (.int .i64))), a2, .ro⟩] => some ⟨Int, L.heldRecS a1 a2, R28⟩
  | _, _, _ => none
theorem ev28 (a1 : Int) (a2 : List (Int × Int × Int)) : evF Try.prog G28 L28 (0, 0) [] Try.f28 c28 [vl 0, vi a1] [] [⟨158, (.pair (.int .i64) (.pair (.int .i64) (.int .i64))), a2, .ro⟩] K28 = L.heldRecS a1 a2 := by kernel_rfl
theorem good28 : Vm.Good Try.prog 28 E28 := by
  refine evF_good (G := G28) (c := c28) envNil_good Try.func28 (by kernel_rfl) (by kernel_rfl) (0, 0) (fun args bs rs out t h h2 => ?_)
  unfold E28 at h
  split at h
  · injection h with h
    subst h
    exact ⟨rfl, [], L28, K28, lp28, (fun r t h => by unfold K28 at h; split at h; (injection h with h; subst h; rfl); cases h), (ev28 _ _).trans h2⟩
  · cases h
/-! ### L.heldBox -/
noncomputable def G27 : Env := (envCons 22 [] E22 (envCons 28 [] E28 envNil))
noncomputable def c27 : Code := bodyOf Try.f27
noncomputable def L.heldBox (a1 a2 a3 a4 a5 : Int) (a6 : List (Int × Int × Int × Int × Int × Int × Int × Int × List Int × Bool)) (a7 : List (Int × Int × Int)) : Option Int :=
(Option.bind (L.heldItemS a5 a6) fun r8 =>
(bif (decide (r8 < 0)) then
(some (-1))
else
(Option.bind (L.heldRecS r8 a7) fun r10 =>
(bif (decide (r10 < 0)) then
(some (-1))
else
(some r10)))))
noncomputable def R27 (x : Int) : Res := ⟨[.one (ai x)], [], []⟩
noncomputable def K27 (r : Res) : Option Int :=
  match r with
  | ⟨[.one (.val (.int .i64 v1))], [], []⟩ => some (v1)
  | _ => none
noncomputable def E27 : Fun2 := fun args bs rs =>
  match args, bs, rs with
  | [.s1 (.agg [.val (.int .i64 a1), .val (.int .i64 a2), .val (.int .i64 a3), .val (.int .i64 a4), .sl 0, .sl 1]), .s1 (.one (.val (.int .i64 a5)))], [], [⟨146, (.pair (.int .i64) (.pair (.int .i64) (.pair (.int .i64) (.pair (.int .i64) (.pair (.int .i64) (.pair (.int .i64) (.pair (.int .i64) (.pair (.int .i64) (.pair (.sl 3 (.int .i64)) .bool))))))))), a6, .ro⟩, ⟨158, (.pair (.int .i64) (.pair (.int .i64) (.int .i64))), a7, .ro⟩] => some ⟨Int, L.heldBox a1 a2 a3 a4 a5 a6 a7, R27⟩
  | _, _, _ => none
theorem ev27 (a1 a2 a3 a4 a5 : Int) (a6 : List (Int × Int × Int × Int × Int × Int × Int × Int × List Int × Bool)) (a7 : List (Int × Int × Int)) : evF Try.prog G27 loopNil (0, 0) [] Try.f27 c27 [.s1 (.agg [ai a1, ai a2, ai a3, ai a4, .sl 0, .sl 1]), vi a5] [] [⟨146, (.pair (.int .i64) (.pair (.int .i64) (.pair (.int .i64) (.pair (.int .i64) (.pair (.int .i64) (.pair (.int .i64) (.pair (.int .i64) (.pair (.int .i64) (.pair (.sl 3 (.int .i64)) .bool))))))))), a6, .ro⟩, ⟨158, (.pair (.int .i64) (.pair (.int .i64) (.int .i64))), a7, .ro⟩] K27 = L.heldBox a1 a2 a3 a4 a5 a6 a7 := by kernel_rfl
theorem good27 : Vm.Good Try.prog 27 E27 := by
  refine evF_good (G := G27) (c := c27) (envCons_good good22 (envCons_good good28 envNil_good)) Try.func27 (by kernel_rfl) (by kernel_rfl) (0, 0) (fun args bs rs out t h h2 => ?_)
  unfold E27 at h
  split at h
  · injection h with h
    subst h
    exact ⟨rfl, [], loopNil, K27, (by intro x hx; simp [show loopsOf c27 = [] from by kernel_rfl] at hx), (fun r t h => by unfold K27 at h; split at h; (injection h with h; subst h; rfl); cases h), (ev27 _ _ _ _ _ _ _).trans h2⟩
  · cases h
/-! ### L.FnExactBoxPuts -/
noncomputable def G10 : Env := (envCons 14 [] E14 (envCons 30 [] E30 (envCons 16 [] E16 (envCons 33 [] E33 (envCons 59 [] E59 (envCons 60 [] E60 (envCons 19 [] E19 (envCons 37 [] E37 (envCons 20 [4, 5] E20 (envCons 39 [0] E39 (envCons 27 [] E27 envNil)))))))))))
noncomputable def c10 : Code := bodyOf Try.f10
noncomputable def L.FnExactBoxPuts (a1 a2 a3 a4 a5 : Int) (a6 : List (Int × Int × Int × Int × Int × Int × Int × Int × List Int × Bool)) (a7 : List (Int × Int × Int)) (a8 : List (Int × Int × Int × Int × Int × Int × List Int × Bool)) : Option Bool :=
(Option.bind (L.szBox a1 a2 a3 a4 1048576 a6 a7) fun r9 =>
(bif (decide (r9 < 0)) then
(some true)
else
(Option.bind (L.szPaneS r9 a8) fun r11 =>
(bif (decide (r11 < 0)) then
(some true)
else
(Option.bind (L.toBox a1 a2 a3 a4 a6 a7) fun r13 =>
(Option.bind (L.toPaneS a8) fun r14 =>
(Option.bind (S.BoxPuts r13.1 r13.2.1 r13.2.2.1 r13.2.2.2.1 a5 r13.2.2.2.2.1 r13.2.2.2.2.2 r14) fun r15 =>
(Option.bind (L.toBox a1 a2 a3 a4 a6 a7) fun r16 =>
(Option.bind (L.toPaneS a8) fun r17 =>
(Option.bind (I.BoxPuts r16.1 r16.2.1 r16.2.2.1 r16.2.2.2.1 a5 r16.2.2.2.2.1 r16.2.2.2.2.2 r17) fun r18 =>
(Option.bind (L.eqBox r18.1 r18.2.1 r18.2.2.1 r18.2.2.2.1 r15.1 r15.2.1 r15.2.2.1 r15.2.2.2.1 r18.2.2.2.2.2.1 r18.2.2.2.2.2.2 r15.2.2.2.2.2.1 r15.2.2.2.2.2.2) fun r19 =>
(bif (!r19) then
(some false)
else
(bif (!(r18.2.2.2.2.1 == r15.2.2.2.2.1)) then
(some false)
else
(Option.bind (L.toBox a1 a2 a3 a4 a6 a7) fun r21 =>
(Option.bind (L.eqBox r16.1 r16.2.1 r16.2.2.1 r16.2.2.2.1 r21.1 r21.2.1 r21.2.2.1 r21.2.2.2.1 r16.2.2.2.2.1 r16.2.2.2.2.2 r21.2.2.2.2.1 r21.2.2.2.2.2) fun r22 =>
(bif (!r22) then
(some false)
else
(Option.bind (L.toPaneS a8) fun r23 =>
(Option.bind (L.eqPaneS r17 r23) fun r24 =>
(bif (!r24) then
(some false)
else
(Option.bind (L.markBox r16.1 r16.2.1 r16.2.2.1 r16.2.2.2.1 1 r16.2.2.2.2.1 r16.2.2.2.2.2) fun r25 =>
(Option.bind (L.markPaneS r25.1 r17) fun r26 =>
(bif (decide (r26.1 < 0)) then
(some false)
else
(Option.bind (L.eqBox r18.1 r18.2.1 r18.2.2.1 r18.2.2.2.1 r15.1 r15.2.1 r15.2.2.1 r15.2.2.2.1 r18.2.2.2.2.2.1 r18.2.2.2.2.2.2 r15.2.2.2.2.2.1 r15.2.2.2.2.2.2) fun r28 =>
(bif (!r28) then
(some false)
else
(bif (!(r18.2.2.2.2.1 == r15.2.2.2.2.1)) then
(some false)
else
(Option.bind (L.markBox r18.1 r18.2.1 r18.2.2.1 r18.2.2.2.1 1 r18.2.2.2.2.2.1 r18.2.2.2.2.2.2) fun r30 =>
(Option.bind (L.heldBox r18.1 r18.2.1 r18.2.2.1 r18.2.2.2.1 1 r30.2.1 r30.2.2) fun r31 =>
(bif (decide (r31 < 0)) then
(some false)
else
(bif (r31 != r30.1) then
(some false)
else
(Option.bind (L.toBox a1 a2 a3 a4 a6 a7) fun r33 =>
(Option.bind (L.toPaneS a8) fun r34 =>
(Option.bind (I.BoxPuts r33.1 r33.2.1 r33.2.2.1 r33.2.2.2.1 a5 r33.2.2.2.2.1 r33.2.2.2.2.2 r34) fun r35 =>
(Option.bind (L.eqBox r35.1 r35.2.1 r35.2.2.1 r35.2.2.2.1 r15.1 r15.2.1 r15.2.2.1 r15.2.2.2.1 r35.2.2.2.2.2.1 r35.2.2.2.2.2.2 r15.2.2.2.2.2.1 r15.2.2.2.2.2.2) fun r36 =>
(bif (!r36) then
(some false)
else
(bif (!(r35.2.2.2.2.1 == r15.2.2.2.2.1)) then
(some false)
else
(Option.bind (L.heldBox r18.1 r18.2.1 r18.2.2.1 r18.2.2.2.1 1 r30.2.1 r30.2.2) fun r38 =>
(bif (decide (r38 < 0)) then
(some false)
else
(bif (r38 != r30.1) then
(some false)
else
(some true)))))))))))))))))))))))))))))))))))))))
noncomputable def R10 (x : Bool) : Res := ⟨[.one (ab x)], [], []⟩
noncomputable def K10 (r : Res) : Option Bool :=
  match r with
  | ⟨[.one (.val (.bool v1))], [], []⟩ => some (v1)
  | _ => none
noncomputable def E10 : Fun2 := fun args bs rs =>
  match args, bs, rs with
  | [.s1 (.agg [.val (.int .i64 a1), .val (.int .i64 a2), .val (.int .i64 a3), .val (.int .i64 a4), .sl 0, .sl 1]), .s1 (.one (.sl 2)), .s1 (.one (.val (.int .i64 a5)))], [], [⟨230, (.pair (.int .i64) (.pair (.int .i64) (.pair (.int .i64) (.pair (.int .i64) (.pair (.int .i64) (.pair (.int .i64) (.pair (.int .i64) (.pair (.int .i64) (.pair (.sl 3 (.int .i64)) .bool))))))))), a6, .ro⟩, ⟨233, (.pair (.int .i64) (.pair (.int .i64) (.int .i64))), a7, .ro⟩, ⟨64, (.pair (.int .i64) (.pair (.int .i64) (.pair (.int .i64) (.pair (.int .i64) (.pair (.int .i64) (.pair (.int .i64) (.pair (.sl 3 (.int .i64)) .bool))))))), a8, .ro⟩] => some ⟨Bool, L.FnExactBoxPuts a1 a2 a3 a4 a5 a6 a7 a8, R10⟩
  | _, _, _ => none
theorem ev10 (a1 a2 a3 a4 a5 : Int) (a6 : List (Int × Int × Int × Int × Int × Int × Int × Int × List Int × Bool)) (a7 : List (Int × Int × Int)) (a8 : List (Int × Int × Int × Int × Int × Int × List Int × Bool)) : evF Try.prog G10 loopNil (0, 0) [] Try.f10 c10 [.s1 (.agg [ai a1, ai a2, ai a3, ai a4, .sl 0, .sl 1]), vl 2, vi a5] [] [⟨230, (.pair (.int .i64) (.pair (.int .i64) (.pair (.int .i64) (.pair (.int .i64) (.pair (.int .i64) (.pair (.int .i64) (.pair (.int .i64) (.pair (.int .i64) (.pair (.sl 3 (.int .i64)) .bool))))))))), a6, .ro⟩, ⟨233, (.pair (.int .i64) (.pair (.int .i64) (.int .i64))), a7, .ro⟩, ⟨64, (.pair (.int .i64) (.pair (.int .i64) (.pair (.int .i64) (.pair (.int .i64) (.pair (.int .i64) (.pair (.int .i64) (.pair (.sl 3 (.int .i64)) .bool))))))), a8, .ro⟩] K10 = L.FnExactBoxPuts a1 a2 a3 a4 a5 a6 a7 a8 := by kernel_rfl
theorem good10 : Vm.Good Try.prog 10 E10 := by
  refine evF_good (G := G10) (c := c10) (envCons_good good14 (envCons_good good30 (envCons_good good16 (envCons_good good33 (envCons_good good59 (envCons_good good60 (envCons_good good19 (envCons_good good37 (envCons_good good20 (envCons_good good39 (envCons_good good27 envNil_good))))))))))) Try.func10 (by kernel_rfl) (by kernel_rfl) (0, 0) (fun args bs rs out t h h2 => ?_)
  unfold E10 at h
  split at h
  · injection h with h
    subst h
    exact ⟨rfl, [], loopNil, K10, (by intro x hx; simp [show loopsOf c10 = [] from by kernel_rfl] at hx), (fun r t h => by unfold K10 at h; split at h; (injection h with h; subst h; rfl); cases h), (ev10 _ _ _ _ _ _ _ _).trans h2⟩
  · cases h
end Go.Proofs.Ythddkomphkanbaa.Run
