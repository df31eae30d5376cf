import Derived.Test.YthddkomphkanbaaGnBothOfA
namespace Go.Proofs.Ythddkomphkanbaa.Run
open Go Go.RowKit Go.Proofs.YthddkomphkanbaaW.PrintWords Go.Proofs.Ythddkomphkanbaa.Vm
set_option linter.unusedVariables false
set_option maxRecDepth 100000

/-! ### L.markPaneS -/
noncomputable def G39 : Env := (envCons 96 [0] E96 envNil)
noncomputable def c39 : Code := bodyOf Try.f39
noncomputable def c39_2 : Code := (loopsOf c39).getD 0 .skip
noncomputable def L.markPaneS_l0 : Nat → (Int → (List (Int × Int × Int × Int × Int × Int × List Int × Bool)) → Option (Int × (List (Int × Int × Int × Int × Int × Int × List Int × Bool)))) → Int → Int → (List (Int × Int × Int × Int × Int × Int × List Int × Bool)) → Option (Int × (List (Int × Int × Int × Int × Int × Int × List Int × Bool)))
  | 0, _, _, _, _ => none
  | m + 1, e2_0, a3, a4, a5 =>
    (bif (decide (a4 < (a5.length : Int))) then
    (bif decide ((0 : Int) ≤ a4 ∧ a4 < (a5.length : Int)) then
    (let v8 : List (Int × Int × Int × Int × Int × Int × List Int × Bool) := (a5.set (Int.toNat a4) (a3, (nthI a5 a4 ((0 : Int), ((0 : Int), ((0 : Int), ((0 : Int), ((0 : Int), ((0 : Int), ([], false)))))))).2))
    (let v9 : Int := (IntKind.wrap .i64 (a3 + 1))
    (bif decide ((0 : Int) ≤ a4 ∧ a4 < (v8.length : Int)) then
    (let v10 : List (Int × Int × Int × Int × Int × Int × List Int × Bool) := (v8.set (Int.toNat a4) ((nthI v8 a4 ((0 : Int), ((0 : Int), ((0 : Int), ((0 : Int), ((0 : Int), ((0 : Int), ([], false)))))))).1, (v9, (nthI v8 a4 ((0 : Int), ((0 : Int), ((0 : Int), ((0 : Int), ((0 : Int), ((0 : Int), ([], false)))))))).2.2)))
    (let v11 : Int := (IntKind.wrap .i64 (v9 + 1))
    (bif decide ((0 : Int) ≤ a4 ∧ a4 < (v10.length : Int)) then
    (let v12 : List (Int × Int × Int × Int × Int × Int × List Int × Bool) := (v10.set (Int.toNat a4) ((nthI v10 a4 ((0 : Int), ((0 : Int), ((0 : Int), ((0 : Int), ((0 : Int), ((0 : Int), ([], false)))))))).1, ((nthI v10 a4 ((0 : Int), ((0 : Int), ((0 : Int), ((0 : Int), ((0 : Int), ((0 : Int), ([], false)))))))).2.1, (v11, (nthI v10 a4 ((0 : Int), ((0 : Int), ((0 : Int), ((0 : Int), ((0 : Int), ((0 : Int), ([], false)))))))).2.2.2))))
    (let v13 : Int := (IntKind.wrap .i64 (v11 + 1))
    (bif decide ((0 : Int) ≤ a4 ∧ a4 < (v12.length : Int)) then
    (let v14 : List (Int × Int × Int × Int × Int × Int × List Int × Bool) := (v12.set (Int.toNat a4) ((nthI v12 a4 ((0 : Int), ((0 : Int), ((0 : Int), ((0 : Int), ((0 : Int), ((0 : Int), ([], false)))))))).1, ((nthI v12 a4 ((0 : Int), ((0 : Int), ((0 : Int), ((0 : Int), ((0 : Int), ((0 : Int), ([], false)))))))).2.1, ((nthI v12 a4 ((0 : Int), ((0 : Int), ((0 : Int), ((0 : Int), ((0 : Int), ((0 : Int), ([], false)))))))).2.2.1, (v13, (nthI v12 a4 ((0 : Int), ((0 : Int), ((0 : Int), ((0 : Int), ((0 : Int), ((0 : Int), ([], false)))))))).2.2.2.2)))))
    (let v15 : Int := (IntKind.wrap .i64 (v13 + 1))
    (bif decide ((0 : Int) ≤ a4 ∧ a4 < (v14.length : Int)) then
    (let v16 : List (Int × Int × Int × Int × Int × Int × List Int × Bool) := (v14.set (Int.toNat a4) ((nthI v14 a4 ((0 : Int), ((0 : Int), ((0 : Int), ((0 : Int), ((0 : Int), ((0 : Int), ([], false)))))))).1, ((nthI v14 a4 ((0 : Int), ((0 : Int), ((0 : Int), ((0 : Int), ((0 : Int), ((0 : Int), ([], false)))))))).2.1, ((nthI v14 a4 ((0 : Int), ((0 : Int), ((0 : Int), ((0 : Int), ((0 : Int), ((0 : Int), ([], false)))))))).2.2.1, ((nthI v14 a4 ((0 : Int), ((0 : Int), ((0 : Int), ((0 : Int), ((0 : Int), ((0 : Int), ([], false)))))))).2.2.2.1, (v15, (nthI v14 a4 ((0 : Int), ((0 : Int), ((0 : Int), ((0 : Int), ((0 : Int), ((0 : Int), ([], false)))))))).2.2.2.2.2))))))
    (let v17 : Int := (IntKind.wrap .i64 (v15 + 1))
    (bif decide ((0 : Int) ≤ a4 ∧ a4 < (v16.length : Int)) then
    (let v18 : List (Int × Int × Int × Int × Int × Int × List Int × Bool) := (v16.set (Int.toNat a4) ((nthI v16 a4 ((0 : Int), ((0 : Int), ((0 : Int), ((0 : Int), ((0 : Int), ((0 : Int), ([], false)))))))).1, ((nthI v16 a4 ((0 : Int), ((0 : Int), ((0 : Int), ((0 : Int), ((0 : Int), ((0 : Int), ([], false)))))))).2.1, ((nthI v16 a4 ((0 : Int), ((0 : Int), ((0 : Int), ((0 : Int), ((0 : Int), ((0 : Int), ([], false)))))))).2.2.1, ((nthI v16 a4 ((0 : Int), ((0 : Int), ((0 : Int), ((0 : Int), ((0 : Int), ((0 : Int), ([], false)))))))).2.2.2.1, ((nthI v16 a4 ((0 : Int), ((0 : Int), ((0 : Int), ((0 : Int), ((0 : Int), ((0 : Int), ([], false)))))))).2.2.2.2.1, (v17, (nthI v16 a4 ((0 : Int), ((0 : Int), ((0 : Int), ((0 : Int), ((0 : Int), ((0 : Int), ([], false)))))))).2.2.2.2.2.2)))))))
    (bif decide ((0 : Int) ≤ a4 ∧ a4 < (v18.length : Int)) then
    (Option.bind (L.markIntS (IntKind.wrap .i64 (v17 + 1)) ((nthI v18 a4 ((0 : Int), ((0 : Int), ((0 : Int), ((0 : Int), ((0 : Int), ((0 : Int), ([], false)))))))).2.2.2.2.2.2.1)) fun r20 =>
    (let v21 : List (Int × Int × Int × Int × Int × Int × List Int × Bool) := (v18.set (Int.toNat a4) ((nthI v18 a4 ((0 : Int), ((0 : Int), ((0 : Int), ((0 : Int), ((0 : Int), ((0 : Int), ([], false)))))))).1, ((nthI v18 a4 ((0 : Int), ((0 : Int), ((0 : Int), ((0 : Int), ((0 : Int), ((0 : Int), ([], false)))))))).2.1, ((nthI v18 a4 ((0 : Int), ((0 : Int), ((0 : Int), ((0 : Int), ((0 : Int), ((0 : Int), ([], false)))))))).2.2.1, ((nthI v18 a4 ((0 : Int), ((0 : Int), ((0 : Int), ((0 : Int), ((0 : Int), ((0 : Int), ([], false)))))))).2.2.2.1, ((nthI v18 a4 ((0 : Int), ((0 : Int), ((0 : Int), ((0 : Int), ((0 : Int), ((0 : Int), ([], false)))))))).2.2.2.2.1, ((nthI v18 a4 ((0 : Int), ((0 : Int), ((0 : Int), ((0 : Int), ((0 : Int), ((0 : Int), ([], false)))))))).2.2.2.2.2.1, (r20.2, (nthI v18 a4 ((0 : Int), ((0 : Int), ((0 : Int), ((0 : Int), ((0 : Int), ((0 : Int), ([], false)))))))).2.2.2.2.2.2.2))))))))
    (bif decide (3 = 0) then
    none
    else
    (bif decide ((0 : Int) ≤ a4 ∧ a4 < (v21.length : Int)) then
    (let v23 : List (Int × Int × Int × Int × Int × Int × List Int × Bool) := (v21.set (Int.toNat a4) ((nthI v21 a4 ((0 : Int), ((0 : Int), ((0 : Int), ((0 : Int), ((0 : Int), ((0 : Int), ([], false)))))))).1, ((nthI v21 a4 ((0 : Int), ((0 : Int), ((0 : Int), ((0 : Int), ((0 : Int), ((0 : Int), ([], false)))))))).2.1, ((nthI v21 a4 ((0 : Int), ((0 : Int), ((0 : Int), ((0 : Int), ((0 : Int), ((0 : Int), ([], false)))))))).2.2.1, ((nthI v21 a4 ((0 : Int), ((0 : Int), ((0 : Int), ((0 : Int), ((0 : Int), ((0 : Int), ([], false)))))))).2.2.2.1, ((nthI v21 a4 ((0 : Int), ((0 : Int), ((0 : Int), ((0 : Int), ((0 : Int), ((0 : Int), ([], false)))))))).2.2.2.2.1, ((nthI v21 a4 ((0 : Int), ((0 : Int), ((0 : Int), ((0 : Int), ((0 : Int), ((0 : Int), ([], false)))))))).2.2.2.2.2.1, ((nthI v21 a4 ((0 : Int), ((0 : Int), ((0 : Int), ((0 : Int), ((0 : Int), ((0 : Int), ([], false)))))))).2.2.2.2.2.2.1, ((Int.tmod r20.1 3) == 0)))))))))
    (L.markPaneS_l0 m e2_0 (IntKind.wrap .i64 (r20.1 + 1)) (IntKind.wrap .i64 (a4 + 1)) v23))
    else
    none))))
    else
    none))
    else
    none)))
    else
    none)))
    else
    none)))
    else
    none)))
    else
    none)))
    else
    none)
    else
    (e2_0 a3 a5))
noncomputable def L.markPaneS (a1 : Int) (a2 : List (Int × Int × Int × Int × Int × Int × List Int × Bool)) : Option (Int × (List (Int × Int × Int × Int × Int × Int × List Int × Bool))) :=
(L.markPaneS_l0 fu (fun y26 y27 =>
(some (y26, y27))) a1 0 a2)
noncomputable def H39_2 : LoopH := ⟨⟨((.one (.sl 0)) :: hh :: (hu 3 (hh :: (hu 65 [])))), [], [(68, (.pair (.int .i64) (.pair (.int .i64) (.pair (.int .i64) (.pair (.int .i64) (.pair (.int .i64) (.pair (.int .i64) (.pair (.sl 3 (.int .i64)) .bool))))))), .own)]⟩, [2, 3, 4, 6, 7, 8, 9, 10, 11, 12, 13, 14, 15, 16, 17, 18, 19, 20, 21, 22, 23, 24, 25, 26, 27, 28, 29, 30, 31, 32, 33, 34, 35, 36, 37, 38, 39, 40, 41, 42, 43, 44, 45, 46, 47, 48, 49, 50, 51, 52, 53, 54, 55, 56, 57, 58, 59, 60, 61, 62, 63, 64, 65, 66, 67, 68, 69, 70], [], [0, 2, 3, 5, 6, 7, 8, 9, 10, 11, 12, 13, 14, 15, 16, 17, 18, 19, 20, 21, 22, 23, 24, 25, 26, 27, 28, 29, 30, 31, 32, 33, 34, 35, 36, 37, 38, 39, 40, 41, 42, 43, 44, 45, 46, 47, 48, 49, 50, 51, 52, 53, 54, 55, 56, 57, 58, 59, 60, 61, 62, 63, 64, 65, 66, 67, 68, 69, 70]⟩
noncomputable def E39_2 (m : Nat) (ps : List Prm) (k : Kont (Int × (List (Int × Int × Int × Int × Int × Int × List Int × Bool)))) : Option (Int × (List (Int × Int × Int × Int × Int × Int × List Int × Bool))) :=
  match ps with
  | [.v (.int .i64 a3), .v (.int .i64 a4), .row (.pair (.int .i64) (.pair (.int .i64) (.pair (.int .i64) (.pair (.int .i64) (.pair (.int .i64) (.pair (.int .i64) (.pair (.sl 3 (.int .i64)) .bool))))))) a5] => L.markPaneS_l0 m (fun z30 z31 => k (.exit 0) (⟨((.s1 (.one (.unk))) :: (vi z30) :: (vu 69 [])), [], [⟨68, (.pair (.int .i64) (.pair (.int .i64) (.pair (.int .i64) (.pair (.int .i64) (.pair (.int .i64) (.pair (.int .i64) (.pair (.sl 3 (.int .i64)) .bool))))))), z31, .own⟩]⟩ : St)) a3 a4 a5
  | _ => none
noncomputable def S39_2 (a3 a4 : Int) (a5 : List (Int × Int × Int × Int × Int × Int × List Int × Bool)) : St := (⟨((vl 0) :: (vi a3) :: (vu 3 ((vi a4) :: (vu 65 [])))), [], [⟨68, (.pair (.int .i64) (.pair (.int .i64) (.pair (.int .i64) (.pair (.int .i64) (.pair (.int .i64) (.pair (.int .i64) (.pair (.sl 3 (.int .i64)) .bool))))))), a5, .own⟩]⟩ : St)
theorem ev39_2 (m : Nat) (k : Kont (Int × (List (Int × Int × Int × Int × Int × Int × List Int × Bool)))) (a3 a4 : Int) (a5 : List (Int × Int × Int × Int × Int × Int × List Int × Bool)) : evC Try.prog G39 loopNil c39_2 (S39_2 a3 a4 a5) (turn Try.prog (0, 1) H39_2 (E39_2 m) k) = E39_2 (m + 1) [.v (.int .i64 a3), .v (.int .i64 a4), .row (.pair (.int .i64) (.pair (.int .i64) (.pair (.int .i64) (.pair (.int .i64) (.pair (.int .i64) (.pair (.int .i64) (.pair (.sl 3 (.int .i64)) .bool))))))) a5] k := by kernel_rfl
theorem ok39_2 (m : Nat) : LoopOk Try.prog (0, 1) c39_2 (enter Try.prog (0, 1) H39_2 (E39_2 m)) := by
  refine loop_ok (G := G39) (L := loopNil) (envCons_good good96 envNil_good) (by intro x hx; simp [show loopsOf c39_2 = [] from by kernel_rfl] at hx) (fun ps k => by unfold E39_2; split <;> rfl) (fun m ps k r h => ?_) m
  have h0 := h
  unfold E39_2 at h
  split at h
  · exact ⟨S39_2 _ _ _, by kernel_rfl, (ev39_2 m k _ _ _).trans h0⟩
  · cases h
noncomputable def L39 : LEnv (Int × (List (Int × Int × Int × Int × Int × Int × List Int × Bool))) := (loopCons 2 (enter Try.prog (0, 1) H39_2 (E39_2 fu)) loopNil)
theorem lq39 : loopsOf c39 = [c39_2] := by kernel_rfl
theorem fr39_2 : firstReg c39_2 = some 2 := by kernel_rfl
theorem le39_2 : L39 2 = enter Try.prog (0, 1) H39_2 (E39_2 fu) := by kernel_rfl
theorem lm39 : ∀ x ∈ [c39_2], ∀ id, firstReg x = some id → LoopOk Try.prog (0, 1) x (L39 id) := (loops_cons fr39_2 le39_2 (ok39_2 fu) loops_nil)
theorem lp39 : ∀ x ∈ loopsOf c39, ∀ id, firstReg x = some id → LoopOk Try.prog (0, 1) x (L39 id) := loops_eq lq39 lm39
noncomputable def R39 (x : Int × (List (Int × Int × Int × Int × Int × Int × List Int × Bool))) : Res := ⟨[.one (ai x.1)], [], [⟨68, (.pair (.int .i64) (.pair (.int .i64) (.pair (.int .i64) (.pair (.int .i64) (.pair (.int .i64) (.pair (.int .i64) (.pair (.sl 3 (.int .i64)) .bool))))))), x.2, .own⟩]⟩
noncomputable def K39 (r : Res) : Option (Int × (List (Int × Int × Int × Int × Int × Int × List Int × Bool))) :=
  match r with
  | ⟨[.one (.val (.int .i64 v1))], [], [⟨68, (.pair (.int .i64) (.pair (.int .i64) (.pair (.int .i64) (.pair (.int .i64) (.pair (.int .i64) (.pair (.int .i64) (.pair (.sl 3 (.int .i64)) .bool))))))), v2, .own⟩]⟩ => some (v1, v2)
  | _ => none
noncomputable def E39 : Fun2 := fun args bs rs =>
  match args, bs, rs with
  | [.s1 (.one (.sl 0)), .s1 (.one (.val (.int .i64 a1)))], [], [⟨68, (.pair (.int .i64) (.pair (.int .i64) (.pair (.int .i64) (.pair (.int .i64) (.pair (.int .i64) (.pair (.int .i64) (.pair (.sl 3 (.int .i64)) .bool))))))), a2, .own⟩] => some ⟨Int × (List (Int × Int × Int × Int × Int × Int × List Int × Bool)), L.markPaneS a1 a2, R39⟩
  | _, _, _ => none
theorem ev39 (a1 : Int) (a2 : List (Int × Int × Int × Int × Int × Int × List Int × Bool)) : evF Try.prog G39 L39 (0, 1) [] Try.f39 c39 [vl 0, vi a1] [] [⟨68, (.pair (.int .i64) (.pair (.int .i64) (.pair (.int .i64) (.pair (.int .i64) (.pair (.int .i64) (.pair (.int .i64) (.pair (.sl 3 (.int .i64)) .bool))))))), a2, .own⟩] K39 = L.markPaneS a1 a2 := by kernel_rfl
theorem good39 : Vm.Good Try.prog 39 E39 := by
  refine evF_good (G := G39) (c := c39) (envCons_good good96 envNil_good) Try.func39 (by kernel_rfl) (by kernel_rfl) (0, 1) (fun args bs rs out t h h2 => ?_)
  unfold E39 at h
  split at h
  · injection h with h
    subst h
    exact ⟨rfl, [], L39, K39, lp39, (fun r t h => by unfold K39 at h; split at h; (injection h with h; subst h; rfl); cases h), (ev39 _ _).trans h2⟩
  · cases h
/-! ### L.markBothS -/
noncomputable def G40 : Env := (envCons 96 [0] E96 envNil)
noncomputable def c40 : Code := bodyOf Try.f40
noncomputable def c40_2 : Code := (loopsOf c40).getD 0 .skip
noncomputable def L.markBothS_l0 : Nat → (Int → (List (Int × Int × Int × Int × Int × List Int × List Int)) → Option (Int × (List (Int × Int × Int × Int × Int × List Int × List Int)))) → Int → Int → (List (Int × Int × Int × Int × Int × List Int × List Int)) → Option (Int × (List (Int × Int × Int × Int × Int × List Int × List Int)))
  | 0, _, _, _, _ => none
  | m + 1, e2_0, a3, a4, a5 =>
    (bif (decide (a4 < (a5.length : Int))) then
    (bif decide ((0 : Int) ≤ a4 ∧ a4 < (a5.length : Int)) then
    (let v8 : List (Int × Int × Int × Int × Int × List Int × List Int) := (a5.set (Int.toNat a4) (a3, (nthI a5 a4 ((0 : Int), ((0 : Int), ((0 : Int), ((0 : Int), ((0 : Int), ([], []))))))).2))
    (let v9 : Int := (IntKind.wrap .i64 (a3 + 1))
    (bif decide ((0 : Int) ≤ a4 ∧ a4 < (v8.length : Int)) then
    (let v10 : List (Int × Int × Int × Int × Int × List Int × List Int) := (v8.set (Int.toNat a4) ((nthI v8 a4 ((0 : Int), ((0 : Int), ((0 : Int), ((0 : Int), ((0 : Int), ([], []))))))).1, (v9, (nthI v8 a4 ((0 : Int), ((0 : Int), ((0 : Int), ((0 : Int), ((0 : Int), ([], []))))))).2.2)))
    (let v11 : Int := (IntKind.wrap .i64 (v9 + 1))
    (bif decide ((0 : Int) ≤ a4 ∧ a4 < (v10.length : Int)) then
    (let v12 : List (Int × Int × Int × Int × Int × List Int × List Int) := (v10.set (Int.toNat a4) ((nthI v10 a4 ((0 : Int), ((0 : Int), ((0 : Int), ((0 : Int), ((0 : Int), ([], []))))))).1, ((nthI v10 a4 ((0 : Int), ((0 : Int), ((0 : Int), ((0 : Int), ((0 : Int), ([], []))))))).2.1, (v11, (nthI v10 a4 ((0 : Int), ((0 : Int), ((0 : Int), ((0 : Int), ((0 : Int), ([], []))))))).2.2.2))))
    (let v13 : Int := (IntKind.wrap .i64 (v11 + 1))
    (bif decide ((0 : Int) ≤ a4 ∧ a4 < (v12.length : Int)) then
    (let v14 : List (Int × Int × Int × Int × Int × List Int × List Int) := (v12.set (Int.toNat a4) ((nthI v12 a4 ((0 : Int), ((0 : Int), ((0 : Int), ((0 : Int), ((0 : Int), ([], []))))))).1, ((nthI v12 a4 ((0 : Int), ((0 : Int), ((0 : Int), ((0 : Int), ((0 : Int), ([], []))))))).2.1, ((nthI v12 a4 ((0 : Int), ((0 : Int), ((0 : Int), ((0 : Int), ((0 : Int), ([], []))))))).2.2.1, (v13, (nthI v12 a4 ((0 : Int), ((0 : Int), ((0 : Int), ((0 : Int), ((0 : Int), ([], []))))))).2.2.2.2)))))
    (let v15 : Int := (IntKind.wrap .i64 (v13 + 1))
    (bif decide ((0 : Int) ≤ a4 ∧ a4 < (v14.length : Int)) then
    (let v16 : List (Int × Int × Int × Int × Int × List Int × List Int) := (v14.set (Int.toNat a4) ((nthI v14 a4 ((0 : Int), ((0 : Int), ((0 : Int), ((0 : Int), ((0 : Int), ([], []))))))).1, ((nthI v14 a4 ((0 : Int), ((0 : Int), ((0 : Int), ((0 : Int), ((0 : Int), ([], []))))))).2.1, ((nthI v14 a4 ((0 : Int), ((0 : Int), ((0 : Int), ((0 : Int), ((0 : Int), ([], []))))))).2.2.1, ((nthI v14 a4 ((0 : Int), ((0 : Int), ((0 : Int), ((0 : Int), ((0 : Int), ([], []))))))).2.2.2.1, (v15, (nthI v14 a4 ((0 : Int), ((0 : Int), ((0 : Int), ((0 : Int), ((0 : Int), ([], []))))))).2.2.2.2.2))))))
    (bif decide ((0 : Int) ≤ a4 ∧ a4 < (v16.length : Int)) then
    (Option.bind (L.markIntS (IntKind.wrap .i64 (v15 + 1)) ((nthI v16 a4 ((0 : Int), ((0 : Int), ((0 : Int), ((0 : Int), ((0 : Int), ([], []))))))).2.2.2.2.2.1)) fun r18 =>
    (let v19 : List (Int × Int × Int × Int × Int × List Int × List Int) := (v16.set (Int.toNat a4) ((nthI v16 a4 ((0 : Int), ((0 : Int), ((0 : Int), ((0 : Int), ((0 : Int), ([], []))))))).1, ((nthI v16 a4 ((0 : Int), ((0 : Int), ((0 : Int), ((0 : Int), ((0 : Int), ([], []))))))).2.1, ((nthI v16 a4 ((0 : Int), ((0 : Int), ((0 : Int), ((0 : Int), ((0 : Int), ([], []))))))).2.2.1, ((nthI v16 a4 ((0 : Int), ((0 : Int), ((0 : Int), ((0 : Int), ((0 : Int), ([], []))))))).2.2.2.1, ((nthI v16 a4 ((0 : Int), ((0 : Int), ((0 : Int), ((0 : Int), ((0 : Int), ([], []))))))).2.2.2.2.1, (r18.2, (nthI v16 a4 ((0 : Int), ((0 : Int), ((0 : Int), ((0 : Int), ((0 : Int), ([], []))))))).2.2.2.2.2.2)))))))
    (bif decide ((0 : Int) ≤ a4 ∧ a4 < (v19.length : Int)) then
    (Option.bind (L.markIntS r18.1 ((nthI v19 a4 ((0 : Int), ((0 : Int), ((0 : Int), ((0 : Int), ((0 : Int), ([], []))))))).2.2.2.2.2.2)) fun r20 =>
    (let v21 : List (Int × Int × Int × Int × Int × List Int × List Int) := (v19.set (Int.toNat a4) ((nthI v19 a4 ((0 : Int), ((0 : Int), ((0 : Int), ((0 : Int), ((0 : Int), ([], []))))))).1, ((nthI v19 a4 ((0 : Int), ((0 : Int), ((0 : Int), ((0 : Int), ((0 : Int), ([], []))))))).2.1, ((nthI v19 a4 ((0 : Int), ((0 : Int), ((0 : Int), ((0 : Int), ((0 : Int), ([], []))))))).2.2.1, ((nthI v19 a4 ((0 : Int), ((0 : Int), ((0 : Int), ((0 : Int), ((0 : Int), ([], []))))))).2.2.2.1, ((nthI v19 a4 ((0 : Int), ((0 : Int), ((0 : Int), ((0 : Int), ((0 : Int), ([], []))))))).2.2.2.2.1, ((nthI v19 a4 ((0 : Int), ((0 : Int), ((0 : Int), ((0 : Int), ((0 : Int), ([], []))))))).2.2.2.2.2.1, r20.2)))))))
    (L.markBothS_l0 m e2_0 r20.1 (IntKind.wrap .i64 (a4 + 1)) v21)))
    else
    none)))
    else
    none))
    else
    none)))
    else
    none)))
    else
    none)))
    else
    none)))
    else
    none)
    else
    (e2_0 a3 a5))
noncomputable def L.markBothS (a1 : Int) (a2 : List (Int × Int × Int × Int × Int × List Int × List Int)) : Option (Int × (List (Int × Int × Int × Int × Int × List Int × List Int))) :=
(L.markBothS_l0 fu (fun y23 y24 =>
(some (y23, y24))) a1 0 a2)
noncomputable def H40_2 : LoopH := ⟨⟨((.one (.sl 0)) :: hh :: (hu 3 (hh :: (hu 56 [])))), [], [(164, (.pair (.int .i64) (.pair (.int .i64) (.pair (.int .i64) (.pair (.int .i64) (.pair (.int .i64) (.pair (.sl 3 (.int .i64)) (.sl 3 (.int .i64)))))))), .own)]⟩, [2, 3, 4, 6, 7, 8, 9, 10, 11, 12, 13, 14, 15, 16, 17, 18, 19, 20, 21, 22, 23, 24, 25, 26, 27, 28, 29, 30, 31, 32, 33, 34, 35, 36, 37, 38, 39, 40, 41, 42, 43, 44, 45, 46, 47, 48, 49, 50, 51, 52, 53, 54, 55, 56, 57, 58, 59, 60, 61], [], [0, 2, 3, 5, 6, 7, 8, 9, 10, 11, 12, 13, 14, 15, 16, 17, 18, 19, 20, 21, 22, 23, 24, 25, 26, 27, 28, 29, 30, 31, 32, 33, 34, 35, 36, 37, 38, 39, 40, 41, 42, 43, 44, 45, 46, 47, 48, 49, 50, 51, 52, 53, 54, 55, 56, 57, 58, 59, 60, 61]⟩
noncomputable def E40_2 (m : Nat) (ps : List Prm) (k : Kont (Int × (List (Int × Int × Int × Int × Int × List Int × List Int)))) : Option (Int × (List (Int × Int × Int × Int × Int × List Int × List Int))) :=
  match ps with
  | [.v (.int .i64 a3), .v (.int .i64 a4), .row (.pair (.int .i64) (.pair (.int .i64) (.pair (.int .i64) (.pair (.int .i64) (.pair (.int .i64) (.pair (.sl 3 (.int .i64)) (.sl 3 (.int .i64)))))))) a5] => L.markBothS_l0 m (fun z27 z28 => k (.exit 0) (⟨((.s1 (.one (.unk))) :: (vi z27) :: (vu 60 [])), [], [⟨164, (.pair (.int .i64) (.pair (.int .i64) (.pair (.int .i64) (.pair (.int .i64) (.pair (.int .i64) (.pair (.sl 3 (.int .i64)) (.sl 3 (.int .i64)))))))), z28, .own⟩]⟩ : St)) a3 a4 a5
  | _ => none
noncomputable def S40_2 (a3 a4 : Int) (a5 : List (Int × Int × Int × Int × Int × List Int × List Int)) : St := (⟨((vl 0) :: (vi a3) :: (vu 3 ((vi a4) :: (vu 56 [])))), [], [⟨164, (.pair (.int .i64) (.pair (.int .i64) (.pair (.int .i64) (.pair (.int .i64) (.pair (.int .i64) (.pair (.sl 3 (.int .i64)) (.sl 3 (.int .i64)))))))), a5, .own⟩]⟩ : St)
theorem ev40_2 (m : Nat) (k : Kont (Int × (List (Int × Int × Int × Int × Int × List Int × List Int)))) (a3 a4 : Int) (a5 : List (Int × Int × Int × Int × Int × List Int × List Int)) : evC Try.prog G40 loopNil c40_2 (S40_2 a3 a4 a5) (turn Try.prog (0, 1) H40_2 (E40_2 m) k) = E40_2 (m + 1) [.v (.int .i64 a3), .v (.int .i64 a4), .row (.pair (.int .i64) (.pair (.int .i64) (.pair (.int .i64) (.pair (.int .i64) (.pair (.int .i64) (.pair (.sl 3 (.int .i64)) (.sl 3 (.int .i64)))))))) a5] k := by kernel_rfl
theorem ok40_2 (m : Nat) : LoopOk Try.prog (0, 1) c40_2 (enter Try.prog (0, 1) H40_2 (E40_2 m)) := by
  refine loop_ok (G := G40) (L := loopNil) (envCons_good good96 envNil_good) (by intro x hx; simp [show loopsOf c40_2 = [] from by kernel_rfl] at hx) (fun ps k => by unfold E40_2; split <;> rfl) (fun m ps k r h => ?_) m
  have h0 := h
  unfold E40_2 at h
  split at h
  · exact ⟨S40_2 _ _ _, by kernel_rfl, (ev40_2 m k _ _ _).trans h0⟩
  · cases h
noncomputable def L40 : LEnv (Int × (List (Int × Int × Int × Int × Int × List Int × List Int))) := (loopCons 2 (enter Try.prog (0, 1) H40_2 (E40_2 fu)) loopNil)
theorem lq40 : loopsOf c40 = [c40_2] := by kernel_rfl
theorem fr40_2 : firstReg c40_2 = some 2 := by kernel_rfl
theorem le40_2 : L40 2 = enter Try.prog (0, 1) H40_2 (E40_2 fu) := by kernel_rfl
theorem lm40 : ∀ x ∈ [c40_2], ∀ id, firstReg x = some id → LoopOk Try.prog (0, 1) x (L40 id) := (loops_cons fr40_2 le40_2 (ok40_2 fu) loops_nil)
theorem lp40 : ∀ x ∈ loopsOf c40, ∀ id, firstReg x = some id → LoopOk Try.prog (0, 1) x (L40 id) := loops_eq lq40 lm40
noncomputable def R40 (x : Int × (List (Int × Int × Int × Int × Int × List Int × List Int))) : Res := ⟨[.one (ai x.1)], [], [⟨164, (.pair (.int .i64) (.pair (.int .i64) (.pair (.int .i64) (.pair (.int .i64) (.pair (.int .i64) (.pair (.sl 3 (.int .i64)) (.sl 3 (.int .i64)))))))), x.2, .own⟩]⟩
noncomputable def K40 (r : Res) : Option (Int × (List (Int × Int × Int × Int × Int × List Int × List Int))) :=
  match r with
  | ⟨[.one (.val (.int .i64 v1))], [], [⟨164, (.pair (.int .i64) (.pair (.int .i64) (.pair (.int .i64) (.pair (.int .i64) (.pair (.int .i64) (.pair (.sl 3 (.int .i64)) (.sl 3 (.int .i64)))))))), v2, .own⟩]⟩ => some (v1, v2)
  | _ => none
noncomputable def E40 : Fun2 := fun args bs rs =>
  match args, bs, rs with
  | [.s1 (.one (.sl 0)), .s1 (.one (.val (.int .i64 a1)))], [], [⟨164, (.pair (.int .i64) (.pair (.int .i64) (.pair (.int .i64) (.pair (.int .i64) (.pair (.int .i64) (.pair (.sl 3 (.int .i64)) (.sl 3 (.int .i64)))))))), a2, .own⟩] => some ⟨Int × (List (Int × Int × Int × Int × Int × List Int × List Int)), L.markBothS a1 a2, R40⟩
  | _, _, _ => none
theorem ev40 (a1 : Int) (a2 : List (Int × Int × Int × Int × Int × List Int × List Int)) : evF Try.prog G40 L40 (0, 1) [] Try.f40 c40 [vl 0, vi a1] [] [⟨164, (.pair (.int .i64) (.pair (.int .i64) (.pair (.int .i64) (.pair (.int .i64) (.pair (.int .i64) (.pair (.sl 3 (.int .i64)) (.sl 3 (.int .i64)))))))), a2, .own⟩] K40 = L.markBothS a1 a2 := by kernel_rfl
theorem good40 : Vm.Good Try.prog 40 E40 := by
  refine evF_good (G := G40) (c := c40) (envCons_good good96 envNil_good) Try.func40 (by kernel_rfl) (by kernel_rfl) (0, 1) (fun args bs rs out t h h2 => ?_)
  unfold E40 at h
  split at h
  · injection h with h
    subst h
    exact ⟨rfl, [], L40, K40, lp40, (fun r t h => by unfold K40 at h; split at h; (injection h with h; subst h; rfl); cases h), (ev40 _ _).trans h2⟩
  · cases h
/-! ### L.heldIntS -/
noncomputable def G97 : Env := envNil
noncomputable def c97 : Code := bodyOf Try.f97
noncomputable def c97_2 : Code := (loopsOf c97).getD 0 .skip
noncomputable def L.heldIntS_l0 : Nat → (Int → Int → Option Int) → (Int → Option Int) → Int → Int → List Int → Option Int
  | 0, _, _, _, _, _ => none
  | m + 1, e2_0, e2_1, a3, a4, a5 =>
    (bif (decide (a4 < (a5.length : Int))) then
    (bif decide ((0 : Int) ≤ a4 ∧ a4 < (a5.length : Int)) then
    (bif ((nthI a5 a4 (0 : Int)) != a3) then
    (e2_0 a3 (-1))
    else
    (L.heldIntS_l0 m e2_0 e2_1 (IntKind.wrap .i64 (a3 + 1)) (IntKind.wrap .i64 (a4 + 1)) a5))
    else
    none)
    else
    (e2_1 a3))
noncomputable def L.heldIntS (a1 : Int) (a2 : List Int) : Option Int :=
(L.heldIntS_l0 fu (fun y11 y12 =>
(some y12)) (fun y13 =>
(some y13)) a1 0 a2)
noncomputable def H97_2 : LoopH := ⟨⟨((.one (.sl 0)) :: hh :: (hu 3 (hh :: (hu 15 [])))), [], [(3, (.int .i64), .ro)]⟩, [2, 3, 4, 6, 7, 8, 9, 10, 11, 12, 13, 14, 15, 16, 17, 18, 19, 20], [], [0, 2, 3, 5, 6, 7, 8, 9, 10, 11, 12, 13, 14, 15, 16, 17, 18, 19, 20]⟩
noncomputable def E97_2 (m : Nat) (ps : List Prm) (k : Kont Int) : Option Int :=
  match ps with
  | [.v (.int .i64 a3), .v (.int .i64 a4), .row (.int .i64) a5] => L.heldIntS_l0 m (fun z17 z18 => k .ret (⟨((.s1 (.one (.unk))) :: (vi z17) :: (vu 2 ((vi z18) :: (vu 16 [])))), [], []⟩ : St)) (fun z19 => k (.exit 0) (⟨((.s1 (.one (.unk))) :: (vi z19) :: (vu 19 [])), [], []⟩ : St)) a3 a4 a5
  | _ => none
noncomputable def S97_2 (a3 a4 : Int) (a5 : List Int) : St := (⟨((vl 0) :: (vi a3) :: (vu 3 ((vi a4) :: (vu 15 [])))), [], [⟨3, (.int .i64), a5, .ro⟩]⟩ : St)
theorem ev97_2 (m : Nat) (k : Kont Int) (a3 a4 : Int) (a5 : List Int) : evC Try.prog G97 loopNil c97_2 (S97_2 a3 a4 a5) (turn Try.prog (0, 0) H97_2 (E97_2 m) k) = E97_2 (m + 1) [.v (.int .i64 a3), .v (.int .i64 a4), .row (.int .i64) a5] k := by kernel_rfl
theorem ok97_2 (m : Nat) : LoopOk Try.prog (0, 0) c97_2 (enter Try.prog (0, 0) H97_2 (E97_2 m)) := by
  refine loop_ok (G := G97) (L := loopNil) envNil_good (by intro x hx; simp [show loopsOf c97_2 = [] from by kernel_rfl] at hx) (fun ps k => by unfold E97_2; split <;> rfl) (fun m ps k r h => ?_) m
  have h0 := h
  unfold E97_2 at h
  split at h
  · exact ⟨S97_2 _ _ _, by kernel_rfl, (ev97_2 m k _ _ _).trans h0⟩
  · cases h
noncomputable def L97 : LEnv Int := (loopCons 2 (enter Try.prog (0, 0) H97_2 (E97_2 fu)) loopNil)
theorem lq97 : loopsOf c97 = [c97_2] := by kernel_rfl
theorem fr97_2 : firstReg c97_2 = some 2 := by kernel_rfl
theorem le97_2 : L97 2 = enter Try.prog (0, 0) H97_2 (E97_2 fu) := by kernel_rfl
theorem lm97 : ∀ x ∈ [c97_2], ∀ id, firstReg x = some id → LoopOk Try.prog (0, 0) x (L97 id) := (loops_cons fr97_2 le97_2 (ok97_2 fu) loops_nil)
theorem lp97 : ∀ x ∈ loopsOf c97, ∀ id, firstReg x = some id → LoopOk Try.prog (0, 0) x (L97 id) := loops_eq lq97 lm97
noncomputable def R97 (x : Int) : Res := ⟨[.one (ai x)], [], []⟩
noncomputable def K97 (r : Res) : Option Int :=
  match r with
  | ⟨[.one (.val (.int .i64 v1))], [], []⟩ => some (v1)
  | _ => none
noncomputable def E97 : Fun2 := fun args bs rs =>
  match args, bs, rs with
  | [.s1 (.one (.sl 0)), .s1 (.one (.val (.int .i64 a1)))], [], [⟨3, (.int .i64), a2, .ro⟩] => some ⟨Int, L.heldIntS a1 a2, R97⟩
  | _, _, _ => none
theorem ev97 (a1 : Int) (a2 : List Int) : evF Try.prog G97 L97 (0, 0) [] Try.f97 c97 [vl 0, vi a1] [] [⟨3, (.int .i64), a2, .ro⟩] K97 = L.heldIntS a1 a2 := by kernel_rfl
theorem good97 : Vm.Good Try.prog 97 E97 := by
  refine evF_good (G := G97) (c := c97) envNil_good Try.func97 (by kernel_rfl) (by kernel_rfl) (0, 0) (fun args bs rs out t h h2 => ?_)
  unfold E97 at h
  split at h
  · injection h with h
    subst h
    exact ⟨rfl, [], L97, K97, lp97, (fun r t h => by unfold K97 at h; split at h; (injection h with h; subst h; rfl); cases h), (ev97 _ _).trans h2⟩
  · cases h
/-! ### L.heldBothS -/
noncomputable def G41 : Env := (envCons 97 [] E97 envNil)
noncomputable def c41 : Code := bodyOf Try.f41
noncomputable def c41_2 : Code := (loopsOf c41).getD 0 .skip
noncomputable def L.heldBothS_l0 : Nat → (Int → Int → Option Int) → (Int → Option Int) → Int → Int → (List (Int × Int × Int × Int × Int × List Int × List Int)) → Option Int
  | 0, _, _, _, _, _ => none
  | m + 1, e2_0, e2_1, a3, a4, a5 =>
    (bif (decide (a4 < (a5.length : Int))) then
    (bif decide ((0 : Int) ≤ a4 ∧ a4 < (a5.length : Int)) then
    (let v8 : Bool := ((nthI a5 a4 ((0 : Int), ((0 : Int), ((0 : Int), ((0 : Int), ((0 : Int), ([], []))))))).1 != a3)
    (bif v8 then
    (e2_0 a3 (-1))
    else
    (let v9 : Int := (IntKind.wrap .i64 (a3 + 1))
    (bif decide ((0 : Int) ≤ a4 ∧ a4 < (a5.length : Int)) then
    (let v10 : Bool := ((nthI a5 a4 ((0 : Int), ((0 : Int), ((0 : Int), ((0 : Int), ((0 : Int), ([], []))))))).2.1 != v9)
    (bif v10 then
    (e2_0 v9 (-1))
    else
    (let v11 : Int := (IntKind.wrap .i64 (v9 + 1))
    (bif decide ((0 : Int) ≤ a4 ∧ a4 < (a5.length : Int)) then
    (let v12 : Bool := ((nthI a5 a4 ((0 : Int), ((0 : Int), ((0 : Int), ((0 : Int), ((0 : Int), ([], []))))))).2.2.1 != v11)
    (bif v12 then
    (e2_0 v11 (-1))
    else
    (let v13 : Int := (IntKind.wrap .i64 (v11 + 1))
    (bif decide ((0 : Int) ≤ a4 ∧ a4 < (a5.length : Int)) then
    (let v14 : Bool := ((nthI a5 a4 ((0 : Int), ((0 : Int), ((0 : Int), ((0 : Int), ((0 : Int), ([], []))))))).2.2.2.1 != v13)
    (bif v14 then
    (e2_0 v13 (-1))
    else
    (let v15 : Int := (IntKind.wrap .i64 (v13 + 1))
    (bif decide ((0 : Int) ≤ a4 ∧ a4 < (a5.length : Int)) then
    (let v16 : Bool := ((nthI a5 a4 ((0 : Int), ((0 : Int), ((0 : Int), ((0 : Int), ((0 : Int), ([], []))))))).2.2.2.2.1 != v15)
    (bif v16 then
    (e2_0 v15 (-1))
    else
    (bif decide ((0 : Int) ≤ a4 ∧ a4 < (a5.length : Int)) then
    (Option.bind (L.heldIntS (IntKind.wrap .i64 (v15 + 1)) ((nthI a5 a4 ((0 : Int), ((0 : Int), ((0 : Int), ((0 : Int), ((0 : Int), ([], []))))))).2.2.2.2.2.1)) fun r18 =>
    (bif (decide (r18 < 0)) then
    (e2_0 r18 (-1))
    else
    (bif decide ((0 : Int) ≤ a4 ∧ a4 < (a5.length : Int)) then
    (Option.bind (L.heldIntS r18 ((nthI a5 a4 ((0 : Int), ((0 : Int), ((0 : Int), ((0 : Int), ((0 : Int), ([], []))))))).2.2.2.2.2.2)) fun r20 =>
    (bif (decide (r20 < 0)) then
    (e2_0 r20 (-1))
    else
    (L.heldBothS_l0 m e2_0 e2_1 r20 (IntKind.wrap .i64 (a4 + 1)) a5)))
    else
    none)))
    else
    none)))
    else
    none))))
    else
    none))))
    else
    none))))
    else
    none))))
    else
    none)
    else
    (e2_1 a3))
noncomputable def L.heldBothS (a1 : Int) (a2 : List (Int × Int × Int × Int × Int × List Int × List Int)) : Option Int :=
(L.heldBothS_l0 fu (fun y23 y24 =>
(some y24)) (fun y25 =>
(some y25)) a1 0 a2)
noncomputable def H41_2 : LoopH := ⟨⟨((.one (.sl 0)) :: hh :: (hu 3 (hh :: (hu 70 [])))), [], [(164, (.pair (.int .i64) (.pair (.int .i64) (.pair (.int .i64) (.pair (.int .i64) (.pair (.int .i64) (.pair (.sl 3 (.int .i64)) (.sl 3 (.int .i64)))))))), .ro)]⟩, [2, 3, 4, 6, 7, 8, 9, 10, 11, 12, 13, 14, 15, 16, 17, 18, 19, 20, 21, 22, 23, 24, 25, 26, 27, 28, 29, 30, 31, 32, 33, 34, 35, 36, 37, 38, 39, 40, 41, 42, 43, 44, 45, 46, 47, 48, 49, 50, 51, 52, 53, 54, 55, 56, 57, 58, 59, 60, 61, 62, 63, 64, 65, 66, 67, 68, 69, 70, 71, 72, 73, 74, 75], [], [0, 2, 3, 5, 6, 7, 8, 9, 10, 11, 12, 13, 14, 15, 16, 17, 18, 19, 20, 21, 22, 23, 24, 25, 26, 27, 28, 29, 30, 31, 32, 33, 34, 35, 36, 37, 38, 39, 40, 41, 42, 43, 44, 45, 46, 47, 48, 49, 50, 51, 52, 53, 54, 55, 56, 57, 58, 59, 60, 61, 62, 63, 64, 65, 66, 67, 68, 69, 70, 71, 72, 73, 74, 75]⟩
noncomputable def E41_2 (m : Nat) (ps : List Prm) (k : Kont Int) : Option Int :=
  match ps with
  | [.v (.int .i64 a3), .v (.int .i64 a4), .row (.pair (.int .i64) (.pair (.int .i64) (.pair (.int .i64) (.pair (.int .i64) (.pair (.int .i64) (.pair (.sl 3 (.int .i64)) (.sl 3 (.int .i64)))))))) a5] => L.heldBothS_l0 m (fun z29 z30 => k .ret (⟨((.s1 (.one (.unk))) :: (vi z29) :: (vu 2 ((vi z30) :: (vu 71 [])))), [], []⟩ : St)) (fun z31 => k (.exit 0) (⟨((.s1 (.one (.unk))) :: (vi z31) :: (vu 74 [])), [], []⟩ : St)) a3 a4 a5
  | _ => none
noncomputable def S41_2 (a3 a4 : Int) (a5 : List (Int × Int × Int × Int × Int × List Int × List Int)) : St := (⟨((vl 0) :: (vi a3) :: (vu 3 ((vi a4) :: (vu 70 [])))), [], [⟨164, (.pair (.int .i64) (.pair (.int .i64) (.pair (.int .i64) (.pair (.int .i64) (.pair (.int .i64) (.pair (.sl 3 (.int .i64)) (.sl 3 (.int .i64)))))))), a5, .ro⟩]⟩ : St)
theorem ev41_2 (m : Nat) (k : Kont Int) (a3 a4 : Int) (a5 : List (Int × Int × Int × Int × Int × List Int × List Int)) : evC Try.prog G41 loopNil c41_2 (S41_2 a3 a4 a5) (turn Try.prog (0, 0) H41_2 (E41_2 m) k) = E41_2 (m + 1) [.v (.int .i64 a3), .v (.int .i64 a4), .row (.pair (.int .i64) (.pair (.int .i64) (.pair (.int .i64) (.pair (.int .i64) (.pair (.int .i64) (.pair (.sl 3 (.int .i64)) (.sl 3 (.int .i64)))))))) a5] k := by kernel_rfl
theorem ok41_2 (m : Nat) : LoopOk Try.prog (0, 0) c41_2 (enter Try.prog (0, 0) H41_2 (E41_2 m)) := by
  refine loop_ok (G := G41) (L := loopNil) (envCons_good good97 envNil_good) (by intro x hx; simp [show loopsOf c41_2 = [] from by kernel_rfl] at hx) (fun ps k => by unfold E41_2; split <;> rfl) (fun m ps k r h => ?_) m
  have h0 := h
  unfold E41_2 at h
  split at h
  · exact ⟨S41_2 _ _ _, by kernel_rfl, (ev41_2 m k _ _ _).trans h0⟩
  · cases h
noncomputable def L41 : LEnv Int := (loopCons 2 (enter Try.prog (0, 0) H41_2 (E41_2 fu)) loopNil)
theorem lq41 : loopsOf c41 = [c41_2] := by kernel_rfl
theorem fr41_2 : firstReg c41_2 = some 2 := by kernel_rfl
theorem le41_2 : L41 2 = enter Try.prog (0, 0) H41_2 (E41_2 fu) := by kernel_rfl
theorem lm41 : ∀ x ∈ [c41_2], ∀ id, firstReg x = some id → LoopOk Try.prog (0, 0) x (L41 id) := (loops_cons fr41_2 le41_2 (ok41_2 fu) loops_nil)
theorem lp41 : ∀ x ∈ loopsOf c41, ∀ id, firstReg x = some id → LoopOk Try.prog (0, 0) x (L41 id) := loops_eq lq41 lm41
noncomputable def R41 (x : Int) : Res := ⟨[.one (ai x)], [], []⟩
noncomputable def K41 (r : Res) : Option Int :=
  match r with
  | ⟨[.one (.val (.int .i64 v1))], [], []⟩ => some (v1)
  | _ => none
noncomputable def E41 : Fun2 := fun args bs rs =>
  match args, bs, rs with
  | [.s1 (.one (.sl 0)), .s1 (.one (.val (.int .i64 a1)))], [], [⟨164, (.pair (.int .i64) (.pair (.int .i64) (.pair (.int .i64) (.pair (.int .i64) (.pair (.int .i64) (.pair (.sl 3 (.int .i64)) (.sl 3 (.int .i64)))))))), a2, .ro⟩] => some ⟨Int, L.heldBothS a1 a2, R41⟩
  | _, _, _ => none
theorem ev41 (a1 : Int) (a2 : List (Int × Int × Int × Int × Int × List Int × List Int)) : evF Try.prog G41 L41 (0, 0) [] Try.f41 c41 [vl 0, vi a1] [] [⟨164, (.pair (.int .i64) (.pair (.int .i64) (.pair (.int .i64) (.pair (.int .i64) (.pair (.int .i64) (.pair (.sl 3 (.int .i64)) (.sl 3 (.int .i64)))))))), a2, .ro⟩] K41 = L.heldBothS a1 a2 := by kernel_rfl
theorem good41 : Vm.Good Try.prog 41 E41 := by
  refine evF_good (G := G41) (c := c41) (envCons_good good97 envNil_good) Try.func41 (by kernel_rfl) (by kernel_rfl) (0, 0) (fun args bs rs out t h h2 => ?_)
  unfold E41 at h
  split at h
  · injection h with h
    subst h
    exact ⟨rfl, [], L41, K41, lp41, (fun r t h => by unfold K41 at h; split at h; (injection h with h; subst h; rfl); cases h), (ev41 _ _).trans h2⟩
  · cases h
/-! ### L.FnExactBothOf -/
noncomputable def G5 : Env := (envCons 29 [] E29 (envCons 30 [] E30 (envCons 32 [] E32 (envCons 33 [] E33 (envCons 31 [] E31 (envCons 34 [] E34 (envCons 35 [] E35 (envCons 36 [] E36 (envCons 37 [] E37 (envCons 38 [1] E38 (envCons 39 [0] E39 (envCons 40 [0] E40 (envCons 41 [] E41 envNil)))))))))))))
noncomputable def c5 : Code := bodyOf Try.f5
noncomputable def L.FnExactBothOf (a1 : Int) (a2 : List Int) (a3 a4 : List (Int × Int × Int × Int × Int × Int × List Int × Bool)) : Option Bool :=
(Option.bind (L.szLat a1 1048576 a2) fun r5 =>
(bif (decide (r5 < 0)) then
(some true)
else
(Option.bind (L.szPaneS r5 a3) fun r7 =>
(bif (decide (r7 < 0)) then
(some true)
else
(Option.bind (L.szPaneS r7 a4) fun r9 =>
(bif (decide (r9 < 0)) then
(some true)
else
(Option.bind (L.toLat a1 a2) fun r11 =>
(Option.bind (L.toPaneS a3) fun r12 =>
(Option.bind (L.toPaneS a4) fun r13 =>
(Option.bind (S.BothOf r11.1 r11.2 r12 r13) fun r14 =>
(Option.bind (L.toLat a1 a2) fun r15 =>
(Option.bind (L.toPaneS a3) fun r16 =>
(Option.bind (L.toPaneS a4) fun r17 =>
(Option.bind (I.BothOf r15.1 r15.2 r16 r17) fun r18 =>
(Option.bind (L.eqBothS r18.2 r14.2) fun r19 =>
(bif (!r19) then
(some false)
else
(bif (!(r18.1 == r14.1)) then
(some false)
else
(Option.bind (L.toLat a1 a2) fun r21 =>
(Option.bind (L.eqLat r15.1 r21.1 r15.2 r21.2) fun r22 =>
(bif (!r22) then
(some false)
else
(Option.bind (L.toPaneS a3) fun r23 =>
(Option.bind (L.eqPaneS r16 r23) fun r24 =>
(bif (!r24) then
(some false)
else
(Option.bind (L.toPaneS a4) fun r25 =>
(Option.bind (L.eqPaneS r17 r25) fun r26 =>
(bif (!r26) then
(some false)
else
(Option.bind (L.markLat r15.1 1 r15.2) fun r27 =>
(Option.bind (L.markPaneS r27.1 r16) fun r28 =>
(Option.bind (L.markPaneS r28.1 r17) fun r29 =>
(bif (decide (r29.1 < 0)) then
(some false)
else
(Option.bind (L.eqBothS r18.2 r14.2) fun r31 =>
(bif (!r31) then
(some false)
else
(bif (!(r18.1 == r14.1)) then
(some false)
else
(Option.bind (L.markBothS 1 r18.2) fun r33 =>
(Option.bind (L.heldBothS 1 r33.2) fun r34 =>
(bif (decide (r34 < 0)) then
(some false)
else
(bif (r34 != r33.1) then
(some false)
else
(Option.bind (L.toLat a1 a2) fun r36 =>
(Option.bind (L.toPaneS a3) fun r37 =>
(Option.bind (L.toPaneS a4) fun r38 =>
(Option.bind (I.BothOf r36.1 r36.2 r37 r38) fun r39 =>
(Option.bind (L.eqBothS r39.2 r14.2) fun r40 =>
(bif (!r40) then
(some false)
else
(bif (!(r39.1 == r14.1)) then
(some false)
else
(Option.bind (L.heldBothS 1 r33.2) fun r42 =>
(bif (decide (r42 < 0)) then
(some false)
else
(bif (r42 != r33.1) then
(some false)
else
(some true))))))))))))))))))))))))))))))))))))))))))))))))
noncomputable def R5 (x : Bool) : Res := ⟨[.one (ab x)], [], []⟩
noncomputable def K5 (r : Res) : Option Bool :=
  match r with
  | ⟨[.one (.val (.bool v1))], [], []⟩ => some (v1)
  | _ => none
noncomputable def E5 : Fun2 := fun args bs rs =>
  match args, bs, rs with
  | [.s1 (.agg [.val (.int .i64 a1), .sl 0]), .s1 (.one (.sl 1)), .s1 (.one (.sl 2))], [], [⟨117, (.int .u64), a2, .ro⟩, ⟨64, (.pair (.int .i64) (.pair (.int .i64) (.pair (.int .i64) (.pair (.int .i64) (.pair (.int .i64) (.pair (.int .i64) (.pair (.sl 3 (.int .i64)) .bool))))))), a3, .ro⟩, ⟨64, (.pair (.int .i64) (.pair (.int .i64) (.pair (.int .i64) (.pair (.int .i64) (.pair (.int .i64) (.pair (.int .i64) (.pair (.sl 3 (.int .i64)) .bool))))))), a4, .ro⟩] => some ⟨Bool, L.FnExactBothOf a1 a2 a3 a4, R5⟩
  | _, _, _ => none
theorem ev5 (a1 : Int) (a2 : List Int) (a3 a4 : List (Int × Int × Int × Int × Int × Int × List Int × Bool)) : evF Try.prog G5 loopNil (0, 0) [] Try.f5 c5 [.s1 (.agg [ai a1, .sl 0]), vl 1, vl 2] [] [⟨117, (.int .u64), a2, .ro⟩, ⟨64, (.pair (.int .i64) (.pair (.int .i64) (.pair (.int .i64) (.pair (.int .i64) (.pair (.int .i64) (.pair (.int .i64) (.pair (.sl 3 (.int .i64)) .bool))))))), a3, .ro⟩, ⟨64, (.pair (.int .i64) (.pair (.int .i64) (.pair (.int .i64) (.pair (.int .i64) (.pair (.int .i64) (.pair (.int .i64) (.pair (.sl 3 (.int .i64)) .bool))))))), a4, .ro⟩] K5 = L.FnExactBothOf a1 a2 a3 a4 := by kernel_rfl
theorem good5 : Vm.Good Try.prog 5 E5 := by
  refine evF_good (G := G5) (c := c5) (envCons_good good29 (envCons_good good30 (envCons_good good32 (envCons_good good33 (envCons_good good31 (envCons_good good34 (envCons_good good35 (envCons_good good36 (envCons_good good37 (envCons_good good38 (envCons_good good39 (envCons_good good40 (envCons_good good41 envNil_good))))))))))))) Try.func5 (by kernel_rfl) (by kernel_rfl) (0, 0) (fun args bs rs out t h h2 => ?_)
  unfold E5 at h
  split at h
  · injection h with h
    subst h
    exact ⟨rfl, [], loopNil, K5, (by intro x hx; simp [show loopsOf c5 = [] from by kernel_rfl] at hx), (fun r t h => by unfold K5 at h; split at h; (injection h with h; subst h; rfl); cases h), (ev5 _ _ _ _).trans h2⟩
  · cases h
end Go.Proofs.Ythddkomphkanbaa.Run
