import Derived.Test.YthddkomphkanbaaGnCellsDueA
namespace Go.Proofs.Ythddkomphkanbaa.Run
open Go Go.RowKit Go.Proofs.YthddkomphkanbaaW.PrintWords Go.Proofs.Ythddkomphkanbaa.Vm
set_option linter.unusedVariables false
set_option maxRecDepth 100000

/-! ### L.heldCellS -/
noncomputable def G56 : Env := (envCons 97 [] E97 envNil)
noncomputable def c56 : Code := bodyOf Try.f56
noncomputable def c56_2 : Code := (loopsOf c56).getD 0 .skip
noncomputable def L.heldCellS_l0 : Nat → (Int → Int → Option Int) → (Int → Option Int) → Int → Int → (List (Int × Int × Int × Int × Int × Int × (Int × Int) × Int × Int × List Int)) → Option Int
  | 0, _, _, _, _, _ => none
  | m + 1, e2_0, e2_1, a3, a4, a5 =>
    (bif (decide (a4 < (a5.length : Int))) then
    (bif decide ((0 : Int) ≤ a4 ∧ a4 < (a5.length : Int)) then
    (let v8 : Bool := ((nthI a5 a4 ((0 : Int), ((0 : Int), ((0 : Int), ((0 : Int), ((0 : Int), ((0 : Int), (((0 : Int), (0 : Int)), ((0 : Int), ((0 : Int), [])))))))))).1 != a3)
    (bif v8 then
    (e2_0 a3 (-1))
    else
    (let v9 : Int := (IntKind.wrap .i64 (a3 + 1))
    (bif decide ((0 : Int) ≤ a4 ∧ a4 < (a5.length : Int)) then
    (let v10 : Bool := ((nthI a5 a4 ((0 : Int), ((0 : Int), ((0 : Int), ((0 : Int), ((0 : Int), ((0 : Int), (((0 : Int), (0 : Int)), ((0 : Int), ((0 : Int), [])))))))))).2.1 != v9)
    (bif v10 then
    (e2_0 v9 (-1))
    else
    (let v11 : Int := (IntKind.wrap .i64 (v9 + 1))
    (bif decide ((0 : Int) ≤ a4 ∧ a4 < (a5.length : Int)) then
    (let v12 : Bool := ((nthI a5 a4 ((0 : Int), ((0 : Int), ((0 : Int), ((0 : Int), ((0 : Int), ((0 : Int), (((0 : Int), (0 : Int)), ((0 : Int), ((0 : Int), [])))))))))).2.2.1 != v11)
    (bif v12 then
    (e2_0 v11 (-1))
    else
    (let v13 : Int := (IntKind.wrap .i64 (v11 + 1))
    (bif decide ((0 : Int) ≤ a4 ∧ a4 < (a5.length : Int)) then
    (let v14 : Bool := ((nthI a5 a4 ((0 : Int), ((0 : Int), ((0 : Int), ((0 : Int), ((0 : Int), ((0 : Int), (((0 : Int), (0 : Int)), ((0 : Int), ((0 : Int), [])))))))))).2.2.2.1 != v13)
    (bif v14 then
    (e2_0 v13 (-1))
    else
    (let v15 : Int := (IntKind.wrap .i64 (v13 + 1))
    (bif decide ((0 : Int) ≤ a4 ∧ a4 < (a5.length : Int)) then
    (let v16 : Bool := ((nthI a5 a4 ((0 : Int), ((0 : Int), ((0 : Int), ((0 : Int), ((0 : Int), ((0 : Int), (((0 : Int), (0 : Int)), ((0 : Int), ((0 : Int), [])))))))))).2.2.2.2.1 != v15)
    (bif v16 then
    (e2_0 v15 (-1))
    else
    (let v17 : Int := (IntKind.wrap .i64 (v15 + 1))
    (bif decide ((0 : Int) ≤ a4 ∧ a4 < (a5.length : Int)) then
    (let v18 : Bool := ((nthI a5 a4 ((0 : Int), ((0 : Int), ((0 : Int), ((0 : Int), ((0 : Int), ((0 : Int), (((0 : Int), (0 : Int)), ((0 : Int), ((0 : Int), [])))))))))).2.2.2.2.2.1 != v17)
    (bif v18 then
    (e2_0 v17 (-1))
    else
    (let v19 : Int := (IntKind.wrap .i64 (v17 + 1))
    (bif decide ((0 : Int) ≤ a4 ∧ a4 < (a5.length : Int)) then
    (let v20 : Bool := ((nthI a5 a4 ((0 : Int), ((0 : Int), ((0 : Int), ((0 : Int), ((0 : Int), ((0 : Int), (((0 : Int), (0 : Int)), ((0 : Int), ((0 : Int), [])))))))))).2.2.2.2.2.2.1.1 != v19)
    (bif v20 then
    (e2_0 v19 (-1))
    else
    (let v21 : Int := (IntKind.wrap .i64 (v19 + 1))
    (bif decide ((0 : Int) ≤ a4 ∧ a4 < (a5.length : Int)) then
    (let v23 : Bool := ((nthI a5 a4 ((0 : Int), ((0 : Int), ((0 : Int), ((0 : Int), ((0 : Int), ((0 : Int), (((0 : Int), (0 : Int)), ((0 : Int), ((0 : Int), [])))))))))).2.2.2.2.2.2.1.2 != (IntKind.wrap .u64 v21))
    (bif v23 then
    (e2_0 v21 (-1))
    else
    (let v24 : Int := (IntKind.wrap .i64 (v21 + 1))
    (bif decide ((0 : Int) ≤ a4 ∧ a4 < (a5.length : Int)) then
    (let v25 : Bool := ((nthI a5 a4 ((0 : Int), ((0 : Int), ((0 : Int), ((0 : Int), ((0 : Int), ((0 : Int), (((0 : Int), (0 : Int)), ((0 : Int), ((0 : Int), [])))))))))).2.2.2.2.2.2.2.1 != v24)
    (bif v25 then
    (e2_0 v24 (-1))
    else
    (let v26 : Int := (IntKind.wrap .i64 (v24 + 1))
    (bif decide ((0 : Int) ≤ a4 ∧ a4 < (a5.length : Int)) then
    (let v27 : Bool := ((nthI a5 a4 ((0 : Int), ((0 : Int), ((0 : Int), ((0 : Int), ((0 : Int), ((0 : Int), (((0 : Int), (0 : Int)), ((0 : Int), ((0 : Int), [])))))))))).2.2.2.2.2.2.2.2.1 != v26)
    (bif v27 then
    (e2_0 v26 (-1))
    else
    (bif decide ((0 : Int) ≤ a4 ∧ a4 < (a5.length : Int)) then
    (Option.bind (L.heldIntS (IntKind.wrap .i64 (v26 + 1)) ((nthI a5 a4 ((0 : Int), ((0 : Int), ((0 : Int), ((0 : Int), ((0 : Int), ((0 : Int), (((0 : Int), (0 : Int)), ((0 : Int), ((0 : Int), [])))))))))).2.2.2.2.2.2.2.2.2)) fun r29 =>
    (bif (decide (r29 < 0)) then
    (e2_0 r29 (-1))
    else
    (L.heldCellS_l0 m e2_0 e2_1 r29 (IntKind.wrap .i64 (a4 + 1)) a5)))
    else
    none)))
    else
    none))))
    else
    none))))
    else
    none))))
    else
    none))))
    else
    none))))
    else
    none))))
    else
    none))))
    else
    none))))
    else
    none))))
    else
    none)
    else
    (e2_1 a3))
noncomputable def L.heldCellS (a1 : Int) (a2 : List (Int × Int × Int × Int × Int × Int × (Int × Int) × Int × Int × List Int)) : Option Int :=
(L.heldCellS_l0 fu (fun y32 y33 =>
(some y33)) (fun y34 =>
(some y34)) a1 0 a2)
noncomputable def H56_2 : LoopH := ⟨⟨((.one (.sl 0)) :: hh :: (hu 3 (hh :: (hu 115 [])))), [], [(180, (.pair (.int .i64) (.pair (.int .i64) (.pair (.int .i64) (.pair (.int .i64) (.pair (.int .i64) (.pair (.int .i64) (.pair (.pair (.int .i64) (.int .u64)) (.pair (.int .i64) (.pair (.int .i64) (.sl 3 (.int .i64))))))))))), .ro)]⟩, [2, 3, 4, 6, 7, 8, 9, 10, 11, 12, 13, 14, 15, 16, 17, 18, 19, 20, 21, 22, 23, 24, 25, 26, 27, 28, 29, 30, 31, 32, 33, 34, 35, 36, 37, 38, 39, 40, 41, 42, 43, 44, 45, 46, 47, 48, 49, 50, 51, 52, 53, 54, 55, 56, 57, 58, 59, 60, 61, 62, 63, 64, 65, 66, 67, 68, 69, 70, 71, 72, 73, 74, 75, 76, 77, 78, 79, 80, 81, 82, 83, 84, 85, 86, 87, 88, 89, 90, 91, 92, 93, 94, 95, 96, 97, 98, 99, 100, 101, 102, 103, 104, 105, 106, 107, 108, 109, 110, 111, 112, 113, 114, 115, 116, 117, 118, 119, 120], [], [0, 2, 3, 5, 6, 7, 8, 9, 10, 11, 12, 13, 14, 15, 16, 17, 18, 19, 20, 21, 22, 23, 24, 25, 26, 27, 28, 29, 30, 31, 32, 33, 34, 35, 36, 37, 38, 39, 40, 41, 42, 43, 44, 45, 46, 47, 48, 49, 50, 51, 52, 53, 54, 55, 56, 57, 58, 59, 60, 61, 62, 63, 64, 65, 66, 67, 68, 69, 70, 71, 72, 73, 74, 75, 76, 77, 78, 79, 80, 81, 82, 83, 84, 85, 86, 87, 88, 89, 90, 91, 92, 93, 94, 95, 96, 97, 98, 99, 100, 101, 102, 103, 104, 105, 106, 107, 108, 109, 110, 111, 112, 113, 114, 115, 116, 117, 118, 119, 120], []⟩
noncomputable def E56_2 (m : Nat) (ps : List Prm) (k : Kont Int) : Option Int :=
  match ps with
  | [.v (.int .i64 a3), .v (.int .i64 a4), .row (.pair (.int .i64) (.pair (.int .i64) (.pair (.int .i64) (.pair (.int .i64) (.pair (.int .i64) (.pair (.int .i64) (.pair (.pair (.int .i64) (.int .u64)) (.pair (.int .i64) (.pair (.int .i64) (.sl 3 (.int .i64))))))))))) a5] => L.heldCellS_l0 m (fun z38 z39 => k .ret (⟨((.s1 (.one (.unk))) :: (vi z38) :: (vu 2 ((vi z39) :: (vu 116 [])))), [], []⟩ : St)) (fun z40 => k (.exit 0) (⟨((.s1 (.one (.unk))) :: (vi z40) :: (vu 119 [])), [], []⟩ : St)) a3 a4 a5
  | _ => none
noncomputable def S56_2 (a3 a4 : Int) (a5 : List (Int × Int × Int × Int × Int × Int × (Int × Int) × Int × Int × List Int)) : St := (⟨((vl 0) :: (vi a3) :: (vu 3 ((vi a4) :: (vu 115 [])))), [], [⟨180, (.pair (.int .i64) (.pair (.int .i64) (.pair (.int .i64) (.pair (.int .i64) (.pair (.int .i64) (.pair (.int .i64) (.pair (.pair (.int .i64) (.int .u64)) (.pair (.int .i64) (.pair (.int .i64) (.sl 3 (.int .i64))))))))))), a5, .ro⟩]⟩ : St)
theorem ev56_2 (m : Nat) (k : Kont Int) (a3 a4 : Int) (a5 : List (Int × Int × Int × Int × Int × Int × (Int × Int) × Int × Int × List Int)) : evC Try.prog G56 loopNil c56_2 (S56_2 a3 a4 a5) (turn Try.prog (0, 0) H56_2 (E56_2 m) k) = E56_2 (m + 1) [.v (.int .i64 a3), .v (.int .i64 a4), .row (.pair (.int .i64) (.pair (.int .i64) (.pair (.int .i64) (.pair (.int .i64) (.pair (.int .i64) (.pair (.int .i64) (.pair (.pair (.int .i64) (.int .u64)) (.pair (.int .i64) (.pair (.int .i64) (.sl 3 (.int .i64))))))))))) a5] k := by kernel_rfl
theorem ok56_2 (m : Nat) : LoopOk Try.prog (0, 0) c56_2 (enter Try.prog (0, 0) H56_2 (E56_2 m)) := by
  refine loop_ok (G := G56) (L := loopNil) (envCons_good good97 envNil_good) (by intro x hx; simp [show loopsOf c56_2 = [] from by kernel_rfl] at hx) (fun ps k => by unfold E56_2; split <;> rfl) (fun m ps k r h => ?_) m
  have h0 := h
  unfold E56_2 at h
  split at h
  · exact ⟨S56_2 _ _ _, by kernel_rfl, (ev56_2 m k _ _ _).trans h0⟩
  · cases h
noncomputable def L56 : LEnv Int := (loopCons 2 (enter Try.prog (0, 0) H56_2 (E56_2 fu)) loopNil)
theorem lq56 : loopsOf c56 = [c56_2] := by kernel_rfl
theorem fr56_2 : firstReg c56_2 = some 2 := by kernel_rfl
theorem le56_2 : L56 2 = enter Try.prog (0, 0) H56_2 (E56_2 fu) := by kernel_rfl
theorem lm56 : ∀ x ∈ [c56_2], ∀ id, firstReg x = some id → LoopOk Try.prog (0, 0) x (L56 id) := (loops_cons fr56_2 le56_2 (ok56_2 fu) loops_nil)
theorem lp56 : ∀ x ∈ loopsOf c56, ∀ id, firstReg x = some id → LoopOk Try.prog (0, 0) x (L56 id) := loops_eq lq56 lm56
noncomputable def R56 (x : Int) : Res := ⟨[.one (ai x)], [], []⟩
noncomputable def K56 (r : Res) : Option Int :=
  match r with
  | ⟨[.one (.val (.int .i64 v1))], [], []⟩ => some (v1)
  | _ => none
noncomputable def E56 : Fun2 := fun args bs rs =>
  match args, bs, rs with
  | [.s1 (.one (.sl 0)), .s1 (.one (.val (.int .i64 a1)))], [], [⟨180, (.pair (.int .i64) (.pair (.int .i64) (.pair (.int .i64) (.pair (.int .i64) (.pair (.int .i64) (.pair (.int .i64) (.pair (.pair (.int .i64) (.int .u64)) (.pair (.int .i64) (.pair (.int .i64) (.sl 3 (.int .i64))))))))))), a2, .ro⟩] => some ⟨Int, L.heldCellS a1 a2, R56⟩
  | _, _, _ => none
theorem ev56 (a1 : Int) (a2 : List (Int × Int × Int × Int × Int × Int × (Int × Int) × Int × Int × List Int)) : evF Try.prog G56 L56 (0, 0) [] Try.f56 c56 [vl 0, vi a1] [] [⟨180, (.pair (.int .i64) (.pair (.int .i64) (.pair (.int .i64) (.pair (.int .i64) (.pair (.int .i64) (.pair (.int .i64) (.pair (.pair (.int .i64) (.int .u64)) (.pair (.int .i64) (.pair (.int .i64) (.sl 3 (.int .i64))))))))))), a2, .ro⟩] K56 = L.heldCellS a1 a2 := by kernel_rfl
theorem good56 : Vm.Good Try.prog 56 E56 := by
  refine evF_good (G := G56) (c := c56) (envCons_good good97 envNil_good) Try.func56 (by kernel_rfl) (by kernel_rfl) (0, 0) (fun args bs rs out t h h2 => ?_)
  unfold E56 at h
  split at h
  · injection h with h
    subst h
    exact ⟨rfl, [], L56, K56, lp56, (fun r t h => by unfold K56 at h; split at h; (injection h with h; subst h; rfl); cases h), (ev56 _ _).trans h2⟩
  · cases h
/-! ### L.FnExactCellsDue -/
noncomputable def G9 : Env := (envCons 50 [] E50 (envCons 52 [] E52 (envCons 57 [] E57 (envCons 58 [] E58 (envCons 54 [] E54 (envCons 55 [0] E55 (envCons 56 [] E56 envNil)))))))
noncomputable def c9 : Code := bodyOf Try.f9
noncomputable def L.FnExactCellsDue (a1 a2 : Int) (a3 : List (Int × Int × Int × Int × Int × Int × (Int × Int) × Int × Int × List Int)) : Option Bool :=
(Option.bind (L.szCellS 1048576 a3) fun r4 =>
(bif (decide (r4 < 0)) then
(some true)
else
(Option.bind (L.toCellS a3) fun r6 =>
(Option.bind (S.CellsDue a1 a2 r6) fun r7 =>
(Option.bind (L.toCellS a3) fun r8 =>
(Option.bind (I.CellsDue a1 a2 r8) fun r9 =>
(Option.bind (L.eqCellS r9 r7) fun r10 =>
(bif (!r10) then
(some false)
else
(Option.bind (L.toCellS a3) fun r11 =>
(Option.bind (L.eqCellS r8 r11) fun r12 =>
(bif (!r12) then
(some false)
else
(Option.bind (L.markCellS 1 r8) fun r13 =>
(bif (decide (r13.1 < 0)) then
(some false)
else
(Option.bind (L.eqCellS r9 r7) fun r15 =>
(bif (!r15) then
(some false)
else
(Option.bind (L.markCellS 1 r9) fun r16 =>
(Option.bind (L.heldCellS 1 r16.2) fun r17 =>
(bif (decide (r17 < 0)) then
(some false)
else
(bif (r17 != r16.1) then
(some false)
else
(Option.bind (L.toCellS a3) fun r19 =>
(Option.bind (I.CellsDue a1 a2 r19) fun r20 =>
(Option.bind (L.eqCellS r20 r7) fun r21 =>
(bif (!r21) then
(some false)
else
(Option.bind (L.heldCellS 1 r16.2) fun r22 =>
(bif (decide (r22 < 0)) then
(some false)
else
(bif (r22 != r16.1) then
(some false)
else
(some true)))))))))))))))))))))))))))
noncomputable def R9 (x : Bool) : Res := ⟨[.one (ab x)], [], []⟩
noncomputable def K9 (r : Res) : Option Bool :=
  match r with
  | ⟨[.one (.val (.bool v1))], [], []⟩ => some (v1)
  | _ => none
noncomputable def E9 : Fun2 := fun args bs rs =>
  match args, bs, rs with
  | [.s1 (.one (.sl 0)), .s1 (.one (.val (.int .i64 a1))), .s1 (.one (.val (.int .i64 a2)))], [], [⟨177, (.pair (.int .i64) (.pair (.int .i64) (.pair (.int .i64) (.pair (.int .i64) (.pair (.int .i64) (.pair (.int .i64) (.pair (.pair (.int .i64) (.int .u64)) (.pair (.int .i64) (.pair (.int .i64) (.sl 3 (.int .i64))))))))))), a3, .ro⟩] => some ⟨Bool, L.FnExactCellsDue a1 a2 a3, R9⟩
  | _, _, _ => none
theorem ev9 (a1 a2 : Int) (a3 : List (Int × Int × Int × Int × Int × Int × (Int × Int) × Int × Int × List Int)) : evF Try.prog G9 loopNil (0, 0) [] Try.f9 c9 [vl 0, vi a1, vi a2] [] [⟨177, (.pair (.int .i64) (.pair (.int .i64) (.pair (.int .i64) (.pair (.int .i64) (.pair (.int .i64) (.pair (.int .i64) (.pair (.pair (.int .i64) (.int .u64)) (.pair (.int .i64) (.pair (.int .i64) (.sl 3 (.int .i64))))))))))), a3, .ro⟩] K9 = L.FnExactCellsDue a1 a2 a3 := by kernel_rfl
theorem good9 : Vm.Good Try.prog 9 E9 := by
  refine evF_good (G := G9) (c := c9) (envCons_good good50 (envCons_good good52 (envCons_good good57 (envCons_good good58 (envCons_good good54 (envCons_good good55 (envCons_good good56 envNil_good))))))) Try.func9 (by kernel_rfl) (by kernel_rfl) (0, 0) (fun args bs rs out t h h2 => ?_)
  unfold E9 at h
  split at h
  · injection h with h
    subst h
    exact ⟨rfl, [], loopNil, K9, (by intro x hx; simp [show loopsOf c9 = [] from by kernel_rfl] at hx), (fun r t h => by unfold K9 at h; split at h; (injection h with h; subst h; rfl); cases h), (ev9 _ _ _).trans h2⟩
  · cases h
end Go.Proofs.Ythddkomphkanbaa.Run
