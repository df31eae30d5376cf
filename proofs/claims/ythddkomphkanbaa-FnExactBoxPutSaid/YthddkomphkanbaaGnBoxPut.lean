import Derived.Test.YthddkomphkanbaaGnBoxPutA
namespace Go.Proofs.Ythddkomphkanbaa.Run
open Go Go.RowKit Go.Proofs.YthddkomphkanbaaW.PrintWords Go.Proofs.Ythddkomphkanbaa.Vm
set_option linter.unusedVariables false
set_option maxRecDepth 100000

/-! ### L.heldItemS -/
noncomputable def G22 : Env := (envCons 97 [] E97 envNil)
noncomputable def c22 : Code := bodyOf Try.f22
noncomputable def c22_2 : Code := (loopsOf c22).getD 0 .skip
noncomputable def L.heldItemS_l0 : Nat → (Int → Int → Option Int) → (Int → Option Int) → Int → Int → (List (Int × Int × Int × Int × Int × Int × Int × Int × List Int × Bool)) → Option Int
  | 0, _, _, _, _, _ => none
  | m + 1, e2_0, e2_1, a3, a4, a5 =>
    (bif (decide (a4 < (a5.length : Int))) then
    (bif decide ((0 : Int) ≤ a4 ∧ a4 < (a5.length : Int)) then
    (let v8 : Bool := ((nthI a5 a4 ((0 : Int), ((0 : Int), ((0 : Int), ((0 : Int), ((0 : Int), ((0 : Int), ((0 : Int), ((0 : Int), ([], false)))))))))).1 != a3)
    (bif v8 then
    (e2_0 a3 (-1))
    else
    (let v9 : Int := (IntKind.wrap .i64 (a3 + 1))
    (bif decide ((0 : Int) ≤ a4 ∧ a4 < (a5.length : Int)) then
    (let v10 : Bool := ((nthI a5 a4 ((0 : Int), ((0 : Int), ((0 : Int), ((0 : Int), ((0 : Int), ((0 : Int), ((0 : Int), ((0 : Int), ([], false)))))))))).2.1 != v9)
    (bif v10 then
    (e2_0 v9 (-1))
    else
    (let v11 : Int := (IntKind.wrap .i64 (v9 + 1))
    (bif decide ((0 : Int) ≤ a4 ∧ a4 < (a5.length : Int)) then
    (let v12 : Bool := ((nthI a5 a4 ((0 : Int), ((0 : Int), ((0 : Int), ((0 : Int), ((0 : Int), ((0 : Int), ((0 : Int), ((0 : Int), ([], false)))))))))).2.2.1 != v11)
    (bif v12 then
    (e2_0 v11 (-1))
    else
    (let v13 : Int := (IntKind.wrap .i64 (v11 + 1))
    (bif decide ((0 : Int) ≤ a4 ∧ a4 < (a5.length : Int)) then
    (let v14 : Bool := ((nthI a5 a4 ((0 : Int), ((0 : Int), ((0 : Int), ((0 : Int), ((0 : Int), ((0 : Int), ((0 : Int), ((0 : Int), ([], false)))))))))).2.2.2.1 != v13)
    (bif v14 then
    (e2_0 v13 (-1))
    else
    (let v15 : Int := (IntKind.wrap .i64 (v13 + 1))
    (bif decide ((0 : Int) ≤ a4 ∧ a4 < (a5.length : Int)) then
    (let v16 : Bool := ((nthI a5 a4 ((0 : Int), ((0 : Int), ((0 : Int), ((0 : Int), ((0 : Int), ((0 : Int), ((0 : Int), ((0 : Int), ([], false)))))))))).2.2.2.2.1 != v15)
    (bif v16 then
    (e2_0 v15 (-1))
    else
    (let v17 : Int := (IntKind.wrap .i64 (v15 + 1))
    (bif decide ((0 : Int) ≤ a4 ∧ a4 < (a5.length : Int)) then
    (let v18 : Bool := ((nthI a5 a4 ((0 : Int), ((0 : Int), ((0 : Int), ((0 : Int), ((0 : Int), ((0 : Int), ((0 : Int), ((0 : Int), ([], false)))))))))).2.2.2.2.2.1 != v17)
    (bif v18 then
    (e2_0 v17 (-1))
    else
    (let v19 : Int := (IntKind.wrap .i64 (v17 + 1))
    (bif decide ((0 : Int) ≤ a4 ∧ a4 < (a5.length : Int)) then
    (let v20 : Bool := ((nthI a5 a4 ((0 : Int), ((0 : Int), ((0 : Int), ((0 : Int), ((0 : Int), ((0 : Int), ((0 : Int), ((0 : Int), ([], false)))))))))).2.2.2.2.2.2.1 != v19)
    (bif v20 then
    (e2_0 v19 (-1))
    else
    (let v21 : Int := (IntKind.wrap .i64 (v19 + 1))
    (bif decide ((0 : Int) ≤ a4 ∧ a4 < (a5.length : Int)) then
    (let v22 : Bool := ((nthI a5 a4 ((0 : Int), ((0 : Int), ((0 : Int), ((0 : Int), ((0 : Int), ((0 : Int), ((0 : Int), ((0 : Int), ([], false)))))))))).2.2.2.2.2.2.2.1 != v21)
    (bif v22 then
    (e2_0 v21 (-1))
    else
    (bif decide ((0 : Int) ≤ a4 ∧ a4 < (a5.length : Int)) then
    (Option.bind (L.heldIntS (IntKind.wrap .i64 (v21 + 1)) ((nthI a5 a4 ((0 : Int), ((0 : Int), ((0 : Int), ((0 : Int), ((0 : Int), ((0 : Int), ((0 : Int), ((0 : Int), ([], false)))))))))).2.2.2.2.2.2.2.2.1)) fun r24 =>
    (bif (decide (r24 < 0)) then
    (e2_0 r24 (-1))
    else
    (bif decide ((0 : Int) ≤ a4 ∧ a4 < (a5.length : Int)) then
    (bif decide (3 = 0) then
    none
    else
    (let v27 : Bool := (!((nthI a5 a4 ((0 : Int), ((0 : Int), ((0 : Int), ((0 : Int), ((0 : Int), ((0 : Int), ((0 : Int), ((0 : Int), ([], false)))))))))).2.2.2.2.2.2.2.2.2 == ((Int.tmod r24 3) == 0)))
    (bif v27 then
    (e2_0 r24 (-1))
    else
    (L.heldItemS_l0 m e2_0 e2_1 (IntKind.wrap .i64 (r24 + 1)) (IntKind.wrap .i64 (a4 + 1)) a5))))
    else
    none)))
    else
    none)))
    else
    none))))
    else
    none))))
    else
    none))))
    else
    none))))
    else
    none))))
    else
    none))))
    else
    none))))
    else
    none)
    else
    (e2_1 a3))
noncomputable def L.heldItemS (a1 : Int) (a2 : List (Int × Int × Int × Int × Int × Int × Int × Int × List Int × Bool)) : Option Int :=
(L.heldItemS_l0 fu (fun y30 y31 =>
(some y31)) (fun y32 =>
(some y32)) a1 0 a2)
noncomputable def H22_2 : LoopH := ⟨⟨((.one (.sl 0)) :: hh :: (hu 3 (hh :: (hu 107 [])))), [], [(146, (.pair (.int .i64) (.pair (.int .i64) (.pair (.int .i64) (.pair (.int .i64) (.pair (.int .i64) (.pair (.int .i64) (.pair (.int .i64) (.pair (.int .i64) (.pair (.sl 3 (.int .i64)) .bool))))))))), .ro)]⟩, [2, 3, 4, 6, 7, 8, 9, 10, 11, 12, 13, 14, 15, 16, 17, 18, 19, 20, 21, 22, 23, 24, 25, 26, 27, 28, 29, 30, 31, 32, 33, 34, 35, 36, 37, 38, 39, 40, 41, 42, 43, 44, 45, 46, 47, 48, 49, 50, 51, 52, 53, 54, 55, 56, 57, 58, 59, 60, 61, 62, 63, 64, 65, 66, 67, 68, 69, 70, 71, 72, 73, 74, 75, 76, 77, 78, 79, 80, 81, 82, 83, 84, 85, 86, 87, 88, 89, 90, 91, 92, 93, 94, 95, 96, 97, 98, 99, 100, 101, 102, 103, 104, 105, 106, 107, 108, 109, 110, 111, 112], [], [0, 2, 3, 5, 6, 7, 8, 9, 10, 11, 12, 13, 14, 15, 16, 17, 18, 19, 20, 21, 22, 23, 24, 25, 26, 27, 28, 29, 30, 31, 32, 33, 34, 35, 36, 37, 38, 39, 40, 41, 42, 43, 44, 45, 46, 47, 48, 49, 50, 51, 52, 53, 54, 55, 56, 57, 58, 59, 60, 61, 62, 63, 64, 65, 66, 67, 68, 69, 70, 71, 72, 73, 74, 75, 76, 77, 78, 79, 80, 81, 82, 83, 84, 85, 86, 87, 88, 89, 90, 91, 92, 93, 94, 95, 96, 97, 98, 99, 100, 101, 102, 103, 104, 105, 106, 107, 108, 109, 110, 111, 112], []⟩
noncomputable def E22_2 (m : Nat) (ps : List Prm) (k : Kont Int) : Option Int :=
  match ps with
  | [.v (.int .i64 a3), .v (.int .i64 a4), .row (.pair (.int .i64) (.pair (.int .i64) (.pair (.int .i64) (.pair (.int .i64) (.pair (.int .i64) (.pair (.int .i64) (.pair (.int .i64) (.pair (.int .i64) (.pair (.sl 3 (.int .i64)) .bool))))))))) a5] => L.heldItemS_l0 m (fun z36 z37 => k .ret (⟨((.s1 (.one (.unk))) :: (vi z36) :: (vu 2 ((vi z37) :: (vu 108 [])))), [], []⟩ : St)) (fun z38 => k (.exit 0) (⟨((.s1 (.one (.unk))) :: (vi z38) :: (vu 111 [])), [], []⟩ : St)) a3 a4 a5
  | _ => none
noncomputable def S22_2 (a3 a4 : Int) (a5 : List (Int × Int × Int × Int × Int × Int × Int × Int × List Int × Bool)) : St := (⟨((vl 0) :: (vi a3) :: (vu 3 ((vi a4) :: (vu 107 [])))), [], [⟨146, (.pair (.int .i64) (.pair (.int .i64) (.pair (.int .i64) (.pair (.int .i64) (.pair (.int .i64) (.pair (.int .i64) (.pair (.int .i64) (.pair (.int .i64) (.pair (.sl 3 (.int .i64)) .bool))))))))), a5, .ro⟩]⟩ : St)
theorem ev22_2 (m : Nat) (k : Kont Int) (a3 a4 : Int) (a5 : List (Int × Int × Int × Int × Int × Int × Int × Int × List Int × Bool)) : evC Try.prog G22 loopNil c22_2 (S22_2 a3 a4 a5) (turn Try.prog (0, 0) H22_2 (E22_2 m) k) = E22_2 (m + 1) [.v (.int .i64 a3), .v (.int .i64 a4), .row (.pair (.int .i64) (.pair (.int .i64) (.pair (.int .i64) (.pair (.int .i64) (.pair (.int .i64) (.pair (.int .i64) (.pair (.int .i64) (.pair (.int .i64) (.pair (.sl 3 (.int .i64)) .bool))))))))) a5] k := by kernel_rfl
theorem ok22_2 (m : Nat) : LoopOk Try.prog (0, 0) c22_2 (enter Try.prog (0, 0) H22_2 (E22_2 m)) := by
  refine loop_ok (G := G22) (L := loopNil) (envCons_good good97 envNil_good) (by intro x hx; simp [show loopsOf c22_2 = [] from by kernel_rfl] at hx) (fun ps k => by unfold E22_2; split <;> rfl) (fun m ps k r h => ?_) m
  have h0 := h
  unfold E22_2 at h
  split at h
  · exact ⟨S22_2 _ _ _, by kernel_rfl, (ev22_2 m k _ _ _).trans h0⟩
  · cases h
noncomputable def L22 : LEnv Int := (loopCons 2 (enter Try.prog (0, 0) H22_2 (E22_2 fu)) loopNil)
theorem lq22 : loopsOf c22 = [c22_2] := by kernel_rfl
theorem fr22_2 : firstReg c22_2 = some 2 := by kernel_rfl
theorem le22_2 : L22 2 = enter Try.prog (0, 0) H22_2 (E22_2 fu) := by kernel_rfl
theorem lm22 : ∀ x ∈ [c22_2], ∀ id, firstReg x = some id → LoopOk Try.prog (0, 0) x (L22 id) := (loops_cons fr22_2 le22_2 (ok22_2 fu) loops_nil)
theorem lp22 : ∀ x ∈ loopsOf c22, ∀ id, firstReg x = some id → LoopOk Try.prog (0, 0) x (L22 id) := loops_eq lq22 lm22
noncomputable def R22 (x : Int) : Res := ⟨[.one (ai x)], [], []⟩
noncomputable def K22 (r : Res) : Option Int :=
  match r with
  | ⟨[.one (.val (.int .i64 v1))], [], []⟩ => some (v1)
  | _ => none
noncomputable def E22 : Fun2 := fun args bs rs =>
  match args, bs, rs with
  | [.s1 (.one (.sl 0)), .s1 (.one (.val (.int .i64 a1)))], [], [⟨146, (.pair (.int .i64) (.pair (.int .i64) (.pair (.int .i64) (.pair (.int .i64) (.pair (.int .i64) (.pair (.int .i64) (.pair (.int .i64) (.pair (.int .i64) (.pair (.sl 3 (.int .i64)) .bool))))))))), a2, .ro⟩] => some ⟨Int, L.heldItemS a1 a2, R22⟩
  | _, _, _ => none
theorem ev22 (a1 : Int) (a2 : List (Int × Int × Int × Int × Int × Int × Int × Int × List Int × Bool)) : evF Try.prog G22 L22 (0, 0) [] Try.f22 c22 [vl 0, vi a1] [] [⟨146, (.pair (.int .i64) (.pair (.int .i64) (.pair (.int .i64) (.pair (.int .i64) (.pair (.int .i64) (.pair (.int .i64) (.pair (.int .i64) (.pair (.int .i64) (.pair (.sl 3 (.int .i64)) .bool))))))))), a2, .ro⟩] K22 = L.heldItemS a1 a2 := by kernel_rfl
theorem good22 : Vm.Good Try.prog 22 E22 := by
  refine evF_good (G := G22) (c := c22) (envCons_good good97 envNil_good) Try.func22 (by kernel_rfl) (by kernel_rfl) (0, 0) (fun args bs rs out t h h2 => ?_)
  unfold E22 at h
  split at h
  · injection h with h
    subst h
    exact ⟨rfl, [], L22, K22, lp22, (fun r t h => by unfold K22 at h; split at h; (injection h with h; subst h; rfl); cases h), (ev22 _ _).trans h2⟩
  · cases h
/-! ### L.heldRecS -/
noncomputable def G28 : Env := envNil
noncomputable def c28 : Code := bodyOf Try.f28
noncomputable def c28_2 : Code := (loopsOf c28).getD 0 .skip
noncomputable def L.heldRecS_l0 : Nat → (Int → Int → Option Int) → (Int → Option Int) → Int → Int → (List (Int × Int × Int)) → Option Int
  | 0, _, _, _, _, _ => none
  | m + 1, e2_0, e2_1, a3, a4, a5 =>
    (bif (decide (a4 < (a5.length : Int))) then
    (bif decide ((0 : Int) ≤ a4 ∧ a4 < (a5.length : Int)) then
    (bif ((nthI a5 a4 ((0 : Int), ((0 : Int), (0 : Int)))).1 != a3) then
    (e2_0 a3 (-1))
    else
    (let v9 : Int := (IntKind.wrap .i64 (a3 + 1))
    (bif decide ((0 : Int) ≤ a4 ∧ a4 < (a5.length : Int)) then
    (bif ((nthI a5 a4 ((0 : Int), ((0 : Int), (0 : Int)))).2.1 != v9) then
    (e2_0 v9 (-1))
    else
    (let v11 : Int := (IntKind.wrap .i64 (v9 + 1))
    (bif decide ((0 : Int) ≤ a4 ∧ a4 < (a5.length : Int)) then
    (let v12 : Bool := ((nthI a5 a4 ((0 : Int), ((0 : Int), (0 : Int)))).2.2 != v11)
    (bif v12 then
    (e2_0 v11 (-1))
    else
    (L.heldRecS_l0 m e2_0 e2_1 (IntKind.wrap .i64 (v11 + 1)) (IntKind.wrap .i64 (a4 + 1)) a5)))
    else
    none)))
    else
    none)))
    else
    none)
    else
    (e2_1 a3))
noncomputable def L.heldRecS (a1 : Int) (a2 : List (Int × Int × Int)) : Option Int :=
(L.heldRecS_l0 fu (fun y15 y16 =>
(some y16)) (fun y17 =>
(some y17)) a1 0 a2)
noncomputable def H28_2 : LoopH := ⟨⟨((.one (.sl 0)) :: hh :: (hu 3 (hh :: (hu 34 [])))), [], [(158, (.pair (.int .i64) (.pair (.int .i64) (.int .i64))), .ro)]⟩, [2, 3, 4, 6, 7, 8, 9, 10, 11, 12, 13, 14, 15, 16, 17, 18, 19, 20, 21, 22, 23, 24, 25, 26, 27, 28, 29, 30, 31, 32, 33, 34, 35, 36, 37, 38, 39], [], [0, 2, 3, 5, 6, 7, 8, 9, 10, 11, 12, 13, 14, 15, 16, 17, 18, 19, 20, 21, 22, 23, 24, 25, 26, 27, 28, 29, 30, 31, 32, 33, 34, 35, 36, 37, 38, 39], []⟩
noncomputable def E28_2 (m : Nat) (ps : List Prm) (k : Kont Int) : Option Int :=
  match ps with
  | [.v (.int .i64 a3), .v (.int .i64 a4), .row (.pair (.int .i64) (.pair (.int .i64) (.int .i64))) a5] => L.heldRecS_l0 m (fun z21 z22 => k .ret (⟨((.s1 (.one (.unk))) :: (vi z21) :: (vu 2 ((vi z22) :: (vu 35 [])))), [], []⟩ : St)) (fun z23 => k (.exit 0) (⟨((.s1 (.one (.unk))) :: (vi z23) :: (vu 38 [])), [], []⟩ : St)) a3 a4 a5
  | _ => none
noncomputable def S28_2 (a3 a4 : Int) (a5 : List (Int × Int × Int)) : St := (⟨((vl 0) :: (vi a3) :: (vu 3 ((vi a4) :: (vu 34 [])))), [], [⟨158, (.pair (.int .i64) (.pair (.int .i64) (.int .i64))), a5, .ro⟩]⟩ : St)
theorem ev28_2 (m : Nat) (k : Kont Int) (a3 a4 : Int) (a5 : List (Int × Int × Int)) : evC Try.prog G28 loopNil c28_2 (S28_2 a3 a4 a5) (turn Try.prog (0, 0) H28_2 (E28_2 m) k) = E28_2 (m + 1) [.v (.int .i64 a3), .v (.int .i64 a4), .row (.pair (.int .i64) (.pair (.int .i64) (.int .i64))) a5] k := by kernel_rfl
theorem ok28_2 (m : Nat) : LoopOk Try.prog (0, 0) c28_2 (enter Try.prog (0, 0) H28_2 (E28_2 m)) := by
  refine loop_ok (G := G28) (L := loopNil) envNil_good (by intro x hx; simp [show loopsOf c28_2 = [] from by kernel_rfl] at hx) (fun ps k => by unfold E28_2; split <;> rfl) (fun m ps k r h => ?_) m
  have h0 := h
  unfold E28_2 at h
  split at h
  · exact ⟨S28_2 _ _ _, by kernel_rfl, (ev28_2 m k _ _ _).trans h0⟩
  · cases h
noncomputable def L28 : LEnv Int := (loopCons 2 (enter Try.prog (0, 0) H28_2 (E28_2 fu)) loopNil)
theorem lq28 : loopsOf c28 = [c28_2] := by kernel_rfl
theorem fr28_2 : firstReg c28_2 = some 2 := by kernel_rfl
theorem le28_2 : L28 2 = enter Try.prog (0, 0) H28_2 (E28_2 fu) := by kernel_rfl
theorem lm28 : ∀ x ∈ [c28_2], ∀ id, firstReg x = some id → LoopOk Try.prog (0, 0) x (L28 id) := (loops_cons fr28_2 le28_2 (ok28_2 fu) loops_nil)
theorem lp28 : ∀ x ∈ loopsOf c28, ∀ id, firstReg x = some id → LoopOk Try.prog (0, 0) x (L28 id) := loops_eq lq28 lm28
noncomputable def R28 (x : Int) : Res := ⟨[.one (ai x)], [], []⟩
noncomputable def K28 (r : Res) : Option Int :=
  match r with
  | ⟨[.one (.val (.int .i64 v1))], [], []⟩ => some (v1)
  | _ => none
noncomputable def E28 : Fun2 := fun args bs rs =>
  match args, bs, rs with
  | [.s1 (.one (.sl 0)), .s1 (.one (.val (.int .i64 a1)))], [], [⟨158, (.pair (.int .i64) (.pair (.int .i64) (.int .i64))), a2, .ro⟩] => some ⟨Int, L.heldRecS a1 a2, R28⟩
  | _, _, _ => none
theorem ev28 (a1 : Int) (a2 : List (Int × Int × Int)) : evF Try.prog G28 L28 (0, 0) [] Try.f28 c28 [vl 0, vi a1] [] [⟨158, (.pair (.int .i64) (.pair (.int .i64) (.int .i64))), a2, .ro⟩] K28 = L.heldRecS a1 a2 := by kernel_rfl
theorem good28 : Vm.Good Try.prog 28 E28 := by
  refine evF_good (G := G28) (c := c28) envNil_good Try.func28 (by kernel_rfl) (by kernel_rfl) (0, 0) (fun args bs rs out t h h2 => ?_)
  unfold E28 at h
  split at h
  · injection h with h
    subst h
    exact ⟨rfl, [], L28, K28, lp28, (fun r t h => by unfold K28 at h; split at h; (injection h with h; subst h; rfl); cases h), (ev28 _ _).trans h2⟩
  · cases h
/-! ### L.heldBox -/
noncomputable def G27 : Env := (envCons 22 [] E22 (envCons 28 [] E28 envNil))
noncomputable def c27 : Code := bodyOf Try.f27
noncomputable def L.heldBox (a1 a2 a3 a4 a5 : Int) (a6 : List (Int × Int × Int × Int × Int × Int × Int × Int × List Int × Bool)) (a7 : List (Int × Int × Int)) : Option Int :=
(Option.bind (L.heldItemS a5 a6) fun r8 =>
(bif (decide (r8 < 0)) then
(some (-1))
else
(Option.bind (L.heldRecS r8 a7) fun r10 =>
(bif (decide (r10 < 0)) then
(some (-1))
else
(some r10)))))
noncomputable def R27 (x : Int) : Res := ⟨[.one (ai x)], [], []⟩
noncomputable def K27 (r : Res) : Option Int :=
  match r with
  | ⟨[.one (.val (.int .i64 v1))], [], []⟩ => some (v1)
  | _ => none
noncomputable def E27 : Fun2 := fun args bs rs =>
  match args, bs, rs with
  | [.s1 (.agg [.val (.int .i64 a1), .val (.int .i64 a2), .val (.int .i64 a3), .val (.int .i64 a4), .sl 0, .sl 1]), .s1 (.one (.val (.int .i64 a5)))], [], [⟨146, (.pair (.int .i64) (.pair (.int .i64) (.pair (.int .i64) (.pair (.int .i64) (.pair (.int .i64) (.pair (.int .i64) (.pair (.int .i64) (.pair (.int .i64) (.pair (.sl 3 (.int .i64)) .bool))))))))), a6, .ro⟩, ⟨158, (.pair (.int .i64) (.pair (.int .i64) (.int .i64))), a7, .ro⟩] => some ⟨Int, L.heldBox a1 a2 a3 a4 a5 a6 a7, R27⟩
  | _, _, _ => none
theorem ev27 (a1 a2 a3 a4 a5 : Int) (a6 : List (Int × Int × Int × Int × Int × Int × Int × Int × List Int × Bool)) (a7 : List (Int × Int × Int)) : evF Try.prog G27 loopNil (0, 0) [] Try.f27 c27 [.s1 (.agg [ai a1, ai a2, ai a3, ai a4, .sl 0, .sl 1]), vi a5] [] [⟨146, (.pair (.int .i64) (.pair (.int .i64) (.pair (.int .i64) (.pair (.int .i64) (.pair (.int .i64) (.pair (.int .i64) (.pair (.int .i64) (.pair (.int .i64) (.pair (.sl 3 (.int .i64)) .bool))))))))), a6, .ro⟩, ⟨158, (.pair (.int .i64) (.pair (.int .i64) (.int .i64))), a7, .ro⟩] K27 = L.heldBox a1 a2 a3 a4 a5 a6 a7 := by kernel_rfl
theorem good27 : Vm.Good Try.prog 27 E27 := by
  refine evF_good (G := G27) (c := c27) (envCons_good good22 (envCons_good good28 envNil_good)) Try.func27 (by kernel_rfl) (by kernel_rfl) (0, 0) (fun args bs rs out t h h2 => ?_)
  unfold E27 at h
  split at h
  · injection h with h
    subst h
    exact ⟨rfl, [], loopNil, K27, (by intro x hx; simp [show loopsOf c27 = [] from by kernel_rfl] at hx), (fun r t h => by unfold K27 at h; split at h; (injection h with h; subst h; rfl); cases h), (ev27 _ _ _ _ _ _ _).trans h2⟩
  · cases h
/-! ### L.FnExactBoxPut -/
noncomputable def G6 : Env := (envCons 14 [] E14 (envCons 42 [] E42 (envCons 16 [] E16 (envCons 44 [] E44 (envCons 43 [] E43 (envCons 45 [] E45 (envCons 19 [] E19 (envCons 46 [] E46 (envCons 20 [4, 5] E20 (envCons 47 [6] E47 (envCons 27 [] E27 envNil)))))))))))
noncomputable def c6 : Code := bodyOf Try.f6
noncomputable def L.FnExactBoxPut (a1 a2 a3 a4 a5 a6 a7 a8 a9 a10 : Int) (a11 : Bool) (a12 : Int) (a13 : List (Int × Int × Int × Int × Int × Int × Int × Int × List Int × Bool)) (a14 : List (Int × Int × Int)) (a15 : List Int) : Option Bool :=
(Option.bind (L.szBox a1 a2 a3 a4 1048576 a13 a14) fun r16 =>
(bif (decide (r16 < 0)) then
(some true)
else
(Option.bind (L.szPane a5 a6 a7 a8 a9 a10 a11 r16 a15) fun r18 =>
(bif (decide (r18 < 0)) then
(some true)
else
(same (Option.bind (L.toBox a1 a2 a3 a4 a13 a14) fun r20 =>
(same (Option.bind (L.toPane a5 a6 a7 a8 a9 a10 a11 a15) fun r21 =>
(dup (Option.bind (S.BoxPut r20.1 r20.2.1 r20.2.2.1 r20.2.2.2.1 r21.1 r21.2.1 r21.2.2.1 r21.2.2.2.1 r21.2.2.2.2.1 r21.2.2.2.2.2.1 r21.2.2.2.2.2.2.1 a12 r20.2.2.2.2.1 r20.2.2.2.2.2 r21.2.2.2.2.2.2.2) fun r22 =>
(Option.bind (L.toBox a1 a2 a3 a4 a13 a14) fun r23 =>
(Option.bind (L.toPane a5 a6 a7 a8 a9 a10 a11 a15) fun r24 =>
(Option.bind (I.BoxPut r23.1 r23.2.1 r23.2.2.1 r23.2.2.2.1 r24.1 r24.2.1 r24.2.2.1 r24.2.2.2.1 r24.2.2.2.2.1 r24.2.2.2.2.2.1 r24.2.2.2.2.2.2.1 a12 r23.2.2.2.2.1 r23.2.2.2.2.2 r24.2.2.2.2.2.2.2) fun r25 =>
(Option.bind (L.eqBox r25.1 r25.2.1 r25.2.2.1 r25.2.2.2.1 r22.1 r22.2.1 r22.2.2.1 r22.2.2.2.1 r25.2.2.2.2.2.1 r25.2.2.2.2.2.2 r22.2.2.2.2.2.1 r22.2.2.2.2.2.2) fun r26 =>
(bif (!r26) then
(some false)
else
(bif (!(r25.2.2.2.2.1 == r22.2.2.2.2.1)) then
(some false)
else
(Option.bind (L.toBox a1 a2 a3 a4 a13 a14) fun r28 =>
(Option.bind (L.eqBox r23.1 r23.2.1 r23.2.2.1 r23.2.2.2.1 r28.1 r28.2.1 r28.2.2.1 r28.2.2.2.1 r23.2.2.2.2.1 r23.2.2.2.2.2 r28.2.2.2.2.1 r28.2.2.2.2.2) fun r29 =>
(bif (!r29) then
(some false)
else
(Option.bind (L.toPane a5 a6 a7 a8 a9 a10 a11 a15) fun r30 =>
(Option.bind (L.eqPane r24.1 r24.2.1 r24.2.2.1 r24.2.2.2.1 r24.2.2.2.2.1 r24.2.2.2.2.2.1 r24.2.2.2.2.2.2.1 r30.1 r30.2.1 r30.2.2.1 r30.2.2.2.1 r30.2.2.2.2.1 r30.2.2.2.2.2.1 r30.2.2.2.2.2.2.1 r24.2.2.2.2.2.2.2 r30.2.2.2.2.2.2.2) fun r31 =>
(bif (!r31) then
(some false)
else
(Option.bind (L.markBox r23.1 r23.2.1 r23.2.2.1 r23.2.2.2.1 1 r23.2.2.2.2.1 r23.2.2.2.2.2) fun r32 =>
(Option.bind (L.markPane r24.1 r24.2.1 r24.2.2.1 r24.2.2.2.1 r24.2.2.2.2.1 r24.2.2.2.2.2.1 r24.2.2.2.2.2.2.1 r32.1 r24.2.2.2.2.2.2.2) fun r33 =>
(bif (decide (r33.1 < 0)) then
(some false)
else
(Option.bind (L.eqBox r25.1 r25.2.1 r25.2.2.1 r25.2.2.2.1 r22.1 r22.2.1 r22.2.2.1 r22.2.2.2.1 r25.2.2.2.2.2.1 r25.2.2.2.2.2.2 r22.2.2.2.2.2.1 r22.2.2.2.2.2.2) fun r35 =>
(bif (!r35) then
(some false)
else
(bif (!(r25.2.2.2.2.1 == r22.2.2.2.2.1)) then
(some false)
else
(Option.bind (L.markBox r25.1 r25.2.1 r25.2.2.1 r25.2.2.2.1 1 r25.2.2.2.2.2.1 r25.2.2.2.2.2.2) fun r37 =>
(Option.bind (L.heldBox r25.1 r25.2.1 r25.2.2.1 r25.2.2.2.1 1 r37.2.1 r37.2.2) fun r38 =>
(bif (decide (r38 < 0)) then
(some false)
else
(bif (r38 != r37.1) then
(some false)
else
(same (Option.bind (L.toBox a1 a2 a3 a4 a13 a14) fun r40 =>
(same (Option.bind (L.toPane a5 a6 a7 a8 a9 a10 a11 a15) fun r41 =>
(dup (Option.bind (I.BoxPut r40.1 r40.2.1 r40.2.2.1 r40.2.2.2.1 r41.1 r41.2.1 r41.2.2.1 r41.2.2.2.1 r41.2.2.2.2.1 r41.2.2.2.2.2.1 r41.2.2.2.2.2.2.1 a12 r40.2.2.2.2.1 r40.2.2.2.2.2 r41.2.2.2.2.2.2.2) fun r42 =>
(Option.bind (L.eqBox r42.1 r42.2.1 r42.2.2.1 r42.2.2.2.1 r22.1 r22.2.1 r22.2.2.1 r22.2.2.2.1 r42.2.2.2.2.2.1 r42.2.2.2.2.2.2 r22.2.2.2.2.2.1 r22.2.2.2.2.2.2) fun r43 =>
(bif (!r43) then
(some false)
else
(bif (!(r42.2.2.2.2.1 == r22.2.2.2.2.1)) then
(some false)
else
(Option.bind (L.heldBox r25.1 r25.2.1 r25.2.2.1 r25.2.2.2.1 1 r37.2.1 r37.2.2) fun r45 =>
(bif (decide (r45 < 0)) then
(some false)
else
(bif (r45 != r37.1) then
(some false)
else
(some true))))))))))
(Option.bind (L.toPane a5 a6 a7 a8 a9 a10 a11 a15) fun r41 =>
(Option.bind (I.BoxPut r40.1 r40.2.1 r40.2.2.1 r40.2.2.2.1 r41.1 r41.2.1 r41.2.2.1 r41.2.2.2.1 r41.2.2.2.2.1 r41.2.2.2.2.2.1 r41.2.2.2.2.2.2.1 a12 r40.2.2.2.2.1 r40.2.2.2.2.2 r41.2.2.2.2.2.2.2) fun r42 =>
(Option.bind (L.eqBox r42.1 r42.2.1 r42.2.2.1 r42.2.2.2.1 r22.1 r22.2.1 r22.2.2.1 r22.2.2.2.1 r42.2.2.2.2.2.1 r42.2.2.2.2.2.2 r22.2.2.2.2.2.1 r22.2.2.2.2.2.2) fun r43 =>
(bif (!r43) then
(some false)
else
(bif (!(r42.2.2.2.2.1 == r22.2.2.2.2.1)) then
(some false)
else
(Option.bind (L.heldBox r25.1 r25.2.1 r25.2.2.1 r25.2.2.2.1 1 r37.2.1 r37.2.2) fun r45 =>
(bif (decide (r45 < 0)) then
(some false)
else
(bif (r45 != r37.1) then
(some false)
else
(some true)))))))))))
(Option.bind (L.toBox a1 a2 a3 a4 a13 a14) fun r40 =>
(Option.bind (L.toPane a5 a6 a7 a8 a9 a10 a11 a15) fun r41 =>
(Option.bind (I.BoxPut r40.1 r40.2.1 r40.2.2.1 r40.2.2.2.1 r41.1 r41.2.1 r41.2.2.1 r41.2.2.2.1 r41.2.2.2.2.1 r41.2.2.2.2.2.1 r41.2.2.2.2.2.2.1 a12 r40.2.2.2.2.1 r40.2.2.2.2.2 r41.2.2.2.2.2.2.2) fun r42 =>
(Option.bind (L.eqBox r42.1 r42.2.1 r42.2.2.1 r42.2.2.2.1 r22.1 r22.2.1 r22.2.2.1 r22.2.2.2.1 r42.2.2.2.2.2.1 r42.2.2.2.2.2.2 r22.2.2.2.2.2.1 r22.2.2.2.2.2.2) fun r43 =>
(bif (!r43) then
(some false)
else
(bif (!(r42.2.2.2.2.1 == r22.2.2.2.2.1)) then
(some false)
else
(Option.bind (L.heldBox r25.1 r25.2.1 r25.2.2.1 r25.2.2.2.1 1 r37.2.1 r37.2.2) fun r45 =>
(bif (decide (r45 < 0)) then
(some false)
else
(bif (r45 != r37.1) then
(some false)
else
(some true))))))))))))))))))))))))))))))))))))
(Option.bind (L.toPane a5 a6 a7 a8 a9 a10 a11 a15) fun r21 =>
(Option.bind (S.BoxPut r20.1 r20.2.1 r20.2.2.1 r20.2.2.2.1 r21.1 r21.2.1 r21.2.2.1 r21.2.2.2.1 r21.2.2.2.2.1 r21.2.2.2.2.2.1 r21.2.2.2.2.2.2.1 a12 r20.2.2.2.2.1 r20.2.2.2.2.2 r21.2.2.2.2.2.2.2) fun r22 =>
(Option.bind (L.toBox a1 a2 a3 a4 a13 a14) fun r23 =>
(Option.bind (L.toPane a5 a6 a7 a8 a9 a10 a11 a15) fun r24 =>
(Option.bind (I.BoxPut r23.1 r23.2.1 r23.2.2.1 r23.2.2.2.1 r24.1 r24.2.1 r24.2.2.1 r24.2.2.2.1 r24.2.2.2.2.1 r24.2.2.2.2.2.1 r24.2.2.2.2.2.2.1 a12 r23.2.2.2.2.1 r23.2.2.2.2.2 r24.2.2.2.2.2.2.2) fun r25 =>
(Option.bind (L.eqBox r25.1 r25.2.1 r25.2.2.1 r25.2.2.2.1 r22.1 r22.2.1 r22.2.2.1 r22.2.2.2.1 r25.2.2.2.2.2.1 r25.2.2.2.2.2.2 r22.2.2.2.2.2.1 r22.2.2.2.2.2.2) fun r26 =>
(bif (!r26) then
(some false)
else
(bif (!(r25.2.2.2.2.1 == r22.2.2.2.2.1)) then
(some false)
else
(Option.bind (L.toBox a1 a2 a3 a4 a13 a14) fun r28 =>
(Option.bind (L.eqBox r23.1 r23.2.1 r23.2.2.1 r23.2.2.2.1 r28.1 r28.2.1 r28.2.2.1 r28.2.2.2.1 r23.2.2.2.2.1 r23.2.2.2.2.2 r28.2.2.2.2.1 r28.2.2.2.2.2) fun r29 =>
(bif (!r29) then
(some false)
else
(Option.bind (L.toPane a5 a6 a7 a8 a9 a10 a11 a15) fun r30 =>
(Option.bind (L.eqPane r24.1 r24.2.1 r24.2.2.1 r24.2.2.2.1 r24.2.2.2.2.1 r24.2.2.2.2.2.1 r24.2.2.2.2.2.2.1 r30.1 r30.2.1 r30.2.2.1 r30.2.2.2.1 r30.2.2.2.2.1 r30.2.2.2.2.2.1 r30.2.2.2.2.2.2.1 r24.2.2.2.2.2.2.2 r30.2.2.2.2.2.2.2) fun r31 =>
(bif (!r31) then
(some false)
else
(Option.bind (L.markBox r23.1 r23.2.1 r23.2.2.1 r23.2.2.2.1 1 r23.2.2.2.2.1 r23.2.2.2.2.2) fun r32 =>
(Option.bind (L.markPane r24.1 r24.2.1 r24.2.2.1 r24.2.2.2.1 r24.2.2.2.2.1 r24.2.2.2.2.2.1 r24.2.2.2.2.2.2.1 r32.1 r24.2.2.2.2.2.2.2) fun r33 =>
(bif (decide (r33.1 < 0)) then
(some false)
else
(Option.bind (L.eqBox r25.1 r25.2.1 r25.2.2.1 r25.2.2.2.1 r22.1 r22.2.1 r22.2.2.1 r22.2.2.2.1 r25.2.2.2.2.2.1 r25.2.2.2.2.2.2 r22.2.2.2.2.2.1 r22.2.2.2.2.2.2) fun r35 =>
(bif (!r35) then
(some false)
else
(bif (!(r25.2.2.2.2.1 == r22.2.2.2.2.1)) then
(some false)
else
(Option.bind (L.markBox r25.1 r25.2.1 r25.2.2.1 r25.2.2.2.1 1 r25.2.2.2.2.2.1 r25.2.2.2.2.2.2) fun r37 =>
(Option.bind (L.heldBox r25.1 r25.2.1 r25.2.2.1 r25.2.2.2.1 1 r37.2.1 r37.2.2) fun r38 =>
(bif (decide (r38 < 0)) then
(some false)
else
(bif (r38 != r37.1) then
(some false)
else
(same (Option.bind (L.toBox a1 a2 a3 a4 a13 a14) fun r40 =>
(same (Option.bind (L.toPane a5 a6 a7 a8 a9 a10 a11 a15) fun r41 =>
(dup (Option.bind (I.BoxPut r40.1 r40.2.1 r40.2.2.1 r40.2.2.2.1 r41.1 r41.2.1 r41.2.2.1 r41.2.2.2.1 r41.2.2.2.2.1 r41.2.2.2.2.2.1 r41.2.2.2.2.2.2.1 a12 r40.2.2.2.2.1 r40.2.2.2.2.2 r41.2.2.2.2.2.2.2) fun r42 =>
(Option.bind (L.eqBox r42.1 r42.2.1 r42.2.2.1 r42.2.2.2.1 r22.1 r22.2.1 r22.2.2.1 r22.2.2.2.1 r42.2.2.2.2.2.1 r42.2.2.2.2.2.2 r22.2.2.2.2.2.1 r22.2.2.2.2.2.2) fun r43 =>
(bif (!r43) then
(some false)
else
(bif (!(r42.2.2.2.2.1 == r22.2.2.2.2.1)) then
(some false)
else
(Option.bind (L.heldBox r25.1 r25.2.1 r25.2.2.1 r25.2.2.2.1 1 r37.2.1 r37.2.2) fun r45 =>
(bif (decide (r45 < 0)) then
(some false)
else
(bif (r45 != r37.1) then
(some false)
else
(some true))))))))))
(Option.bind (L.toPane a5 a6 a7 a8 a9 a10 a11 a15) fun r41 =>
(Option.bind (I.BoxPut r40.1 r40.2.1 r40.2.2.1 r40.2.2.2.1 r41.1 r41.2.1 r41.2.2.1 r41.2.2.2.1 r41.2.2.2.2.1 r41.2.2.2.2.2.1 r41.2.2.2.2.2.2.1 a12 r40.2.2.2.2.1 r40.2.2.2.2.2 r41.2.2.2.2.2.2.2) fun r42 =>
(Option.bind (L.eqBox r42.1 r42.2.1 r42.2.2.1 r42.2.2.2.1 r22.1 r22.2.1 r22.2.2.1 r22.2.2.2.1 r42.2.2.2.2.2.1 r42.2.2.2.2.2.2 r22.2.2.2.2.2.1 r22.2.2.2.2.2.2) fun r43 =>
(bif (!r43) then
(some false)
else
(bif (!(r42.2.2.2.2.1 == r22.2.2.2.2.1)) then
(some false)
else
(Option.bind (L.heldBox r25.1 r25.2.1 r25.2.2.1 r25.2.2.2.1 1 r37.2.1 r37.2.2) fun r45 =>
(bif (decide (r45 < 0)) then
(some false)
else
(bif (r45 != r37.1) then
(some false)
else
(some true)))))))))))
(Option.bind (L.toBox a1 a2 a3 a4 a13 a14) fun r40 =>
(Option.bind (L.toPane a5 a6 a7 a8 a9 a10 a11 a15) fun r41 =>
(Option.bind (I.BoxPut r40.1 r40.2.1 r40.2.2.1 r40.2.2.2.1 r41.1 r41.2.1 r41.2.2.1 r41.2.2.2.1 r41.2.2.2.2.1 r41.2.2.2.2.2.1 r41.2.2.2.2.2.2.1 a12 r40.2.2.2.2.1 r40.2.2.2.2.2 r41.2.2.2.2.2.2.2) fun r42 =>
(Option.bind (L.eqBox r42.1 r42.2.1 r42.2.2.1 r42.2.2.2.1 r22.1 r22.2.1 r22.2.2.1 r22.2.2.2.1 r42.2.2.2.2.2.1 r42.2.2.2.2.2.2 r22.2.2.2.2.2.1 r22.2.2.2.2.2.2) fun r43 =>
(bif (!r43) then
(some false)
else
(bif (!(r42.2.2.2.2.1 == r22.2.2.2.2.1)) then
(some false)
else
(Option.bind (L.heldBox r25.1 r25.2.1 r25.2.2.1 r25.2.2.2.1 1 r37.2.1 r37.2.2) fun r45 =>
(bif (decide (r45 < 0)) then
(some false)
else
(bif (r45 != r37.1) then
(some false)
else
(some true)))))))))))))))))))))))))))))))))))))
(Option.bind (L.toBox a1 a2 a3 a4 a13 a14) fun r20 =>
(Option.bind (L.toPane a5 a6 a7 a8 a9 a10 a11 a15) fun r21 =>
(Option.bind (S.BoxPut r20.1 r20.2.1 r20.2.2.1 r20.2.2.2.1 r21.1 r21.2.1 r21.2.2.1 r21.2.2.2.1 r21.2.2.2.2.1 r21.2.2.2.2.2.1 r21.2.2.2.2.2.2.1 a12 r20.2.2.2.2.1 r20.2.2.2.2.2 r21.2.2.2.2.2.2.2) fun r22 =>
(Option.bind (L.toBox a1 a2 a3 a4 a13 a14) fun r23 =>
(Option.bind (L.toPane a5 a6 a7 a8 a9 a10 a11 a15) fun r24 =>
(Option.bind (I.BoxPut r23.1 r23.2.1 r23.2.2.1 r23.2.2.2.1 r24.1 r24.2.1 r24.2.2.1 r24.2.2.2.1 r24.2.2.2.2.1 r24.2.2.2.2.2.1 r24.2.2.2.2.2.2.1 a12 r23.2.2.2.2.1 r23.2.2.2.2.2 r24.2.2.2.2.2.2.2) fun r25 =>
(Option.bind (L.eqBox r25.1 r25.2.1 r25.2.2.1 r25.2.2.2.1 r22.1 r22.2.1 r22.2.2.1 r22.2.2.2.1 r25.2.2.2.2.2.1 r25.2.2.2.2.2.2 r22.2.2.2.2.2.1 r22.2.2.2.2.2.2) fun r26 =>
(bif (!r26) then
(some false)
else
(bif (!(r25.2.2.2.2.1 == r22.2.2.2.2.1)) then
(some false)
else
(Option.bind (L.toBox a1 a2 a3 a4 a13 a14) fun r28 =>
(Option.bind (L.eqBox r23.1 r23.2.1 r23.2.2.1 r23.2.2.2.1 r28.1 r28.2.1 r28.2.2.1 r28.2.2.2.1 r23.2.2.2.2.1 r23.2.2.2.2.2 r28.2.2.2.2.1 r28.2.2.2.2.2) fun r29 =>
(bif (!r29) then
(some false)
else
(Option.bind (L.toPane a5 a6 a7 a8 a9 a10 a11 a15) fun r30 =>
(Option.bind (L.eqPane r24.1 r24.2.1 r24.2.2.1 r24.2.2.2.1 r24.2.2.2.2.1 r24.2.2.2.2.2.1 r24.2.2.2.2.2.2.1 r30.1 r30.2.1 r30.2.2.1 r30.2.2.2.1 r30.2.2.2.2.1 r30.2.2.2.2.2.1 r30.2.2.2.2.2.2.1 r24.2.2.2.2.2.2.2 r30.2.2.2.2.2.2.2) fun r31 =>
(bif (!r31) then
(some false)
else
(Option.bind (L.markBox r23.1 r23.2.1 r23.2.2.1 r23.2.2.2.1 1 r23.2.2.2.2.1 r23.2.2.2.2.2) fun r32 =>
(Option.bind (L.markPane r24.1 r24.2.1 r24.2.2.1 r24.2.2.2.1 r24.2.2.2.2.1 r24.2.2.2.2.2.1 r24.2.2.2.2.2.2.1 r32.1 r24.2.2.2.2.2.2.2) fun r33 =>
(bif (decide (r33.1 < 0)) then
(some false)
else
(Option.bind (L.eqBox r25.1 r25.2.1 r25.2.2.1 r25.2.2.2.1 r22.1 r22.2.1 r22.2.2.1 r22.2.2.2.1 r25.2.2.2.2.2.1 r25.2.2.2.2.2.2 r22.2.2.2.2.2.1 r22.2.2.2.2.2.2) fun r35 =>
(bif (!r35) then
(some false)
else
(bif (!(r25.2.2.2.2.1 == r22.2.2.2.2.1)) then
(some false)
else
(Option.bind (L.markBox r25.1 r25.2.1 r25.2.2.1 r25.2.2.2.1 1 r25.2.2.2.2.2.1 r25.2.2.2.2.2.2) fun r37 =>
(Option.bind (L.heldBox r25.1 r25.2.1 r25.2.2.1 r25.2.2.2.1 1 r37.2.1 r37.2.2) fun r38 =>
(bif (decide (r38 < 0)) then
(some false)
else
(bif (r38 != r37.1) then
(some false)
else
(same (Option.bind (L.toBox a1 a2 a3 a4 a13 a14) fun r40 =>
(same (Option.bind (L.toPane a5 a6 a7 a8 a9 a10 a11 a15) fun r41 =>
(dup (Option.bind (I.BoxPut r40.1 r40.2.1 r40.2.2.1 r40.2.2.2.1 r41.1 r41.2.1 r41.2.2.1 r41.2.2.2.1 r41.2.2.2.2.1 r41.2.2.2.2.2.1 r41.2.2.2.2.2.2.1 a12 r40.2.2.2.2.1 r40.2.2.2.2.2 r41.2.2.2.2.2.2.2) fun r42 =>
(Option.bind (L.eqBox r42.1 r42.2.1 r42.2.2.1 r42.2.2.2.1 r22.1 r22.2.1 r22.2.2.1 r22.2.2.2.1 r42.2.2.2.2.2.1 r42.2.2.2.2.2.2 r22.2.2.2.2.2.1 r22.2.2.2.2.2.2) fun r43 =>
(bif (!r43) then
(some false)
else
(bif (!(r42.2.2.2.2.1 == r22.2.2.2.2.1)) then
(some false)
else
(Option.bind (L.heldBox r25.1 r25.2.1 r25.2.2.1 r25.2.2.2.1 1 r37.2.1 r37.2.2) fun r45 =>
(bif (decide (r45 < 0)) then
(some false)
else
(bif (r45 != r37.1) then
(some false)
else
(some true))))))))))
(Option.bind (L.toPane a5 a6 a7 a8 a9 a10 a11 a15) fun r41 =>
(Option.bind (I.BoxPut r40.1 r40.2.1 r40.2.2.1 r40.2.2.2.1 r41.1 r41.2.1 r41.2.2.1 r41.2.2.2.1 r41.2.2.2.2.1 r41.2.2.2.2.2.1 r41.2.2.2.2.2.2.1 a12 r40.2.2.2.2.1 r40.2.2.2.2.2 r41.2.2.2.2.2.2.2) fun r42 =>
(Option.bind (L.eqBox r42.1 r42.2.1 r42.2.2.1 r42.2.2.2.1 r22.1 r22.2.1 r22.2.2.1 r22.2.2.2.1 r42.2.2.2.2.2.1 r42.2.2.2.2.2.2 r22.2.2.2.2.2.1 r22.2.2.2.2.2.2) fun r43 =>
(bif (!r43) then
(some false)
else
(bif (!(r42.2.2.2.2.1 == r22.2.2.2.2.1)) then
(some false)
else
(Option.bind (L.heldBox r25.1 r25.2.1 r25.2.2.1 r25.2.2.2.1 1 r37.2.1 r37.2.2) fun r45 =>
(bif (decide (r45 < 0)) then
(some false)
else
(bif (r45 != r37.1) then
(some false)
else
(some true)))))))))))
(Option.bind (L.toBox a1 a2 a3 a4 a13 a14) fun r40 =>
(Option.bind (L.toPane a5 a6 a7 a8 a9 a10 a11 a15) fun r41 =>
(Option.bind (I.BoxPut r40.1 r40.2.1 r40.2.2.1 r40.2.2.2.1 r41.1 r41.2.1 r41.2.2.1 r41.2.2.2.1 r41.2.2.2.2.1 r41.2.2.2.2.2.1 r41.2.2.2.2.2.2.1 a12 r40.2.2.2.2.1 r40.2.2.2.2.2 r41.2.2.2.2.2.2.2) fun r42 =>
(Option.bind (L.eqBox r42.1 r42.2.1 r42.2.2.1 r42.2.2.2.1 r22.1 r22.2.1 r22.2.2.1 r22.2.2.2.1 r42.2.2.2.2.2.1 r42.2.2.2.2.2.2 r22.2.2.2.2.2.1 r22.2.2.2.2.2.2) fun r43 =>
(bif (!r43) then
(some false)
else
(bif (!(r42.2.2.2.2.1 == r22.2.2.2.2.1)) then
(some false)
else
(Option.bind (L.heldBox r25.1 r25.2.1 r25.2.2.1 r25.2.2.2.1 1 r37.2.1 r37.2.2) fun r45 =>
(bif (decide (r45 < 0)) then
(some false)
else
(bif (r45 != r37.1) then
(some false)
else
(some true)))))))))))))))))))))))))))))))))))))))))
noncomputable def R6 (x : Bool) : Res := ⟨[.one (ab x)], [], []⟩
noncomputable def K6 (r : Res) : Option Bool :=
  match r with
  | ⟨[.one (.val (.bool v1))], [], []⟩ => some (v1)
  | _ => none
noncomputable def E6 : Fun2 := fun args bs rs =>
  match args, bs, rs with
  | [.s1 (.agg [.val (.int .i64 a1), .val (.int .i64 a2), .val (.int .i64 a3), .val (.int .i64 a4), .sl 0, .sl 1]), .s1 (.agg [.val (.int .i64 a5), .val (.int .i64 a6), .val (.int .i64 a7), .val (.int .i64 a8), .val (.int .i64 a9), .val (.int .i64 a10), .sl 2, .val (.bool a11)]), .s1 (.one (.val (.int .i64 a12)))], [], [⟨230, (.pair (.int .i64) (.pair (.int .i64) (.pair (.int .i64) (.pair (.int .i64) (.pair (.int .i64) (.pair (.int .i64) (.pair (.int .i64) (.pair (.int .i64) (.pair (.sl 3 (.int .i64)) .bool))))))))), a13, .ro⟩, ⟨233, (.pair (.int .i64) (.pair (.int .i64) (.int .i64))), a14, .ro⟩, ⟨3, (.int .i64), a15, .ro⟩] => some ⟨Bool, L.FnExactBoxPut a1 a2 a3 a4 a5 a6 a7 a8 a9 a10 a11 a12 a13 a14 a15, R6⟩
  | _, _, _ => none
theorem ev6 (a1 a2 a3 a4 a5 a6 a7 a8 a9 a10 : Int) (a11 : Bool) (a12 : Int) (a13 : List (Int × Int × Int × Int × Int × Int × Int × Int × List Int × Bool)) (a14 : List (Int × Int × Int)) (a15 : List Int) : evF Try.prog G6 loopNil (0, 0) [] Try.f6 c6 [.s1 (.agg [ai a1, ai a2, ai a3, ai a4, .sl 0, .sl 1]), .s1 (.agg [ai a5, ai a6, ai a7, ai a8, ai a9, ai a10, .sl 2, ab a11]), vi a12] [] [⟨230, (.pair (.int .i64) (.pair (.int .i64) (.pair (.int .i64) (.pair (.int .i64) (.pair (.int .i64) (.pair (.int .i64) (.pair (.int .i64) (.pair (.int .i64) (.pair (.sl 3 (.int .i64)) .bool))))))))), a13, .ro⟩, ⟨233, (.pair (.int .i64) (.pair (.int .i64) (.int .i64))), a14, .ro⟩, ⟨3, (.int .i64), a15, .ro⟩] K6 = L.FnExactBoxPut a1 a2 a3 a4 a5 a6 a7 a8 a9 a10 a11 a12 a13 a14 a15 := by kernel_rfl
theorem good6 : Vm.Good Try.prog 6 E6 := by
  refine evF_good (G := G6) (c := c6) (envCons_good good14 (envCons_good good42 (envCons_good good16 (envCons_good good44 (envCons_good good43 (envCons_good good45 (envCons_good good19 (envCons_good good46 (envCons_good good20 (envCons_good good47 (envCons_good good27 envNil_good))))))))))) Try.func6 (by kernel_rfl) (by kernel_rfl) (0, 0) (fun args bs rs out t h h2 => ?_)
  unfold E6 at h
  split at h
  · injection h with h
    subst h
    exact ⟨rfl, [], loopNil, K6, (by intro x hx; simp [show loopsOf c6 = [] from by kernel_rfl] at hx), (fun r t h => by unfold K6 at h; split at h; (injection h with h; subst h; rfl); cases h), (ev6 _ _ _ _ _ _ _ _ _ _ _ _ _ _ _).trans h2⟩
  · cases h
end Go.Proofs.Ythddkomphkanbaa.Run
