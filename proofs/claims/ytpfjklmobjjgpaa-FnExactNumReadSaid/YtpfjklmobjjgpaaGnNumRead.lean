import Derived.Test.YtpfjklmobjjgpaaVmU
import Derived.Test.YtpfjklmobjjgpaaProg
namespace Go.Proofs.Ytpfjklmobjjgpaa.Run
open Go Go.RowKit Go.Proofs.YtpfjklmobjjgpaaW.PrintWords Go.Proofs.Ytpfjklmobjjgpaa.Vm
set_option linter.unusedVariables false
set_option maxRecDepth 100000

/-! ### L.toByteS -/
noncomputable def G15 : Env := envNil
noncomputable def c15 : Code := bodyOf Try.f15
noncomputable def c15_3 : Code := (loopsOf c15).getD 0 .skip
noncomputable def L.toByteS_l0 : Nat → (List Int → Option (List Int)) → Int → List Int → List Int → Option (List Int)
  | 0, _, _, _, _ => none
  | m + 1, e3_0, a4, a5, a6 =>
    (bif (decide (a4 < (a5.length : Int))) then
    (bif decide (0 ≤ a4 ∧ a4 < (a5.length : Int)) then
    (bif decide (0 ≤ a4 ∧ a4 < (a6.length : Int)) then
    (L.toByteS_l0 m e3_0 (IntKind.wrap .i64 (a4 + 1)) a5 (a6.set (Int.toNat a4) (nthI a5 a4 (0 : Int))))
    else
    none)
    else
    none)
    else
    (e3_0 a6))
noncomputable def L.toByteS (a1 : List Int) : Option (List Int) :=
(let v2 : Int := (a1.length : Int)
(bif decide (0 ≤ v2 ∧ v2 ≤ v2 ∧ (1 : Int) * v2 ≤ 281474976710656 ∧ v2 ≤ 9223372036854775807) then
(L.toByteS_l0 fu (fun y11 =>
(some y11)) 0 a1 (List.replicate (Int.toNat v2) (0 : Int)))
else
none))
noncomputable def H15_3 : LoopH := ⟨⟨((.one (.sl 0)) :: (hu 2 ((.one (.sl 1)) :: hh :: (hu 17 [])))), [], [(5, (.int .u8), .ro), (5, (.int .u8), .own)]⟩, [1, 2, 5, 6, 7, 8, 9, 10, 11, 12, 13, 14, 15, 16, 17, 18, 19, 20, 21], [], [0, 1, 4, 5, 6, 7, 8, 9, 10, 11, 12, 13, 14, 15, 16, 17, 18, 19, 20, 21]⟩
noncomputable def E15_3 (m : Nat) (ps : List Prm) (k : Kont (List Int)) : Option (List Int) :=
  match ps with
  | [.v (.int .i64 a4), .row (.int .u8) a5, .row (.int .u8) a6] => L.toByteS_l0 m (fun z13 => k (.exit 0) (⟨(vu 3 ((vl 0) :: (vu 18 []))), [], [⟨5, (.int .u8), z13, .own⟩]⟩ : St)) a4 a5 a6
  | _ => none
noncomputable def S15_3 (a4 : Int) (a5 a6 : List Int) : St := (⟨((vl 0) :: (vu 2 ((vl 1) :: (vi a4) :: (vu 17 [])))), [], [⟨5, (.int .u8), a5, .ro⟩, ⟨5, (.int .u8), a6, .own⟩]⟩ : St)
theorem ev15_3 (m : Nat) (k : Kont (List Int)) (a4 : Int) (a5 a6 : List Int) : evC Try.prog G15 loopNil c15_3 (S15_3 a4 a5 a6) (turn Try.prog (0, 0) H15_3 (E15_3 m) k) = E15_3 (m + 1) [.v (.int .i64 a4), .row (.int .u8) a5, .row (.int .u8) a6] k := by kernel_rfl
theorem ok15_3 (m : Nat) : LoopOk Try.prog (0, 0) c15_3 (enter Try.prog (0, 0) H15_3 (E15_3 m)) := by
  refine loop_ok (G := G15) (L := loopNil) envNil_good (by intro x hx; simp [show loopsOf c15_3 = [] from by kernel_rfl] at hx) (fun ps k => by unfold E15_3; split <;> rfl) (fun m ps k r h => ?_) m
  have h0 := h
  unfold E15_3 at h
  split at h
  · exact ⟨S15_3 _ _ _, by kernel_rfl, (ev15_3 m k _ _ _).trans h0⟩
  · cases h
noncomputable def L15 : LEnv (List Int) := (loopCons 3 (enter Try.prog (0, 0) H15_3 (E15_3 fu)) loopNil)
theorem lq15 : loopsOf c15 = [c15_3] := by kernel_rfl
theorem fr15_3 : firstReg c15_3 = some 3 := by kernel_rfl
theorem le15_3 : L15 3 = enter Try.prog (0, 0) H15_3 (E15_3 fu) := by kernel_rfl
theorem lm15 : ∀ x ∈ [c15_3], ∀ id, firstReg x = some id → LoopOk Try.prog (0, 0) x (L15 id) := (loops_cons fr15_3 le15_3 (ok15_3 fu) loops_nil)
theorem lp15 : ∀ x ∈ loopsOf c15, ∀ id, firstReg x = some id → LoopOk Try.prog (0, 0) x (L15 id) := loops_eq lq15 lm15
noncomputable def R15 (x : List Int) : Res := ⟨[.one (.sl 0)], [], [⟨5, (.int .u8), x, .own⟩]⟩
noncomputable def K15 (r : Res) : Option (List Int) :=
  match r with
  | ⟨[.one (.sl 0)], [], [⟨5, (.int .u8), v1, .own⟩]⟩ => some (v1)
  | _ => none
noncomputable def E15 : Fun2 := fun args bs rs =>
  match args, bs, rs with
  | [.s1 (.one (.sl 0))], [], [⟨5, (.int .u8), a1, .ro⟩] => some ⟨List Int, L.toByteS a1, R15⟩
  | _, _, _ => none
theorem ev15 (a1 : List Int) : evF Try.prog G15 L15 (0, 0) Try.f15 c15 [vl 0] [] [⟨5, (.int .u8), a1, .ro⟩] K15 = L.toByteS a1 := by kernel_rfl
theorem good15 : Vm.Good Try.prog 15 E15 := by
  refine evF_good (G := G15) (c := c15) envNil_good Try.func15 (by kernel_rfl) (by kernel_rfl) (0, 0) (fun args bs rs out t h h2 => ?_)
  unfold E15 at h
  split at h
  · injection h with h
    subst h
    exact ⟨rfl, L15, K15, lp15, (fun r t h => by unfold K15 at h; split at h; (injection h with h; subst h; rfl); cases h), (ev15 _).trans h2⟩
  · cases h
/-! ### S.NumBytes -/
noncomputable def G9 : Env := envNil
noncomputable def c9 : Code := bodyOf Try.f9
noncomputable def c9_5 : Code := (loopsOf c9).getD 0 .skip
noncomputable def S.NumBytes_l0 : Nat → (Int → List Int → Option (List Int)) → Int → List Int → Option (List Int)
  | 0, _, _, _ => none
  | m + 1, e5_0, a9, a10 =>
    (bif (decide (128 ≤ a9)) then
    (bif decide (128 = 0) then
    none
    else
    (let v14 : Int := (IntKind.wrap .u8 (IntKind.wrap .u64 (128 + (Int.tmod a9 128))))
    (bif decide ((a10.length + [v14].length) * 1 ≤ 140737488355328) then
    (bif decide (128 = 0) then
    none
    else
    (S.NumBytes_l0 m e5_0 (IntKind.wrap .u64 (Int.tdiv a9 128)) (a10 ++ [v14])))
    else
    none)))
    else
    (e5_0 a9 a10))
noncomputable def S.NumBytes (a1 : Int) : Option (List Int) :=
(bif (decide (a1 < 0)) then
(S.NumBytes_l0 fu (fun y16 y17 =>
(let v18 : Int := (IntKind.wrap .u8 y16)
(bif decide ((y17.length + [v18].length) * 1 ≤ 140737488355328) then
(some (y17 ++ [v18]))
else
none))) (IntKind.wrap .u64 ((IntKind.wrap .u64 (2 * (IntKind.wrap .u64 (IntKind.wrap .i64 ((-1) - a1))))) + 1)) [])
else
(S.NumBytes_l0 fu (fun y19 y20 =>
(let v21 : Int := (IntKind.wrap .u8 y19)
(bif decide ((y20.length + [v21].length) * 1 ≤ 140737488355328) then
(some (y20 ++ [v21]))
else
none))) (IntKind.wrap .u64 (2 * (IntKind.wrap .u64 a1))) []))
noncomputable def H9_5 : LoopH := ⟨⟨(hu 3 (hh :: (.one (.sl 0)) :: (hu 27 []))), [], [(5, (.int .u8), .own)]⟩, [0, 1, 2, 5, 6, 7, 8, 9, 10, 11, 12, 13, 14, 15, 16, 17, 18, 19, 20, 21, 22, 23, 24, 25, 26, 27, 28, 29, 30, 31], [], [0, 1, 5, 6, 7, 8, 9, 10, 11, 12, 13, 14, 15, 16, 17, 18, 19, 20, 21, 22, 23, 24, 25, 26, 27, 28, 29, 30, 31]⟩
noncomputable def E9_5 (m : Nat) (ps : List Prm) (k : Kont (List Int)) : Option (List Int) :=
  match ps with
  | [.v (.int .u64 a9), .row (.int .u8) a10] => S.NumBytes_l0 m (fun z24 z25 => k (.exit 0) (⟨(vu 3 ((vk .u64 z24) :: (vl 0) :: (vu 27 []))), [], [⟨5, (.int .u8), z25, .own⟩]⟩ : St)) a9 a10
  | _ => none
noncomputable def S9_5 (a9 : Int) (a10 : List Int) : St := (⟨(vu 3 ((vk .u64 a9) :: (vl 0) :: (vu 27 []))), [], [⟨5, (.int .u8), a10, .own⟩]⟩ : St)
theorem ev9_5 (m : Nat) (k : Kont (List Int)) (a9 : Int) (a10 : List Int) : evC Try.prog G9 loopNil c9_5 (S9_5 a9 a10) (turn Try.prog (0, 0) H9_5 (E9_5 m) k) = E9_5 (m + 1) [.v (.int .u64 a9), .row (.int .u8) a10] k := by kernel_rfl
theorem ok9_5 (m : Nat) : LoopOk Try.prog (0, 0) c9_5 (enter Try.prog (0, 0) H9_5 (E9_5 m)) := by
  refine loop_ok (G := G9) (L := loopNil) envNil_good (by intro x hx; simp [show loopsOf c9_5 = [] from by kernel_rfl] at hx) (fun ps k => by unfold E9_5; split <;> rfl) (fun m ps k r h => ?_) m
  have h0 := h
  unfold E9_5 at h
  split at h
  · exact ⟨S9_5 _ _, by kernel_rfl, (ev9_5 m k _ _).trans h0⟩
  · cases h
noncomputable def L9 : LEnv (List Int) := (loopCons 5 (enter Try.prog (0, 0) H9_5 (E9_5 fu)) loopNil)
theorem lq9 : loopsOf c9 = [c9_5] := by kernel_rfl
theorem fr9_5 : firstReg c9_5 = some 5 := by kernel_rfl
theorem le9_5 : L9 5 = enter Try.prog (0, 0) H9_5 (E9_5 fu) := by kernel_rfl
theorem lm9 : ∀ x ∈ [c9_5], ∀ id, firstReg x = some id → LoopOk Try.prog (0, 0) x (L9 id) := (loops_cons fr9_5 le9_5 (ok9_5 fu) loops_nil)
theorem lp9 : ∀ x ∈ loopsOf c9, ∀ id, firstReg x = some id → LoopOk Try.prog (0, 0) x (L9 id) := loops_eq lq9 lm9
noncomputable def R9 (x : List Int) : Res := ⟨[.one (.sl 0)], [], [⟨5, (.int .u8), x, .own⟩]⟩
noncomputable def K9 (r : Res) : Option (List Int) :=
  match r with
  | ⟨[.one (.sl 0)], [], [⟨5, (.int .u8), v1, .own⟩]⟩ => some (v1)
  | _ => none
noncomputable def E9 : Fun2 := fun args bs rs =>
  match args, bs, rs with
  | [.s1 (.one (.val (.int .i64 a1)))], [], [] => some ⟨List Int, S.NumBytes a1, R9⟩
  | _, _, _ => none
theorem ev9 (a1 : Int) : evF Try.prog G9 L9 (0, 0) Try.f9 c9 [vi a1] [] [] K9 = S.NumBytes a1 := by kernel_rfl
theorem good9 : Vm.Good Try.prog 9 E9 := by
  refine evF_good (G := G9) (c := c9) envNil_good Try.func9 (by kernel_rfl) (by kernel_rfl) (0, 0) (fun args bs rs out t h h2 => ?_)
  unfold E9 at h
  split at h
  · injection h with h
    subst h
    exact ⟨rfl, L9, K9, lp9, (fun r t h => by unfold K9 at h; split at h; (injection h with h; subst h; rfl); cases h), (ev9 _).trans h2⟩
  · cases h
/-! ### S.NumRead -/
noncomputable def G22 : Env := (envCons 9 [] E9 envNil)
noncomputable def c22 : Code := bodyOf Try.f22
noncomputable def c22_6 : Code := (loopsOf c22).getD 0 .skip
noncomputable def S.NumRead_l0 : Nat → (Int → Int → Bool → Option (Int × Int × Bool)) → (Option (Int × Int × Bool)) → Int → Int → Int → Int → List Int → Option (Int × Int × Bool)
  | 0, _, _, _, _, _, _, _ => none
  | m + 1, e6_0, e6_1, a6, a7, a8, a9, a10 =>
    (bif (decide (a9 < (a10.length : Int))) then
    (bif (decide (a9 < (IntKind.wrap .i64 (a6 + 10)))) then
    (bif decide (0 ≤ a9 ∧ a9 < (a10.length : Int)) then
    (bif decide (128 = 0) then
    none
    else
    (let v18 : Int := (IntKind.wrap .u64 (a7 + (IntKind.wrap .u64 (a8 * (IntKind.wrap .u64 (Int.tmod (nthI a10 a9 (0 : Int)) 128))))))
    (bif decide (0 ≤ a9 ∧ a9 < (a10.length : Int)) then
    (bif (decide ((nthI a10 a9 (0 : Int)) < 128)) then
    (bif decide (2 = 0) then
    none
    else
    (let v22 : Int := (IntKind.wrap .i64 (IntKind.wrap .u64 (Int.tdiv v18 2)))
    (bif decide (2 = 0) then
    none
    else
    (bif ((Int.tmod v18 2) == 1) then
    (let v24 : Int := (IntKind.wrap .i64 ((-1) - v22))
    (let v25 : Int := (IntKind.wrap .i64 (a9 + 1))
    (bif decide (0 ≤ a6 ∧ a6 ≤ v25 ∧ v25 ≤ (a10.length : Int)) then
    (same (Option.bind (S.NumBytes v24) fun r26 =>
    (dup (let v27 : Bool := (!((strOfNums r26).toList == (strOfNums ((a10.take (Int.toNat v25)).drop (Int.toNat a6))).toList))
    (bif v27 then
    (e6_0 0 0 false)
    else
    (e6_0 v24 (IntKind.wrap .i64 (a9 + 1)) true)))))
    (Option.bind (S.NumBytes v24) fun r26 =>
    (let v27 : Bool := (!((strOfNums r26).toList == (strOfNums ((a10.take (Int.toNat v25)).drop (Int.toNat a6))).toList))
    (bif v27 then
    (e6_0 0 0 false)
    else
    (e6_0 v24 (IntKind.wrap .i64 (a9 + 1)) true)))))
    else
    none)))
    else
    (let v29 : Int := (IntKind.wrap .i64 (a9 + 1))
    (bif decide (0 ≤ a6 ∧ a6 ≤ v29 ∧ v29 ≤ (a10.length : Int)) then
    (same (Option.bind (S.NumBytes v22) fun r30 =>
    (dup (let v31 : Bool := (!((strOfNums r30).toList == (strOfNums ((a10.take (Int.toNat v29)).drop (Int.toNat a6))).toList))
    (bif v31 then
    (e6_0 0 0 false)
    else
    (e6_0 v22 (IntKind.wrap .i64 (a9 + 1)) true)))))
    (Option.bind (S.NumBytes v22) fun r30 =>
    (let v31 : Bool := (!((strOfNums r30).toList == (strOfNums ((a10.take (Int.toNat v29)).drop (Int.toNat a6))).toList))
    (bif v31 then
    (e6_0 0 0 false)
    else
    (e6_0 v22 (IntKind.wrap .i64 (a9 + 1)) true)))))
    else
    none))))))
    else
    (S.NumRead_l0 m e6_0 e6_1 a6 v18 (IntKind.wrap .u64 (a8 * 128)) (IntKind.wrap .i64 (a9 + 1)) a10))
    else
    none)))
    else
    none)
    else
    e6_1)
    else
    e6_1)
noncomputable def S.NumRead (a1 : Int) (a2 : List Int) : Option (Int × Int × Bool) :=
(bif (decide (a1 < 0)) then
(some (0, 0, false))
else
(bif (decide ((a2.length : Int) ≤ a1)) then
(some (0, 0, false))
else
(S.NumRead_l0 fu (fun y34 y35 y36 =>
(some (y34, y35, y36))) (some (0, 0, false)) a1 0 1 a1 a2)))
noncomputable def H22_6 : LoopH := ⟨⟨((.one (.sl 0)) :: hh :: (hu 5 (hh :: hh :: hh :: (hu 60 [])))), [], [(5, (.int .u8), .ro)]⟩, [2, 3, 4, 5, 6, 10, 11, 12, 13, 14, 15, 16, 17, 18, 19, 20, 21, 22, 23, 24, 25, 26, 27, 28, 29, 30, 31, 32, 33, 34, 35, 36, 37, 38, 39, 40, 41, 42, 43, 44, 45, 46, 47, 48, 49, 50, 51, 52, 53, 54, 55, 56, 57, 58, 59, 60, 61, 62, 63, 64, 65, 66, 67, 68, 69], [], [0, 1, 2, 3, 7, 8, 9, 10, 11, 12, 13, 14, 15, 16, 17, 18, 19, 20, 21, 22, 23, 24, 25, 26, 27, 28, 29, 30, 31, 32, 33, 34, 35, 36, 37, 38, 39, 40, 41, 42, 43, 44, 45, 46, 47, 48, 49, 50, 51, 52, 53, 54, 55, 56, 57, 58, 59, 60, 61, 62, 63, 64, 65, 66, 67, 68, 69]⟩
noncomputable def E22_6 (m : Nat) (ps : List Prm) (k : Kont (Int × Int × Bool)) : Option (Int × Int × Bool) :=
  match ps with
  | [.v (.int .i64 a6), .v (.int .u64 a7), .v (.int .u64 a8), .v (.int .i64 a9), .row (.int .u8) a10] => S.NumRead_l0 m (fun z40 z41 z42 => k .ret (⟨(vu 4 ((vi z40) :: (vi z41) :: (vb z42) :: (vu 63 []))), [], []⟩ : St)) (k (.exit 0) (⟨(vu 70 []), [], []⟩ : St)) a6 a7 a8 a9 a10
  | _ => none
noncomputable def S22_6 (a6 a7 a8 a9 : Int) (a10 : List Int) : St := (⟨((vl 0) :: (vi a6) :: (vu 5 ((vk .u64 a7) :: (vk .u64 a8) :: (vi a9) :: (vu 60 [])))), [], [⟨5, (.int .u8), a10, .ro⟩]⟩ : St)
theorem ev22_6 (m : Nat) (k : Kont (Int × Int × Bool)) (a6 a7 a8 a9 : Int) (a10 : List Int) : evC Try.prog G22 loopNil c22_6 (S22_6 a6 a7 a8 a9 a10) (turn Try.prog (0, 0) H22_6 (E22_6 m) k) = E22_6 (m + 1) [.v (.int .i64 a6), .v (.int .u64 a7), .v (.int .u64 a8), .v (.int .i64 a9), .row (.int .u8) a10] k := by kernel_rfl
theorem ok22_6 (m : Nat) : LoopOk Try.prog (0, 0) c22_6 (enter Try.prog (0, 0) H22_6 (E22_6 m)) := by
  refine loop_ok (G := G22) (L := loopNil) (envCons_good good9 envNil_good) (by intro x hx; simp [show loopsOf c22_6 = [] from by kernel_rfl] at hx) (fun ps k => by unfold E22_6; split <;> rfl) (fun m ps k r h => ?_) m
  have h0 := h
  unfold E22_6 at h
  split at h
  · exact ⟨S22_6 _ _ _ _ _, by kernel_rfl, (ev22_6 m k _ _ _ _ _).trans h0⟩
  · cases h
noncomputable def L22 : LEnv (Int × Int × Bool) := (loopCons 6 (enter Try.prog (0, 0) H22_6 (E22_6 fu)) loopNil)
theorem lq22 : loopsOf c22 = [c22_6] := by kernel_rfl
theorem fr22_6 : firstReg c22_6 = some 6 := by kernel_rfl
theorem le22_6 : L22 6 = enter Try.prog (0, 0) H22_6 (E22_6 fu) := by kernel_rfl
theorem lm22 : ∀ x ∈ [c22_6], ∀ id, firstReg x = some id → LoopOk Try.prog (0, 0) x (L22 id) := (loops_cons fr22_6 le22_6 (ok22_6 fu) loops_nil)
theorem lp22 : ∀ x ∈ loopsOf c22, ∀ id, firstReg x = some id → LoopOk Try.prog (0, 0) x (L22 id) := loops_eq lq22 lm22
noncomputable def R22 (x : Int × Int × Bool) : Res := ⟨[.one (ai x.1), .one (ai x.2.1), .one (ab x.2.2)], [], []⟩
noncomputable def K22 (r : Res) : Option (Int × Int × Bool) :=
  match r with
  | ⟨[.one (.val (.int .i64 v1)), .one (.val (.int .i64 v2)), .one (.val (.bool v3))], [], []⟩ => some (v1, v2, v3)
  | _ => none
noncomputable def E22 : Fun2 := fun args bs rs =>
  match args, bs, rs with
  | [.s1 (.one (.sl 0)), .s1 (.one (.val (.int .i64 a1)))], [], [⟨5, (.int .u8), a2, .ro⟩] => some ⟨Int × Int × Bool, S.NumRead a1 a2, R22⟩
  | _, _, _ => none
theorem ev22 (a1 : Int) (a2 : List Int) : evF Try.prog G22 L22 (0, 0) Try.f22 c22 [vl 0, vi a1] [] [⟨5, (.int .u8), a2, .ro⟩] K22 = S.NumRead a1 a2 := by kernel_rfl
theorem good22 : Vm.Good Try.prog 22 E22 := by
  refine evF_good (G := G22) (c := c22) (envCons_good good9 envNil_good) Try.func22 (by kernel_rfl) (by kernel_rfl) (0, 0) (fun args bs rs out t h h2 => ?_)
  unfold E22 at h
  split at h
  · injection h with h
    subst h
    exact ⟨rfl, L22, K22, lp22, (fun r t h => by unfold K22 at h; split at h; (injection h with h; subst h; rfl); cases h), (ev22 _ _).trans h2⟩
  · cases h
/-! ### I.in -/
noncomputable def G30 : Env := envNil
noncomputable def c30 : Code := bodyOf Try.f30
noncomputable def I.in (a1 a2 a3 : Int) : Option Bool :=
(bif (decide (a2 ≤ a1)) then
(some (decide (a1 ≤ a3)))
else
(some false))
noncomputable def R30 (x : Bool) : Res := ⟨[.one (ab x)], [], []⟩
noncomputable def K30 (r : Res) : Option Bool :=
  match r with
  | ⟨[.one (.val (.bool v1))], [], []⟩ => some (v1)
  | _ => none
noncomputable def E30 : Fun2 := fun args bs rs =>
  match args, bs, rs with
  | [.s1 (.one (.val (.int .i64 a1))), .s1 (.one (.val (.int .i64 a2))), .s1 (.one (.val (.int .i64 a3)))], [], [] => some ⟨Bool, I.in a1 a2 a3, R30⟩
  | _, _, _ => none
theorem ev30 (a1 a2 a3 : Int) : evF Try.prog G30 loopNil (0, 0) Try.f30 c30 [vi a1, vi a2, vi a3] [] [] K30 = I.in a1 a2 a3 := by kernel_rfl
theorem good30 : Vm.Good Try.prog 30 E30 := by
  refine evF_good (G := G30) (c := c30) envNil_good Try.func30 (by kernel_rfl) (by kernel_rfl) (0, 0) (fun args bs rs out t h h2 => ?_)
  unfold E30 at h
  split at h
  · injection h with h
    subst h
    exact ⟨rfl, loopNil, K30, (by intro x hx; simp [show loopsOf c30 = [] from by kernel_rfl] at hx), (fun r t h => by unfold K30 at h; split at h; (injection h with h; subst h; rfl); cases h), (ev30 _ _ _).trans h2⟩
  · cases h
/-! ### I.zigzag -/
noncomputable def G29 : Env := envNil
noncomputable def c29 : Code := bodyOf Try.f29
noncomputable def I.zigzag (a1 : Int) : Option Int :=
(bif decide (0 ≤ 1) then
(let v3 : Int := (IntKind.wrap .u64 ((IntKind.wrap .u64 a1) * 2 ^ min (Int.toNat 1) (IntKind.bits .u64)))
(bif decide (0 ≤ 63) then
(some (Go.bits .xor .u64 v3 (IntKind.wrap .u64 (Int.fdiv a1 (2 ^ min (Int.toNat 63) (IntKind.bits .i64))))))
else
none))
else
none)
noncomputable def R29 (x : Int) : Res := ⟨[.one (ak .u64 x)], [], []⟩
noncomputable def K29 (r : Res) : Option Int :=
  match r with
  | ⟨[.one (.val (.int .u64 v1))], [], []⟩ => some (v1)
  | _ => none
noncomputable def E29 : Fun2 := fun args bs rs =>
  match args, bs, rs with
  | [.s1 (.one (.val (.int .i64 a1)))], [], [] => some ⟨Int, I.zigzag a1, R29⟩
  | _, _, _ => none
theorem ev29 (a1 : Int) : evF Try.prog G29 loopNil (0, 0) Try.f29 c29 [vi a1] [] [] K29 = I.zigzag a1 := by kernel_rfl
theorem good29 : Vm.Good Try.prog 29 E29 := by
  refine evF_good (G := G29) (c := c29) envNil_good Try.func29 (by kernel_rfl) (by kernel_rfl) (0, 0) (fun args bs rs out t h h2 => ?_)
  unfold E29 at h
  split at h
  · injection h with h
    subst h
    exact ⟨rfl, loopNil, K29, (by intro x hx; simp [show loopsOf c29 = [] from by kernel_rfl] at hx), (fun r t h => by unfold K29 at h; split at h; (injection h with h; subst h; rfl); cases h), (ev29 _).trans h2⟩
  · cases h
/-! ### I.NumBytes -/
noncomputable def G10 : Env := (envCons 29 [] E29 envNil)
noncomputable def c10 : Code := bodyOf Try.f10
noncomputable def c10_3 : Code := (loopsOf c10).getD 0 .skip
noncomputable def I.NumBytes_l0 : Nat → (Int → List Int → Option (List Int)) → Int → List Int → Option (List Int)
  | 0, _, _, _ => none
  | m + 1, e3_0, a3, a4 =>
    (bif (decide (128 ≤ a3)) then
    (let v7 : Int := (Go.bits .or .u8 (IntKind.wrap .u8 a3) 128)
    (bif decide ((a4.length + [v7].length) * 1 ≤ 140737488355328) then
    (bif decide (0 ≤ 7) then
    (I.NumBytes_l0 m e3_0 (Int.fdiv a3 (2 ^ min (Int.toNat 7) (IntKind.bits .u64))) (a4 ++ [v7]))
    else
    none)
    else
    none))
    else
    (e3_0 a3 a4))
noncomputable def I.NumBytes (a1 : Int) : Option (List Int) :=
(Option.bind (I.zigzag a1) fun r2 =>
(I.NumBytes_l0 fu (fun y9 y10 =>
(let v11 : Int := (IntKind.wrap .u8 y9)
(bif decide ((y10.length + [v11].length) * 1 ≤ 140737488355328) then
(some (y10 ++ [v11]))
else
none))) r2 []))
noncomputable def H10_3 : LoopH := ⟨⟨(hu 3 ((.one (.sl 0)) :: hh :: (hu 18 []))), [], [(5, (.int .u8), .own)]⟩, [0, 1, 2, 5, 6, 7, 8, 9, 10, 11, 12, 13, 14, 15, 16, 17, 18, 19, 20, 21, 22], [], [0, 1, 5, 6, 7, 8, 9, 10, 11, 12, 13, 14, 15, 16, 17, 18, 19, 20, 21, 22]⟩
noncomputable def E10_3 (m : Nat) (ps : List Prm) (k : Kont (List Int)) : Option (List Int) :=
  match ps with
  | [.v (.int .u64 a3), .row (.int .u8) a4] => I.NumBytes_l0 m (fun z14 z15 => k (.exit 0) (⟨(vu 3 ((vl 0) :: (vk .u64 z14) :: (vu 18 []))), [], [⟨5, (.int .u8), z15, .own⟩]⟩ : St)) a3 a4
  | _ => none
noncomputable def S10_3 (a3 : Int) (a4 : List Int) : St := (⟨(vu 3 ((vl 0) :: (vk .u64 a3) :: (vu 18 []))), [], [⟨5, (.int .u8), a4, .own⟩]⟩ : St)
theorem ev10_3 (m : Nat) (k : Kont (List Int)) (a3 : Int) (a4 : List Int) : evC Try.prog G10 loopNil c10_3 (S10_3 a3 a4) (turn Try.prog (0, 0) H10_3 (E10_3 m) k) = E10_3 (m + 1) [.v (.int .u64 a3), .row (.int .u8) a4] k := by kernel_rfl
theorem ok10_3 (m : Nat) : LoopOk Try.prog (0, 0) c10_3 (enter Try.prog (0, 0) H10_3 (E10_3 m)) := by
  refine loop_ok (G := G10) (L := loopNil) (envCons_good good29 envNil_good) (by intro x hx; simp [show loopsOf c10_3 = [] from by kernel_rfl] at hx) (fun ps k => by unfold E10_3; split <;> rfl) (fun m ps k r h => ?_) m
  have h0 := h
  unfold E10_3 at h
  split at h
  · exact ⟨S10_3 _ _, by kernel_rfl, (ev10_3 m k _ _).trans h0⟩
  · cases h
noncomputable def L10 : LEnv (List Int) := (loopCons 3 (enter Try.prog (0, 0) H10_3 (E10_3 fu)) loopNil)
theorem lq10 : loopsOf c10 = [c10_3] := by kernel_rfl
theorem fr10_3 : firstReg c10_3 = some 3 := by kernel_rfl
theorem le10_3 : L10 3 = enter Try.prog (0, 0) H10_3 (E10_3 fu) := by kernel_rfl
theorem lm10 : ∀ x ∈ [c10_3], ∀ id, firstReg x = some id → LoopOk Try.prog (0, 0) x (L10 id) := (loops_cons fr10_3 le10_3 (ok10_3 fu) loops_nil)
theorem lp10 : ∀ x ∈ loopsOf c10, ∀ id, firstReg x = some id → LoopOk Try.prog (0, 0) x (L10 id) := loops_eq lq10 lm10
noncomputable def R10 (x : List Int) : Res := ⟨[.one (.sl 0)], [], [⟨5, (.int .u8), x, .own⟩]⟩
noncomputable def K10 (r : Res) : Option (List Int) :=
  match r with
  | ⟨[.one (.sl 0)], [], [⟨5, (.int .u8), v1, .own⟩]⟩ => some (v1)
  | _ => none
noncomputable def E10 : Fun2 := fun args bs rs =>
  match args, bs, rs with
  | [.s1 (.one (.val (.int .i64 a1)))], [], [] => some ⟨List Int, I.NumBytes a1, R10⟩
  | _, _, _ => none
theorem ev10 (a1 : Int) : evF Try.prog G10 L10 (0, 0) Try.f10 c10 [vi a1] [] [] K10 = I.NumBytes a1 := by kernel_rfl
theorem good10 : Vm.Good Try.prog 10 E10 := by
  refine evF_good (G := G10) (c := c10) (envCons_good good29 envNil_good) Try.func10 (by kernel_rfl) (by kernel_rfl) (0, 0) (fun args bs rs out t h h2 => ?_)
  unfold E10 at h
  split at h
  · injection h with h
    subst h
    exact ⟨rfl, L10, K10, lp10, (fun r t h => by unfold K10 at h; split at h; (injection h with h; subst h; rfl); cases h), (ev10 _).trans h2⟩
  · cases h
/-! ### I.NumRead -/
noncomputable def G23 : Env := (envCons 30 [] E30 (envCons 10 [] E10 envNil))
noncomputable def c23 : Code := bodyOf Try.f23
noncomputable def c23_5 : Code := (loopsOf c23).getD 0 .skip
noncomputable def I.NumRead_l0 : Nat → (Int → Int → Bool → Option (Int × Int × Bool)) → (Option (Int × Int × Bool)) → Int → Int → Int → Int → Int → Int → List Int → Option (Int × Int × Bool)
  | 0, _, _, _, _, _, _, _, _, _ => none
  | m + 1, e5_0, e5_1, a9, a10, a11, a12, a13, a14, a15 =>
    (bif (decide (a14 < a13)) then
    (bif decide (0 ≤ a14 ∧ a14 < a12 - a11) then
    (let v17 : Int := (nthI a15 (a11 + a14) (0 : Int))
    (let v20 : Int := (IntKind.wrap .i64 (7 * a14))
    (bif decide (0 ≤ v20) then
    (let v21 : Int := (IntKind.wrap .u64 ((IntKind.wrap .u64 (Go.bits .and .u8 v17 127)) * 2 ^ min (Int.toNat v20) (IntKind.bits .u64)))
    (let v22 : Int := (Go.bits .or .u64 a10 v21)
    (bif (decide (128 ≤ v17)) then
    (I.NumRead_l0 m e5_0 e5_1 a9 v22 a11 a12 a13 (IntKind.wrap .i64 (a14 + 1)) a15)
    else
    (bif decide (0 ≤ 1) then
    (let v30 : Int := (Go.bits .xor .i64 (IntKind.wrap .i64 (Int.fdiv v22 (2 ^ min (Int.toNat 1) (IntKind.bits .u64)))) (IntKind.wrap .i64 (0 - (IntKind.wrap .i64 (Go.bits .and .u64 v22 1)))))
    (Option.bind (I.NumBytes v30) fun r31 =>
    (bif ((r31.length : Int) != (IntKind.wrap .i64 (a14 + 1))) then
    (e5_0 0 0 false)
    else
    (bif (a14 == 9) then
    (bif (decide (1 < v17)) then
    (e5_0 0 0 false)
    else
    (e5_0 v30 (IntKind.wrap .i64 ((IntKind.wrap .i64 (a9 + a14)) + 1)) true))
    else
    (e5_0 v30 (IntKind.wrap .i64 ((IntKind.wrap .i64 (a9 + a14)) + 1)) true)))))
    else
    none))))
    else
    none)))
    else
    none)
    else
    e5_1)
noncomputable def I.NumRead (a1 : Int) (a2 : List Int) : Option (Int × Int × Bool) :=
(Option.bind (I.in a1 0 (IntKind.wrap .i64 ((a2.length : Int) - 1))) fun r5 =>
(bif (!r5) then
(some (0, 0, false))
else
(let v6 : Int := (a2.length : Int)
(let v7 : Int := (IntKind.wrap .i64 (a1 + 10))
(let v8 : Int := (if v7 < v6 then v7 else v6)
(bif decide (0 ≤ a1 ∧ a1 ≤ v8 ∧ v8 ≤ (a2.length : Int)) then
(I.NumRead_l0 fu (fun y39 y40 y41 =>
(some (y39, y40, y41))) (some (0, 0, false)) a1 0 a1 v8 (v8 - a1) 0 a2)
else
none))))))
noncomputable def H23_5 : LoopH := ⟨⟨((.one (.unk)) :: hh :: (hu 5 (hh :: (hu 16 ((.one (.vw 0 1)) :: hh :: hh :: (hu 42 [])))))), [], [(5, (.int .u8), .ro)]⟩, [0, 2, 3, 4, 5, 6, 8, 9, 10, 11, 12, 13, 14, 15, 16, 17, 18, 19, 20, 21, 22, 23, 27, 28, 29, 30, 31, 32, 33, 34, 35, 36, 37, 38, 39, 40, 41, 42, 43, 44, 45, 46, 47, 48, 49, 50, 51, 52, 53, 54, 55, 56, 57, 58, 59, 60, 61, 62, 63, 64, 65, 66, 67, 68], [], [0, 1, 2, 3, 7, 8, 9, 10, 11, 12, 13, 14, 15, 16, 17, 18, 19, 20, 21, 22, 23, 24, 25, 26, 27, 28, 29, 30, 31, 32, 33, 34, 35, 36, 37, 38, 39, 40, 41, 42, 43, 44, 45, 46, 47, 48, 49, 50, 51, 52, 53, 54, 55, 56, 57, 58, 59, 60, 61, 62, 63, 64, 65, 66, 67, 68]⟩
noncomputable def E23_5 (m : Nat) (ps : List Prm) (k : Kont (Int × Int × Bool)) : Option (Int × Int × Bool) :=
  match ps with
  | [.v (.int .i64 a9), .v (.int .u64 a10), .i a11, .i a12, .v (.int .i64 a13), .v (.int .i64 a14), .row (.int .u8) a15] => I.NumRead_l0 m (fun z45 z46 z47 => k .ret (⟨(vu 4 ((vi z45) :: (vi z46) :: (vb z47) :: (vu 62 []))), [], []⟩ : St)) (k (.exit 0) (⟨(vu 69 []), [], []⟩ : St)) a9 a10 a11 a12 a13 a14 a15
  | _ => none
noncomputable def S23_5 (a9 a10 a11 a12 a13 a14 : Int) (a15 : List Int) : St := (⟨((.s1 (.one (.unk))) :: (vi a9) :: (vu 5 ((vk .u64 a10) :: (vu 16 ((.s1 (.one (.vw 0 1 a11 a12))) :: (vi a13) :: (vi a14) :: (vu 42 [])))))), [], [⟨5, (.int .u8), a15, .ro⟩]⟩ : St)
theorem ev23_5 (m : Nat) (k : Kont (Int × Int × Bool)) (a9 a10 a11 a12 a13 a14 : Int) (a15 : List Int) : evC Try.prog G23 loopNil c23_5 (S23_5 a9 a10 a11 a12 a13 a14 a15) (turn Try.prog (0, 0) H23_5 (E23_5 m) k) = E23_5 (m + 1) [.v (.int .i64 a9), .v (.int .u64 a10), .i a11, .i a12, .v (.int .i64 a13), .v (.int .i64 a14), .row (.int .u8) a15] k := by kernel_rfl
theorem ok23_5 (m : Nat) : LoopOk Try.prog (0, 0) c23_5 (enter Try.prog (0, 0) H23_5 (E23_5 m)) := by
  refine loop_ok (G := G23) (L := loopNil) (envCons_good good30 (envCons_good good10 envNil_good)) (by intro x hx; simp [show loopsOf c23_5 = [] from by kernel_rfl] at hx) (fun ps k => by unfold E23_5; split <;> rfl) (fun m ps k r h => ?_) m
  have h0 := h
  unfold E23_5 at h
  split at h
  · exact ⟨S23_5 _ _ _ _ _ _ _, by kernel_rfl, (ev23_5 m k _ _ _ _ _ _ _).trans h0⟩
  · cases h
noncomputable def L23 : LEnv (Int × Int × Bool) := (loopCons 5 (enter Try.prog (0, 0) H23_5 (E23_5 fu)) loopNil)
theorem lq23 : loopsOf c23 = [c23_5] := by kernel_rfl
theorem fr23_5 : firstReg c23_5 = some 5 := by kernel_rfl
theorem le23_5 : L23 5 = enter Try.prog (0, 0) H23_5 (E23_5 fu) := by kernel_rfl
theorem lm23 : ∀ x ∈ [c23_5], ∀ id, firstReg x = some id → LoopOk Try.prog (0, 0) x (L23 id) := (loops_cons fr23_5 le23_5 (ok23_5 fu) loops_nil)
theorem lp23 : ∀ x ∈ loopsOf c23, ∀ id, firstReg x = some id → LoopOk Try.prog (0, 0) x (L23 id) := loops_eq lq23 lm23
noncomputable def R23 (x : Int × Int × Bool) : Res := ⟨[.one (ai x.1), .one (ai x.2.1), .one (ab x.2.2)], [], []⟩
noncomputable def K23 (r : Res) : Option (Int × Int × Bool) :=
  match r with
  | ⟨[.one (.val (.int .i64 v1)), .one (.val (.int .i64 v2)), .one (.val (.bool v3))], [], []⟩ => some (v1, v2, v3)
  | _ => none
noncomputable def E23 : Fun2 := fun args bs rs =>
  match args, bs, rs with
  | [.s1 (.one (.sl 0)), .s1 (.one (.val (.int .i64 a1)))], [], [⟨5, (.int .u8), a2, .ro⟩] => some ⟨Int × Int × Bool, I.NumRead a1 a2, R23⟩
  | _, _, _ => none
theorem ev23 (a1 : Int) (a2 : List Int) : evF Try.prog G23 L23 (0, 0) Try.f23 c23 [vl 0, vi a1] [] [⟨5, (.int .u8), a2, .ro⟩] K23 = I.NumRead a1 a2 := by kernel_rfl
theorem good23 : Vm.Good Try.prog 23 E23 := by
  refine evF_good (G := G23) (c := c23) (envCons_good good30 (envCons_good good10 envNil_good)) Try.func23 (by kernel_rfl) (by kernel_rfl) (0, 0) (fun args bs rs out t h h2 => ?_)
  unfold E23 at h
  split at h
  · injection h with h
    subst h
    exact ⟨rfl, L23, K23, lp23, (fun r t h => by unfold K23 at h; split at h; (injection h with h; subst h; rfl); cases h), (ev23 _ _).trans h2⟩
  · cases h
/-! ### L.eqByteS -/
noncomputable def G11 : Env := envNil
noncomputable def c11 : Code := bodyOf Try.f11
noncomputable def c11_4 : Code := (loopsOf c11).getD 0 .skip
noncomputable def L.eqByteS_l0 : Nat → (Bool → Option Bool) → (Option Bool) → Int → List Int → List Int → Option Bool
  | 0, _, _, _, _, _ => none
  | m + 1, e4_0, e4_1, a5, a6, a7 =>
    (bif (decide (a5 < (a6.length : Int))) then
    (bif decide (0 ≤ a5 ∧ a5 < (a6.length : Int)) then
    (bif decide (0 ≤ a5 ∧ a5 < (a7.length : Int)) then
    (bif ((nthI a6 a5 (0 : Int)) != (nthI a7 a5 (0 : Int))) then
    (e4_0 false)
    else
    (L.eqByteS_l0 m e4_0 e4_1 (IntKind.wrap .i64 (a5 + 1)) a6 a7))
    else
    none)
    else
    none)
    else
    e4_1)
noncomputable def L.eqByteS (a1 a2 : List Int) : Option Bool :=
(bif ((a1.length : Int) != (a2.length : Int)) then
(some false)
else
(L.eqByteS_l0 fu (fun y12 =>
(some y12)) (some true) 0 a1 a2))
noncomputable def H11_4 : LoopH := ⟨⟨((.one (.sl 0)) :: (.one (.sl 1)) :: (hu 3 (hh :: (hu 20 [])))), [], [(5, (.int .u8), .ro), (5, (.int .u8), .ro)]⟩, [2, 3, 4, 6, 7, 8, 9, 10, 11, 12, 13, 14, 15, 16, 17, 18, 19, 20, 21, 22, 23, 24, 25], [], [0, 1, 2, 3, 5, 6, 7, 8, 9, 10, 11, 12, 13, 14, 15, 16, 17, 18, 19, 20, 21, 22, 23, 24, 25]⟩
noncomputable def E11_4 (m : Nat) (ps : List Prm) (k : Kont Bool) : Option Bool :=
  match ps with
  | [.v (.int .i64 a5), .row (.int .u8) a6, .row (.int .u8) a7] => L.eqByteS_l0 m (fun z14 => k .ret (⟨(vu 4 ((vb z14) :: (vu 21 []))), [], []⟩ : St)) (k (.exit 0) (⟨(vu 26 []), [], []⟩ : St)) a5 a6 a7
  | _ => none
noncomputable def S11_4 (a5 : Int) (a6 a7 : List Int) : St := (⟨((vl 0) :: (vl 1) :: (vu 3 ((vi a5) :: (vu 20 [])))), [], [⟨5, (.int .u8), a6, .ro⟩, ⟨5, (.int .u8), a7, .ro⟩]⟩ : St)
theorem ev11_4 (m : Nat) (k : Kont Bool) (a5 : Int) (a6 a7 : List Int) : evC Try.prog G11 loopNil c11_4 (S11_4 a5 a6 a7) (turn Try.prog (0, 0) H11_4 (E11_4 m) k) = E11_4 (m + 1) [.v (.int .i64 a5), .row (.int .u8) a6, .row (.int .u8) a7] k := by kernel_rfl
theorem ok11_4 (m : Nat) : LoopOk Try.prog (0, 0) c11_4 (enter Try.prog (0, 0) H11_4 (E11_4 m)) := by
  refine loop_ok (G := G11) (L := loopNil) envNil_good (by intro x hx; simp [show loopsOf c11_4 = [] from by kernel_rfl] at hx) (fun ps k => by unfold E11_4; split <;> rfl) (fun m ps k r h => ?_) m
  have h0 := h
  unfold E11_4 at h
  split at h
  · exact ⟨S11_4 _ _ _, by kernel_rfl, (ev11_4 m k _ _ _).trans h0⟩
  · cases h
noncomputable def L11 : LEnv Bool := (loopCons 4 (enter Try.prog (0, 0) H11_4 (E11_4 fu)) loopNil)
theorem lq11 : loopsOf c11 = [c11_4] := by kernel_rfl
theorem fr11_4 : firstReg c11_4 = some 4 := by kernel_rfl
theorem le11_4 : L11 4 = enter Try.prog (0, 0) H11_4 (E11_4 fu) := by kernel_rfl
theorem lm11 : ∀ x ∈ [c11_4], ∀ id, firstReg x = some id → LoopOk Try.prog (0, 0) x (L11 id) := (loops_cons fr11_4 le11_4 (ok11_4 fu) loops_nil)
theorem lp11 : ∀ x ∈ loopsOf c11, ∀ id, firstReg x = some id → LoopOk Try.prog (0, 0) x (L11 id) := loops_eq lq11 lm11
noncomputable def R11 (x : Bool) : Res := ⟨[.one (ab x)], [], []⟩
noncomputable def K11 (r : Res) : Option Bool :=
  match r with
  | ⟨[.one (.val (.bool v1))], [], []⟩ => some (v1)
  | _ => none
noncomputable def E11 : Fun2 := fun args bs rs =>
  match args, bs, rs with
  | [.s1 (.one (.sl 0)), .s1 (.one (.sl 1))], [], [⟨5, (.int .u8), a1, .ro⟩, ⟨5, (.int .u8), a2, .ro⟩] => some ⟨Bool, L.eqByteS a1 a2, R11⟩
  | _, _, _ => none
theorem ev11 (a1 a2 : List Int) : evF Try.prog G11 L11 (0, 0) Try.f11 c11 [vl 0, vl 1] [] [⟨5, (.int .u8), a1, .ro⟩, ⟨5, (.int .u8), a2, .ro⟩] K11 = L.eqByteS a1 a2 := by kernel_rfl
theorem good11 : Vm.Good Try.prog 11 E11 := by
  refine evF_good (G := G11) (c := c11) envNil_good Try.func11 (by kernel_rfl) (by kernel_rfl) (0, 0) (fun args bs rs out t h h2 => ?_)
  unfold E11 at h
  split at h
  · injection h with h
    subst h
    exact ⟨rfl, L11, K11, lp11, (fun r t h => by unfold K11 at h; split at h; (injection h with h; subst h; rfl); cases h), (ev11 _ _).trans h2⟩
  · cases h
/-! ### L.FnExactNumRead -/
noncomputable def G6 : Env := (envCons 15 [] E15 (envCons 22 [] E22 (envCons 23 [] E23 (envCons 11 [] E11 envNil))))
noncomputable def c6 : Code := bodyOf Try.f6
noncomputable def L.FnExactNumRead (a1 : Int) (a2 : List Int) : Option Bool :=
(bif (decide (1048576 < (a2.length : Int))) then
(some true)
else
(Option.bind (L.toByteS a2) fun r5 =>
(Option.bind (S.NumRead a1 r5) fun r6 =>
(Option.bind (L.toByteS a2) fun r7 =>
(Option.bind (I.NumRead a1 r7) fun r8 =>
(bif (r8.1 != r6.1) then
(some false)
else
(bif (r8.2.1 != r6.2.1) then
(some false)
else
(bif (!(r8.2.2 == r6.2.2)) then
(some false)
else
(Option.bind (L.toByteS a2) fun r11 =>
(Option.bind (L.eqByteS r7 r11) fun r12 =>
(bif (!r12) then
(some false)
else
(some true))))))))))))
noncomputable def R6 (x : Bool) : Res := ⟨[.one (ab x)], [], []⟩
noncomputable def K6 (r : Res) : Option Bool :=
  match r with
  | ⟨[.one (.val (.bool v1))], [], []⟩ => some (v1)
  | _ => none
noncomputable def E6 : Fun2 := fun args bs rs =>
  match args, bs, rs with
  | [.s1 (.one (.sl 0)), .s1 (.one (.val (.int .i64 a1)))], [], [⟨5, (.int .u8), a2, .ro⟩] => some ⟨Bool, L.FnExactNumRead a1 a2, R6⟩
  | _, _, _ => none
theorem ev6 (a1 : Int) (a2 : List Int) : evF Try.prog G6 loopNil (0, 0) Try.f6 c6 [vl 0, vi a1] [] [⟨5, (.int .u8), a2, .ro⟩] K6 = L.FnExactNumRead a1 a2 := by kernel_rfl
theorem good6 : Vm.Good Try.prog 6 E6 := by
  refine evF_good (G := G6) (c := c6) (envCons_good good15 (envCons_good good22 (envCons_good good23 (envCons_good good11 envNil_good)))) Try.func6 (by kernel_rfl) (by kernel_rfl) (0, 0) (fun args bs rs out t h h2 => ?_)
  unfold E6 at h
  split at h
  · injection h with h
    subst h
    exact ⟨rfl, loopNil, K6, (by intro x hx; simp [show loopsOf c6 = [] from by kernel_rfl] at hx), (fun r t h => by unfold K6 at h; split at h; (injection h with h; subst h; rfl); cases h), (ev6 _ _).trans h2⟩
  · cases h
end Go.Proofs.Ytpfjklmobjjgpaa.Run
