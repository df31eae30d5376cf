import Derived.Test.YtmbcnpbgcfiafaaGreatGnCellsAddA
namespace Go.Proofs.YtmbcnpbgcfiafaaGreat.Run
open Go Go.RowKit Go.Proofs.YtmbcnpbgcfiafaaGreatW.PrintWords Go.Proofs.YtmbcnpbgcfiafaaGreat.Vm
set_option linter.unusedVariables false
set_option maxRecDepth 100000
set_option maxHeartbeats 4000000

noncomputable def G14 : Env := (envCons 24 [0] E24 envNil)
noncomputable def c14 : Code := bodyOf Tryz.f14
noncomputable def c14_2 : Code := (loopsOf c14).getD 0 .skip
noncomputable def L.markCellS_l0 : Nat → (Int → (List ty12) → Option (Int × (List ty12))) → Int → Int → (List ty12) → Option (Int × (List ty12))
  | 0, _, _, _, _ => none
  | m + 1, e2_0, a3, a4, a5 =>
    (bif (decide (a4 < (a5.length : Int))) then
    (bif decide ((0 : Int) ≤ a4 ∧ a4 < (a5.length : Int)) then
    (let v8 : List ty12 := (a5.set (Int.toNat a4) (a3, (nthI a5 a4 df1).2))
    (let v9 : Int := (IntKind.wrap .i64 (a3 + 1))
    (bif decide ((0 : Int) ≤ a4 ∧ a4 < (v8.length : Int)) then
    (let v10 : List ty12 := (v8.set (Int.toNat a4) ((nthI v8 a4 df1).1, (v9, (nthI v8 a4 df1).2.2)))
    (let v11 : Int := (IntKind.wrap .i64 (v9 + 1))
    (bif decide ((0 : Int) ≤ a4 ∧ a4 < (v10.length : Int)) then
    (let v12 : List ty12 := (v10.set (Int.toNat a4) ((nthI v10 a4 df1).1, ((nthI v10 a4 df1).2.1, (v11, (nthI v10 a4 df1).2.2.2))))
    (let v13 : Int := (IntKind.wrap .i64 (v11 + 1))
    (bif decide ((0 : Int) ≤ a4 ∧ a4 < (v12.length : Int)) then
    (let v14 : List ty12 := (v12.set (Int.toNat a4) ((nthI v12 a4 df1).1, ((nthI v12 a4 df1).2.1, ((nthI v12 a4 df1).2.2.1, (v13, (nthI v12 a4 df1).2.2.2.2)))))
    (let v15 : Int := (IntKind.wrap .i64 (v13 + 1))
    (bif decide ((0 : Int) ≤ a4 ∧ a4 < (v14.length : Int)) then
    (let v16 : List ty12 := (v14.set (Int.toNat a4) ((nthI v14 a4 df1).1, ((nthI v14 a4 df1).2.1, ((nthI v14 a4 df1).2.2.1, ((nthI v14 a4 df1).2.2.2.1, (v15, (nthI v14 a4 df1).2.2.2.2.2))))))
    (let v17 : Int := (IntKind.wrap .i64 (v15 + 1))
    (bif decide ((0 : Int) ≤ a4 ∧ a4 < (v16.length : Int)) then
    (let v18 : List ty12 := (v16.set (Int.toNat a4) ((nthI v16 a4 df1).1, ((nthI v16 a4 df1).2.1, ((nthI v16 a4 df1).2.2.1, ((nthI v16 a4 df1).2.2.2.1, ((nthI v16 a4 df1).2.2.2.2.1, (v17, (nthI v16 a4 df1).2.2.2.2.2.2)))))))
    (let v19 : Int := (IntKind.wrap .i64 (v17 + 1))
    (bif decide ((0 : Int) ≤ a4 ∧ a4 < (v18.length : Int)) then
    (let v20 : List ty12 := (v18.set (Int.toNat a4) ((nthI v18 a4 df1).1, ((nthI v18 a4 df1).2.1, ((nthI v18 a4 df1).2.2.1, ((nthI v18 a4 df1).2.2.2.1, ((nthI v18 a4 df1).2.2.2.2.1, ((nthI v18 a4 df1).2.2.2.2.2.1, ((v19, (nthI v18 a4 df1).2.2.2.2.2.2.1.2), (nthI v18 a4 df1).2.2.2.2.2.2.2))))))))
    (let v21 : Int := (IntKind.wrap .i64 (v19 + 1))
    (bif decide ((0 : Int) ≤ a4 ∧ a4 < (v20.length : Int)) then
    (let v23 : List ty12 := (v20.set (Int.toNat a4) ((nthI v20 a4 df1).1, ((nthI v20 a4 df1).2.1, ((nthI v20 a4 df1).2.2.1, ((nthI v20 a4 df1).2.2.2.1, ((nthI v20 a4 df1).2.2.2.2.1, ((nthI v20 a4 df1).2.2.2.2.2.1, (((nthI v20 a4 df1).2.2.2.2.2.2.1.1, (IntKind.wrap .u64 v21)), (nthI v20 a4 df1).2.2.2.2.2.2.2))))))))
    (let v24 : Int := (IntKind.wrap .i64 (v21 + 1))
    (bif decide ((0 : Int) ≤ a4 ∧ a4 < (v23.length : Int)) then
    (let v25 : List ty12 := (v23.set (Int.toNat a4) ((nthI v23 a4 df1).1, ((nthI v23 a4 df1).2.1, ((nthI v23 a4 df1).2.2.1, ((nthI v23 a4 df1).2.2.2.1, ((nthI v23 a4 df1).2.2.2.2.1, ((nthI v23 a4 df1).2.2.2.2.2.1, ((nthI v23 a4 df1).2.2.2.2.2.2.1, (v24, (nthI v23 a4 df1).2.2.2.2.2.2.2.2)))))))))
    (let v26 : Int := (IntKind.wrap .i64 (v24 + 1))
    (bif decide ((0 : Int) ≤ a4 ∧ a4 < (v25.length : Int)) then
    (let v27 : List ty12 := (v25.set (Int.toNat a4) ((nthI v25 a4 df1).1, ((nthI v25 a4 df1).2.1, ((nthI v25 a4 df1).2.2.1, ((nthI v25 a4 df1).2.2.2.1, ((nthI v25 a4 df1).2.2.2.2.1, ((nthI v25 a4 df1).2.2.2.2.2.1, ((nthI v25 a4 df1).2.2.2.2.2.2.1, ((nthI v25 a4 df1).2.2.2.2.2.2.2.1, (v26, (nthI v25 a4 df1).2.2.2.2.2.2.2.2.2))))))))))
    (bif decide ((0 : Int) ≤ a4 ∧ a4 < (v27.length : Int)) then
    (Option.bind (L.markIntS (IntKind.wrap .i64 (v26 + 1)) ((nthI v27 a4 df1).2.2.2.2.2.2.2.2.2)) fun r29 =>
    (let v30 : List ty12 := (v27.set (Int.toNat a4) ((nthI v27 a4 df1).1, ((nthI v27 a4 df1).2.1, ((nthI v27 a4 df1).2.2.1, ((nthI v27 a4 df1).2.2.2.1, ((nthI v27 a4 df1).2.2.2.2.1, ((nthI v27 a4 df1).2.2.2.2.2.1, ((nthI v27 a4 df1).2.2.2.2.2.2.1, ((nthI v27 a4 df1).2.2.2.2.2.2.2.1, ((nthI v27 a4 df1).2.2.2.2.2.2.2.2.1, r29.2))))))))))
    (L.markCellS_l0 m e2_0 r29.1 (IntKind.wrap .i64 (a4 + 1)) v30)))
    else
    none))
    else
    none)))
    else
    none)))
    else
    none)))
    else
    none)))
    else
    none)))
    else
    none)))
    else
    none)))
    else
    none)))
    else
    none)))
    else
    none)
    else
    (e2_0 a3 a5))
noncomputable def L.markCellS (a1 : Int) (a2 : List ty12) : Option (Int × (List ty12)) :=
(L.markCellS_l0 fu (fun y32 y33 =>
(some (y32, y33))) a1 0 a2)
noncomputable def H14_2 : LoopH := ⟨⟨((.one (.sl 0)) :: hh :: (hu 3 (hh :: (hu 93 [])))), [], [(113, sh1, .own)]⟩, ([2, 3, 4] ++ rg 6 93), [], ([0, 2, 3] ++ rg 5 94), [], [], [], []⟩
noncomputable def k14_2 : List PK := (ki 2 [.row sh1])
noncomputable def W14_2 (m : Nat) (k : Kont (Int × (List ty12))) : Cur k14_2 (Option (Int × (List ty12))) := L.markCellS_l0 m (exF k (.exit 0) ⟨((.one (.unk)) :: hh :: (hu 97 [])), [], [(113, sh1, .own)]⟩ [.int .i64, .row sh1])
noncomputable def E14_2 (m : Nat) : List Prm → Kont (Int × (List ty12)) → Option (Int × (List ty12)) := eL k14_2 (W14_2 m)
theorem ev14_2 (m : Nat) (k : Kont (Int × (List ty12))) (a : Args k14_2) : evL Tryz.prog G14 loopNil c14_2 (turn Tryz.prog (0, 1) H14_2 (E14_2 m) k) (H14_2.sk.fl (encP k14_2 a)) = unc k14_2 (W14_2 (m + 1) k) a := by kernel_rfl
theorem ok14_2 (m : Nat) : LoopOk Tryz.prog (0, 1) c14_2 (enter Tryz.prog (0, 1) H14_2 (E14_2 m)) := loop_gen (Fl := W14_2) (G := G14) (L := loopNil) (envCons_good good24 envNil_good) (no_loops (c := c14_2) (by kernel_rfl)) (fun _ _ => by kernel_rfl) ev14_2 m
noncomputable def L14 : LEnv (Int × (List ty12)) := (loopCons 2 (enter Tryz.prog (0, 1) H14_2 (E14_2 fu)) loopNil)
theorem lq14 : loopsOf c14 = [c14_2] := by kernel_rfl
theorem fr14_2 : firstReg c14_2 = some 2 := by kernel_rfl
theorem le14_2 : L14 2 = (enter Tryz.prog (0, 1) H14_2 (E14_2 fu)) := by kernel_rfl
theorem lm14 : ∀ x ∈ [c14_2], ∀ id, firstReg x = some id → LoopOk Tryz.prog (0, 1) x (L14 id) := (loops_cons fr14_2 le14_2 (ok14_2 fu) loops_nil)
theorem lp14 : ∀ x ∈ loopsOf c14, ∀ id, firstReg x = some id → LoopOk Tryz.prog (0, 1) x (L14 id) := loops_eq lq14 lm14
noncomputable def sg14 : Sg := ⟨⟨[.one (.sl 0), hh], [], [(113, sh1, .own)]⟩, [.int .i64, .row sh1], ⟨[hh], [], [(113, sh1, .own)]⟩, [.int .i64, .row sh1]⟩
noncomputable def E14 : Fun2 := eOf sg14 L.markCellS
theorem ev14 (a : Args sg14.ks) : evS Tryz.prog G14 L14 (0, 1) [] Tryz.f14 c14 (kOf sg14) (sg14.sk.fl (encP sg14.ks a)) = unc sg14.ks L.markCellS a := by kernel_rfl
theorem good14 : Vm.Good Tryz.prog 14 E14 := good_gen (G := G14) (L := L14) (c := c14) (rn := []) (N := (0, 1)) (envCons_good good24 envNil_good) lp14 Tryz.func14 (by kernel_rfl) (by kernel_rfl) (fun _ => by kernel_rfl) ev14
noncomputable def G60 : Env := envNil
noncomputable def c60 : Code := bodyOf Tryz.f60
noncomputable def c60_2 : Code := (loopsOf c60).getD 0 .skip
noncomputable def L.heldIntS_l0 : Nat → (Int → Int → Option Int) → (Int → Option Int) → Int → Int → List Int → Option Int
  | 0, _, _, _, _, _ => none
  | m + 1, e2_0, e2_1, a3, a4, a5 =>
    (bif (decide (a4 < (a5.length : Int))) then
    (bif decide ((0 : Int) ≤ a4 ∧ a4 < (a5.length : Int)) then
    (bif ((nthI a5 a4 (0 : Int)) != a3) then
    (e2_0 a3 (-1))
    else
    (L.heldIntS_l0 m e2_0 e2_1 (IntKind.wrap .i64 (a3 + 1)) (IntKind.wrap .i64 (a4 + 1)) a5))
    else
    none)
    else
    (e2_1 a3))
noncomputable def L.heldIntS (a1 : Int) (a2 : List Int) : Option Int :=
(L.heldIntS_l0 fu (fun y11 y12 =>
(some y12)) (fun y13 =>
(some y13)) a1 0 a2)
noncomputable def H60_2 : LoopH := ⟨⟨((.one (.sl 0)) :: hh :: (hu 3 (hh :: (hu 15 [])))), [], [(3, (.int .i64), .ro)]⟩, ([2, 3, 4] ++ rg 6 15), [], ([0, 2, 3] ++ rg 5 16), [], [], [], []⟩
noncomputable def k60_2 : List PK := (ki 2 [.row (.int .i64)])
noncomputable def W60_2 (m : Nat) (k : Kont Int) : Cur k60_2 (Option Int) := L.heldIntS_l0 m (exF k .ret ⟨((.one (.unk)) :: hh :: (hu 2 (hh :: (hu 16 [])))), [], []⟩ (ki 2 [])) (exF k (.exit 0) ⟨((.one (.unk)) :: hh :: (hu 19 [])), [], []⟩ [.int .i64])
noncomputable def E60_2 (m : Nat) : List Prm → Kont Int → Option Int := eL k60_2 (W60_2 m)
theorem ev60_2 (m : Nat) (k : Kont Int) (a : Args k60_2) : evL Tryz.prog G60 loopNil c60_2 (turn Tryz.prog (0, 0) H60_2 (E60_2 m) k) (H60_2.sk.fl (encP k60_2 a)) = unc k60_2 (W60_2 (m + 1) k) a := by kernel_rfl
theorem ok60_2 (m : Nat) : LoopOk Tryz.prog (0, 0) c60_2 (enter Tryz.prog (0, 0) H60_2 (E60_2 m)) := loop_gen (Fl := W60_2) (G := G60) (L := loopNil) envNil_good (no_loops (c := c60_2) (by kernel_rfl)) (fun _ _ => by kernel_rfl) ev60_2 m
noncomputable def L60 : LEnv Int := (loopCons 2 (enter Tryz.prog (0, 0) H60_2 (E60_2 fu)) loopNil)
theorem lq60 : loopsOf c60 = [c60_2] := by kernel_rfl
theorem fr60_2 : firstReg c60_2 = some 2 := by kernel_rfl
theorem le60_2 : L60 2 = (enter Tryz.prog (0, 0) H60_2 (E60_2 fu)) := by kernel_rfl
theorem lm60 : ∀ x ∈ [c60_2], ∀ id, firstReg x = some id → LoopOk Tryz.prog (0, 0) x (L60 id) := (loops_cons fr60_2 le60_2 (ok60_2 fu) loops_nil)
theorem lp60 : ∀ x ∈ loopsOf c60, ∀ id, firstReg x = some id → LoopOk Tryz.prog (0, 0) x (L60 id) := loops_eq lq60 lm60
noncomputable def sg60 : Sg := ⟨⟨[.one (.sl 0), hh], [], [(3, (.int .i64), .ro)]⟩, [.int .i64, .row (.int .i64)], ⟨[hh], [], []⟩, [.int .i64]⟩
noncomputable def E60 : Fun2 := eOf sg60 L.heldIntS
theorem ev60 (a : Args sg60.ks) : evS Tryz.prog G60 L60 (0, 0) [] Tryz.f60 c60 (kOf sg60) (sg60.sk.fl (encP sg60.ks a)) = unc sg60.ks L.heldIntS a := by kernel_rfl
theorem good60 : Vm.Good Tryz.prog 60 E60 := good_gen (G := G60) (L := L60) (c := c60) (rn := []) (N := (0, 0)) envNil_good lp60 Tryz.func60 (by kernel_rfl) (by kernel_rfl) (fun _ => by kernel_rfl) ev60
noncomputable def G15 : Env := (envCons 60 [] E60 envNil)
noncomputable def c15 : Code := bodyOf Tryz.f15
noncomputable def c15_2 : Code := (loopsOf c15).getD 0 .skip
noncomputable def L.heldCellS_l0 : Nat → (Int → Int → Option Int) → (Int → Option Int) → Int → Int → (List ty12) → Option Int
  | 0, _, _, _, _, _ => none
  | m + 1, e2_0, e2_1, a3, a4, a5 =>
    (bif (decide (a4 < (a5.length : Int))) then
    (bif decide ((0 : Int) ≤ a4 ∧ a4 < (a5.length : Int)) then
    (let v8 : Bool := ((nthI a5 a4 df1).1 != a3)
    (bif v8 then
    (e2_0 a3 (-1))
    else
    (let v9 : Int := (IntKind.wrap .i64 (a3 + 1))
    (bif decide ((0 : Int) ≤ a4 ∧ a4 < (a5.length : Int)) then
    (let v10 : Bool := ((nthI a5 a4 df1).2.1 != v9)
    (bif v10 then
    (e2_0 v9 (-1))
    else
    (let v11 : Int := (IntKind.wrap .i64 (v9 + 1))
    (bif decide ((0 : Int) ≤ a4 ∧ a4 < (a5.length : Int)) then
    (let v12 : Bool := ((nthI a5 a4 df1).2.2.1 != v11)
    (bif v12 then
    (e2_0 v11 (-1))
    else
    (let v13 : Int := (IntKind.wrap .i64 (v11 + 1))
    (bif decide ((0 : Int) ≤ a4 ∧ a4 < (a5.length : Int)) then
    (let v14 : Bool := ((nthI a5 a4 df1).2.2.2.1 != v13)
    (bif v14 then
    (e2_0 v13 (-1))
    else
    (let v15 : Int := (IntKind.wrap .i64 (v13 + 1))
    (bif decide ((0 : Int) ≤ a4 ∧ a4 < (a5.length : Int)) then
    (let v16 : Bool := ((nthI a5 a4 df1).2.2.2.2.1 != v15)
    (bif v16 then
    (e2_0 v15 (-1))
    else
    (let v17 : Int := (IntKind.wrap .i64 (v15 + 1))
    (bif decide ((0 : Int) ≤ a4 ∧ a4 < (a5.length : Int)) then
    (let v18 : Bool := ((nthI a5 a4 df1).2.2.2.2.2.1 != v17)
    (bif v18 then
    (e2_0 v17 (-1))
    else
    (let v19 : Int := (IntKind.wrap .i64 (v17 + 1))
    (bif decide ((0 : Int) ≤ a4 ∧ a4 < (a5.length : Int)) then
    (let v20 : Bool := ((nthI a5 a4 df1).2.2.2.2.2.2.1.1 != v19)
    (bif v20 then
    (e2_0 v19 (-1))
    else
    (let v21 : Int := (IntKind.wrap .i64 (v19 + 1))
    (bif decide ((0 : Int) ≤ a4 ∧ a4 < (a5.length : Int)) then
    (let v23 : Bool := ((nthI a5 a4 df1).2.2.2.2.2.2.1.2 != (IntKind.wrap .u64 v21))
    (bif v23 then
    (e2_0 v21 (-1))
    else
    (let v24 : Int := (IntKind.wrap .i64 (v21 + 1))
    (bif decide ((0 : Int) ≤ a4 ∧ a4 < (a5.length : Int)) then
    (let v25 : Bool := ((nthI a5 a4 df1).2.2.2.2.2.2.2.1 != v24)
    (bif v25 then
    (e2_0 v24 (-1))
    else
    (let v26 : Int := (IntKind.wrap .i64 (v24 + 1))
    (bif decide ((0 : Int) ≤ a4 ∧ a4 < (a5.length : Int)) then
    (let v27 : Bool := ((nthI a5 a4 df1).2.2.2.2.2.2.2.2.1 != v26)
    (bif v27 then
    (e2_0 v26 (-1))
    else
    (bif decide ((0 : Int) ≤ a4 ∧ a4 < (a5.length : Int)) then
    (Option.bind (L.heldIntS (IntKind.wrap .i64 (v26 + 1)) ((nthI a5 a4 df1).2.2.2.2.2.2.2.2.2)) fun r29 =>
    (bif (decide (r29 < 0)) then
    (e2_0 r29 (-1))
    else
    (L.heldCellS_l0 m e2_0 e2_1 r29 (IntKind.wrap .i64 (a4 + 1)) a5)))
    else
    none)))
    else
    none))))
    else
    none))))
    else
    none))))
    else
    none))))
    else
    none))))
    else
    none))))
    else
    none))))
    else
    none))))
    else
    none))))
    else
    none)
    else
    (e2_1 a3))
noncomputable def L.heldCellS (a1 : Int) (a2 : List ty12) : Option Int :=
(L.heldCellS_l0 fu (fun y32 y33 =>
(some y33)) (fun y34 =>
(some y34)) a1 0 a2)
noncomputable def H15_2 : LoopH := ⟨⟨((.one (.sl 0)) :: hh :: (hu 3 (hh :: (hu 115 [])))), [], [(113, sh1, .ro)]⟩, ([2, 3, 4] ++ rg 6 115), [], ([0, 2, 3] ++ rg 5 116), [], [], [], []⟩
noncomputable def k15_2 : List PK := (ki 2 [.row sh1])
noncomputable def W15_2 (m : Nat) (k : Kont Int) : Cur k15_2 (Option Int) := L.heldCellS_l0 m (exF k .ret ⟨((.one (.unk)) :: hh :: (hu 2 (hh :: (hu 116 [])))), [], []⟩ (ki 2 [])) (exF k (.exit 0) ⟨((.one (.unk)) :: hh :: (hu 119 [])), [], []⟩ [.int .i64])
noncomputable def E15_2 (m : Nat) : List Prm → Kont Int → Option Int := eL k15_2 (W15_2 m)
theorem ev15_2 (m : Nat) (k : Kont Int) (a : Args k15_2) : evL Tryz.prog G15 loopNil c15_2 (turn Tryz.prog (0, 0) H15_2 (E15_2 m) k) (H15_2.sk.fl (encP k15_2 a)) = unc k15_2 (W15_2 (m + 1) k) a := by kernel_rfl
theorem ok15_2 (m : Nat) : LoopOk Tryz.prog (0, 0) c15_2 (enter Tryz.prog (0, 0) H15_2 (E15_2 m)) := loop_gen (Fl := W15_2) (G := G15) (L := loopNil) (envCons_good good60 envNil_good) (no_loops (c := c15_2) (by kernel_rfl)) (fun _ _ => by kernel_rfl) ev15_2 m
noncomputable def L15 : LEnv Int := (loopCons 2 (enter Tryz.prog (0, 0) H15_2 (E15_2 fu)) loopNil)
theorem lq15 : loopsOf c15 = [c15_2] := by kernel_rfl
theorem fr15_2 : firstReg c15_2 = some 2 := by kernel_rfl
theorem le15_2 : L15 2 = (enter Tryz.prog (0, 0) H15_2 (E15_2 fu)) := by kernel_rfl
theorem lm15 : ∀ x ∈ [c15_2], ∀ id, firstReg x = some id → LoopOk Tryz.prog (0, 0) x (L15 id) := (loops_cons fr15_2 le15_2 (ok15_2 fu) loops_nil)
theorem lp15 : ∀ x ∈ loopsOf c15, ∀ id, firstReg x = some id → LoopOk Tryz.prog (0, 0) x (L15 id) := loops_eq lq15 lm15
noncomputable def sg15 : Sg := ⟨⟨[.one (.sl 0), hh], [], [(113, sh1, .ro)]⟩, [.int .i64, .row sh1], ⟨[hh], [], []⟩, [.int .i64]⟩
noncomputable def E15 : Fun2 := eOf sg15 L.heldCellS
theorem ev15 (a : Args sg15.ks) : evS Tryz.prog G15 L15 (0, 0) [] Tryz.f15 c15 (kOf sg15) (sg15.sk.fl (encP sg15.ks a)) = unc sg15.ks L.heldCellS a := by kernel_rfl
theorem good15 : Vm.Good Tryz.prog 15 E15 := good_gen (G := G15) (L := L15) (c := c15) (rn := []) (N := (0, 0)) (envCons_good good60 envNil_good) lp15 Tryz.func15 (by kernel_rfl) (by kernel_rfl) (fun _ => by kernel_rfl) ev15
noncomputable def G3 : Env := (envCons 8 [] E8 (envCons 10 [] E10 (envCons 11 [] E11 (envConsS 9 [] E9 (envCons 12 [] E12 (envCons 13 [] E13 (envCons 14 [0] E14 (envCons 15 [] E15 envNil))))))))
noncomputable def c3 : Code := bodyOf Tryz.f3
noncomputable def L.FnExactCellsAdd (a1 a2 a3 a4 a5 a6 a7 a8 : Int) (a9 : List ty12) : Option Bool :=
(Option.bind (L.szCellS 1048576 a9) fun r10 =>
(bif (decide (r10 < 0)) then
(some true)
else
(Option.bind (L.toCellS a9) fun r12 =>
(Option.bind (L.toWinDef a2 a3 a4) fun r13 =>
(Option.bind (S.CellsAdd a1 r13.1 r13.2.1 r13.2.2 a5 a6 a7 a8 r12) fun r14 =>
(Option.bind (L.toCellS a9) fun r15 =>
(Option.bind (L.toWinDef a2 a3 a4) fun r16 =>
(Option.bind (I.CellsAdd a1 r16.1 r16.2.1 r16.2.2 a5 a6 a7 a8 r15) fun r17 =>
(Option.bind (L.eqCellS r17.2 r14.2) fun r18 =>
(bif (!r18) then
(some false)
else
(bif (!(r17.1 == r14.1)) then
(some false)
else
(Option.bind (L.toCellS a9) fun r20 =>
(Option.bind (L.eqCellS r15 r20) fun r21 =>
(bif (!r21) then
(some false)
else
(Option.bind (L.markCellS 1 r15) fun r22 =>
(bif (decide (r22.1 < 0)) then
(some false)
else
(Option.bind (L.eqCellS r17.2 r14.2) fun r24 =>
(bif (!r24) then
(some false)
else
(bif (!(r17.1 == r14.1)) then
(some false)
else
(Option.bind (L.markCellS 1 r17.2) fun r26 =>
(Option.bind (L.heldCellS 1 r26.2) fun r27 =>
(bif (decide (r27 < 0)) then
(some false)
else
(bif (r27 != r26.1) then
(some false)
else
(Option.bind (L.toCellS a9) fun r29 =>
(Option.bind (L.toWinDef a2 a3 a4) fun r30 =>
(Option.bind (I.CellsAdd a1 r30.1 r30.2.1 r30.2.2 a5 a6 a7 a8 r29) fun r31 =>
(Option.bind (L.eqCellS r31.2 r14.2) fun r32 =>
(bif (!r32) then
(some false)
else
(bif (!(r31.1 == r14.1)) then
(some false)
else
(Option.bind (L.heldCellS 1 r26.2) fun r34 =>
(bif (decide (r34 < 0)) then
(some false)
else
(bif (r34 != r26.1) then
(some false)
else
(some true)))))))))))))))))))))))))))))))))
noncomputable def sg3 : Sg := ⟨⟨[.one (.sl 0), hh, .agg (ho 3 []), hh, hh, hh, hh], [], [(101, sh1, .ro)]⟩, (ki 8 [.row sh1]), ⟨[hh], [], []⟩, [.bool]⟩
noncomputable def E3 : Fun2 := eOf sg3 L.FnExactCellsAdd
theorem ev3 (a : Args sg3.ks) : evS Tryz.prog G3 loopNil (0, 0) [] Tryz.f3 c3 (kOf sg3) (sg3.sk.fl (encP sg3.ks a)) = unc sg3.ks L.FnExactCellsAdd a := by kernel_rfl
theorem good3 : Vm.Good Tryz.prog 3 E3 := good_gen (G := G3) (L := loopNil) (c := c3) (rn := []) (N := (0, 0)) (envCons_good good8 (envCons_good good10 (envCons_good good11 (envConsS_good good9 (envCons_good good12 (envCons_good good13 (envCons_good good14 (envCons_good good15 envNil_good)))))))) (no_loops (c := c3) (by kernel_rfl)) Tryz.func3 (by kernel_rfl) (by kernel_rfl) (fun _ => by kernel_rfl) ev3
end Go.Proofs.YtmbcnpbgcfiafaaGreat.Run
