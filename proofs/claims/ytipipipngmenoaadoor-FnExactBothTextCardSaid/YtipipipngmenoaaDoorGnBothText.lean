import Derived.Test.YtipipipngmenoaaDoorVmXt
import Derived.Test.YtipipipngmenoaaDoorProg
namespace Go.Proofs.YtipipipngmenoaaDoor.Run
open Go Go.RowKit Go.Proofs.YtipipipngmenoaaDoorW.PrintWords Go.Proofs.YtipipipngmenoaaDoor.Vm
set_option linter.unusedVariables false
set_option maxRecDepth 100000
set_option maxHeartbeats 4000000


noncomputable def lit0 : ByteArray := ⟨#[]⟩
noncomputable def lit1 : ByteArray := ⟨#[47]⟩
noncomputable def lit2 : ByteArray := ⟨#[61]⟩
noncomputable def lit3 : ByteArray := ⟨#[44]⟩
noncomputable def lit4 : ByteArray := ⟨#[124]⟩
noncomputable def G25 : Env := envNil
noncomputable def c25 : Code := bodyOf Tryd.f25
noncomputable def L.szIntS (a1 : Int) (a2 : List Int) : Option Int :=
(let v4 : Int := (IntKind.wrap .i64 (a1 - (a2.length : Int)))
(bif (decide (v4 < 0)) then
(some (-1))
else
(some v4)))
noncomputable def sg25 : Sg := ⟨⟨[.one (.sl 0), hh], [], [(3, (.int .i64), .ro)]⟩, [.int .i64, .row (.int .i64)], ⟨[hh], [], []⟩, [.int .i64]⟩
noncomputable def E25 : Fun2 := eOf sg25 L.szIntS
theorem ev25 (a : Args sg25.ks) : evS Tryd.prog G25 loopNil (0, 0) [] Tryd.f25 c25 (kOf sg25) (sg25.sk.fl (encP sg25.ks a)) = unc sg25.ks L.szIntS a := by kernel_rfl
theorem good25 : Vm.Good Tryd.prog 25 E25 := good_gen (G := G25) (L := loopNil) (c := c25) (rn := []) (N := (0, 0)) envNil_good (no_loops (c := c25) (by kernel_rfl)) Tryd.func25 (by kernel_rfl) (by kernel_rfl) (fun _ => by kernel_rfl) ev25
noncomputable def G7 : Env := (envCons 25 [] E25 envNil)
noncomputable def c7 : Code := bodyOf Tryd.f7
noncomputable def L.szBoth (a1 a2 a3 a4 a5 a6 : Int) (a7 a8 : List Int) : Option Int :=
(Option.bind (L.szIntS a6 a7) fun r9 =>
(bif (decide (r9 < 0)) then
(some (-1))
else
(Option.bind (L.szIntS r9 a8) fun r11 =>
(bif (decide (r11 < 0)) then
(some (-1))
else
(some r11)))))
noncomputable def sg7 : Sg := ⟨⟨[.agg (ho 5 [.sl 0, .sl 1]), hh], [], [(3, (.int .i64), .ro), (3, (.int .i64), .ro)]⟩, (ki 6 [.row (.int .i64), .row (.int .i64)]), ⟨[hh], [], []⟩, [.int .i64]⟩
noncomputable def E7 : Fun2 := eOf sg7 L.szBoth
theorem ev7 (a : Args sg7.ks) : evS Tryd.prog G7 loopNil (0, 0) [] Tryd.f7 c7 (kOf sg7) (sg7.sk.fl (encP sg7.ks a)) = unc sg7.ks L.szBoth a := by kernel_rfl
theorem good7 : Vm.Good Tryd.prog 7 E7 := good_gen (G := G7) (L := loopNil) (c := c7) (rn := []) (N := (0, 0)) (envCons_good good25 envNil_good) (no_loops (c := c7) (by kernel_rfl)) Tryd.func7 (by kernel_rfl) (by kernel_rfl) (fun _ => by kernel_rfl) ev7
noncomputable def G27 : Env := envNil
noncomputable def c27 : Code := bodyOf Tryd.f27
noncomputable def c27_3 : Code := (loopsOf c27).getD 0 .skip
noncomputable def L.toIntS_l0 : Nat → (List Int → Option (List Int)) → Int → List Int → List Int → Option (List Int)
  | 0, _, _, _, _ => none
  | m + 1, e3_0, a4, a5, a6 =>
    (bif (decide (a4 < (a5.length : Int))) then
    (bif decide ((0 : Int) ≤ a4 ∧ a4 < (a5.length : Int)) then
    (bif decide ((0 : Int) ≤ a4 ∧ a4 < (a6.length : Int)) then
    (L.toIntS_l0 m e3_0 (IntKind.wrap .i64 (a4 + 1)) a5 (a6.set (Int.toNat a4) (nthI a5 a4 (0 : Int))))
    else
    none)
    else
    none)
    else
    (e3_0 a6))
noncomputable def L.toIntS (a1 : List Int) : Option (List Int) :=
(let v2 : Int := (a1.length : Int)
(bif decide ((0 : Int) ≤ v2 ∧ v2 ≤ v2 ∧ (8 : Int) * v2 ≤ 281474976710656 ∧ v2 ≤ 9223372036854775807) then
(L.toIntS_l0 fu (fun y11 =>
(some y11)) 0 a1 (List.replicate (Int.toNat v2) (0 : Int)))
else
none))
noncomputable def H27_3 : LoopH := ⟨⟨((.one (.sl 0)) :: (hu 2 ((.one (.sl 1)) :: hh :: (hu 17 [])))), [], [(3, (.int .i64), .ro), (3, (.int .i64), .own)]⟩, ([1, 2] ++ rg 5 17), [], ([0, 1] ++ rg 4 18), [], []⟩
noncomputable def k27_3 : List PK := [.int .i64, .row (.int .i64), .row (.int .i64)]
noncomputable def W27_3 (m : Nat) (k : Kont (List Int)) : Cur k27_3 (Option (List Int)) := L.toIntS_l0 m (exF k (.exit 0) ⟨(hu 3 ((.one (.sl 0)) :: (hu 18 []))), [], [(3, (.int .i64), .own)]⟩ [.row (.int .i64)])
noncomputable def E27_3 (m : Nat) : List Prm → Kont (List Int) → Option (List Int) := eL k27_3 (W27_3 m)
theorem ev27_3 (m : Nat) (k : Kont (List Int)) (a : Args k27_3) : evL Tryd.prog G27 loopNil c27_3 (turn Tryd.prog (0, 0) H27_3 (E27_3 m) k) (H27_3.sk.fl (encP k27_3 a)) = unc k27_3 (W27_3 (m + 1) k) a := by kernel_rfl
theorem ok27_3 (m : Nat) : LoopOk Tryd.prog (0, 0) c27_3 (enter Tryd.prog (0, 0) H27_3 (E27_3 m)) := loop_gen (Fl := W27_3) (G := G27) (L := loopNil) envNil_good (no_loops (c := c27_3) (by kernel_rfl)) (fun _ _ => by kernel_rfl) ev27_3 m
noncomputable def L27 : LEnv (List Int) := (loopCons 3 (enter Tryd.prog (0, 0) H27_3 (E27_3 fu)) loopNil)
theorem lq27 : loopsOf c27 = [c27_3] := by kernel_rfl
theorem fr27_3 : firstReg c27_3 = some 3 := by kernel_rfl
theorem le27_3 : L27 3 = enter Tryd.prog (0, 0) H27_3 (E27_3 fu) := by kernel_rfl
theorem lm27 : ∀ x ∈ [c27_3], ∀ id, firstReg x = some id → LoopOk Tryd.prog (0, 0) x (L27 id) := (loops_cons fr27_3 le27_3 (ok27_3 fu) loops_nil)
theorem lp27 : ∀ x ∈ loopsOf c27, ∀ id, firstReg x = some id → LoopOk Tryd.prog (0, 0) x (L27 id) := loops_eq lq27 lm27
noncomputable def sg27 : Sg := ⟨⟨[.one (.sl 0)], [], [(3, (.int .i64), .ro)]⟩, [.row (.int .i64)], ⟨[.one (.sl 0)], [], [(3, (.int .i64), .own)]⟩, [.row (.int .i64)]⟩
noncomputable def E27 : Fun2 := eOf sg27 L.toIntS
theorem ev27 (a : Args sg27.ks) : evS Tryd.prog G27 L27 (0, 0) [] Tryd.f27 c27 (kOf sg27) (sg27.sk.fl (encP sg27.ks a)) = unc sg27.ks L.toIntS a := by kernel_rfl
theorem good27 : Vm.Good Tryd.prog 27 E27 := good_gen (G := G27) (L := L27) (c := c27) (rn := []) (N := (0, 0)) envNil_good lp27 Tryd.func27 (by kernel_rfl) (by kernel_rfl) (fun _ => by kernel_rfl) ev27
noncomputable def G9 : Env := (envCons 27 [] E27 envNil)
noncomputable def c9 : Code := bodyOf Tryd.f9
noncomputable def L.toBoth (a1 a2 a3 a4 a5 : Int) (a6 a7 : List Int) : Option (Int × Int × Int × Int × Int × List Int × List Int) :=
(Option.bind (L.toIntS a6) fun r8 =>
(Option.bind (L.toIntS a7) fun r9 =>
(some (a1, a2, a3, a4, a5, r8, r9))))
noncomputable def sg9 : Sg := ⟨⟨[.agg (ho 5 [.sl 0, .sl 1])], [], [(3, (.int .i64), .ro), (3, (.int .i64), .ro)]⟩, (ki 5 [.row (.int .i64), .row (.int .i64)]), ⟨[.agg (ho 5 [.sl 0, .sl 1])], [], [(3, (.int .i64), .own), (3, (.int .i64), .own)]⟩, (ki 5 [.row (.int .i64), .row (.int .i64)])⟩
noncomputable def E9 : Fun2 := eOf sg9 L.toBoth
theorem ev9 (a : Args sg9.ks) : evS Tryd.prog G9 loopNil (0, 0) [] Tryd.f9 c9 (kOf sg9) (sg9.sk.fl (encP sg9.ks a)) = unc sg9.ks L.toBoth a := by kernel_rfl
theorem good9 : Vm.Good Tryd.prog 9 E9 := good_gen (G := G9) (L := loopNil) (c := c9) (rn := []) (N := (0, 0)) (envCons_good good27 envNil_good) (no_loops (c := c9) (by kernel_rfl)) Tryd.func9 (by kernel_rfl) (by kernel_rfl) (fun _ => by kernel_rfl) ev9
noncomputable def G49 : Env := envNil
noncomputable def c49 : Code := bodyOf Tryd.f49
noncomputable def S.WideOf (a1 : Int) : Option (Int × Int) :=
(bif (decide (a1 < 0)) then
(some ((-1), (IntKind.wrap .u64 a1)))
else
(some (0, (IntKind.wrap .u64 a1))))
noncomputable def sg49 : Sg := ⟨⟨[hh], [], []⟩, [.int .i64], ⟨[.agg (ho 2 [])], [], []⟩, [.int .i64, .int .u64]⟩
noncomputable def E49 : Fun2 := eOf sg49 S.WideOf
theorem ev49 (a : Args sg49.ks) : evS Tryd.prog G49 loopNil (0, 0) [] Tryd.f49 c49 (kOf sg49) (sg49.sk.fl (encP sg49.ks a)) = unc sg49.ks S.WideOf a := by kernel_rfl
theorem good49 : Vm.Good Tryd.prog 49 E49 := good_gen (G := G49) (L := loopNil) (c := c49) (rn := []) (N := (0, 0)) envNil_good (no_loops (c := c49) (by kernel_rfl)) Tryd.func49 (by kernel_rfl) (by kernel_rfl) (fun _ => by kernel_rfl) ev49
noncomputable def G70 : Env := envNil
noncomputable def c70 : Code := bodyOf Tryd.f70
noncomputable def c70_4 : Code := (loopsOf c70).getD 0 .skip
noncomputable def c70_10 : Code := (loopsOf c70).getD 1 .skip
noncomputable def S.l02Bits_l0 : Nat → (Int → Int → List Int → Option (List Int)) → Int → Int → Int → Int → List Int → Option (List Int)
  | 0, _, _, _, _, _, _ => none
  | m + 1, e4_0, a3, a4, a5, a6, a7 =>
    (bif (decide (a4 < 64)) then
    (bif decide (2 = 0) then
    none
    else
    (let v10 : Int := (IntKind.wrap .i64 (Int.tmod a3 2))
    (bif decide ((a7.length + [v10].length) * 8 ≤ 140737488355328) then
    (bif decide (2 = 0) then
    none
    else
    (S.l02Bits_l0 m e4_0 (IntKind.wrap .u64 (Int.tdiv a3 2)) (IntKind.wrap .i64 (a4 + 1)) a5 a6 (a7 ++ [v10])))
    else
    none)))
    else
    (e4_0 a5 a6 a7))
noncomputable def S.l02Bits_l1 : Nat → (List Int → Option (List Int)) → Int → Int → List Int → Option (List Int)
  | 0, _, _, _, _ => none
  | m + 1, e10_0, a17, a18, a19 =>
    (bif (decide (a18 < 64)) then
    (bif decide (2 = 0) then
    none
    else
    (let v22 : Int := (IntKind.wrap .i64 (Int.tmod a17 2))
    (bif decide ((a19.length + [v22].length) * 8 ≤ 140737488355328) then
    (bif decide (2 = 0) then
    none
    else
    (S.l02Bits_l1 m e10_0 (IntKind.wrap .u64 (Int.tdiv a17 2)) (IntKind.wrap .i64 (a18 + 1)) (a19 ++ [v22])))
    else
    none)))
    else
    (e10_0 a19))
noncomputable def S.l02Bits (a1 a2 : Int) : Option (List Int) :=
(S.l02Bits_l0 fu (fun y13 y14 y15 =>
(S.l02Bits_l1 fu (fun y25 =>
(some y25)) (IntKind.wrap .u64 y13) 0 y15)) a2 0 a1 a2 [])
noncomputable def H70_4 : LoopH := ⟨⟨((.one (.unk)) :: (.one (.ptr 0 0)) :: (.one (.unk)) :: (.one (.sl 0)) :: hh :: hh :: (hu 33 [])), [(93, (ho 2 []))], [(3, (.int .i64), .own)]⟩, ([0, 2] ++ rg 6 33), [], ([0] ++ rg 4 35), [], []⟩
noncomputable def k70_4 : List PK := ((.int .u64) :: (ki 2 [.int .u64, .row (.int .i64)]))
noncomputable def W70_4 (m : Nat) (k : Kont (List Int)) : Cur k70_4 (Option (List Int)) := S.l02Bits_l0 m (exF k (.exit 0) ⟨((.one (.unk)) :: (.one (.ptr 0 0)) :: (.one (.unk)) :: (.one (.sl 0)) :: (hu 35 [])), [(93, (ho 2 []))], [(3, (.int .i64), .own)]⟩ [.int .i64, .int .u64, .row (.int .i64)])
noncomputable def E70_4 (m : Nat) : List Prm → Kont (List Int) → Option (List Int) := eL k70_4 (W70_4 m)
theorem ev70_4 (m : Nat) (k : Kont (List Int)) (a : Args k70_4) : evL Tryd.prog G70 loopNil c70_4 (turn Tryd.prog (0, 0) H70_4 (E70_4 m) k) (H70_4.sk.fl (encP k70_4 a)) = unc k70_4 (W70_4 (m + 1) k) a := by kernel_rfl
theorem ok70_4 (m : Nat) : LoopOk Tryd.prog (0, 0) c70_4 (enter Tryd.prog (0, 0) H70_4 (E70_4 m)) := loop_gen (Fl := W70_4) (G := G70) (L := loopNil) envNil_good (no_loops (c := c70_4) (by kernel_rfl)) (fun _ _ => by kernel_rfl) ev70_4 m
noncomputable def H70_10 : LoopH := ⟨⟨(hu 3 ((.one (.sl 0)) :: (hu 2 (hh :: hh :: (hu 31 []))))), [], [(3, (.int .i64), .own)]⟩, ([0, 1, 2, 4, 5] ++ rg 8 31), [], ([0, 1] ++ rg 4 35), [], []⟩
noncomputable def k70_10 : List PK := [.int .u64, .int .i64, .row (.int .i64)]
noncomputable def W70_10 (m : Nat) (k : Kont (List Int)) : Cur k70_10 (Option (List Int)) := S.l02Bits_l1 m (exF k (.exit 2) ⟨(hu 3 ((.one (.sl 0)) :: (hu 35 []))), [], [(3, (.int .i64), .own)]⟩ [.row (.int .i64)])
noncomputable def E70_10 (m : Nat) : List Prm → Kont (List Int) → Option (List Int) := eL k70_10 (W70_10 m)
theorem ev70_10 (m : Nat) (k : Kont (List Int)) (a : Args k70_10) : evL Tryd.prog G70 loopNil c70_10 (turn Tryd.prog (0, 0) H70_10 (E70_10 m) k) (H70_10.sk.fl (encP k70_10 a)) = unc k70_10 (W70_10 (m + 1) k) a := by kernel_rfl
theorem ok70_10 (m : Nat) : LoopOk Tryd.prog (0, 0) c70_10 (enter Tryd.prog (0, 0) H70_10 (E70_10 m)) := loop_gen (Fl := W70_10) (G := G70) (L := loopNil) envNil_good (no_loops (c := c70_10) (by kernel_rfl)) (fun _ _ => by kernel_rfl) ev70_10 m
noncomputable def L70 : LEnv (List Int) := (loopCons 4 (enter Tryd.prog (0, 0) H70_4 (E70_4 fu)) (loopCons 10 (enter Tryd.prog (0, 0) H70_10 (E70_10 fu)) loopNil))
theorem lq70 : loopsOf c70 = [c70_4, c70_10] := by kernel_rfl
theorem fr70_4 : firstReg c70_4 = some 4 := by kernel_rfl
theorem le70_4 : L70 4 = enter Tryd.prog (0, 0) H70_4 (E70_4 fu) := by kernel_rfl
theorem fr70_10 : firstReg c70_10 = some 10 := by kernel_rfl
theorem le70_10 : L70 10 = enter Tryd.prog (0, 0) H70_10 (E70_10 fu) := by kernel_rfl
theorem lm70 : ∀ x ∈ [c70_4, c70_10], ∀ id, firstReg x = some id → LoopOk Tryd.prog (0, 0) x (L70 id) := (loops_cons fr70_4 le70_4 (ok70_4 fu) (loops_cons fr70_10 le70_10 (ok70_10 fu) loops_nil))
theorem lp70 : ∀ x ∈ loopsOf c70, ∀ id, firstReg x = some id → LoopOk Tryd.prog (0, 0) x (L70 id) := loops_eq lq70 lm70
noncomputable def sg70 : Sg := ⟨⟨[.agg (ho 2 [])], [], []⟩, [.int .i64, .int .u64], ⟨[.one (.sl 0)], [], [(3, (.int .i64), .own)]⟩, [.row (.int .i64)]⟩
noncomputable def E70 : Fun2 := eOf sg70 S.l02Bits
theorem ev70 (a : Args sg70.ks) : evS Tryd.prog G70 L70 (0, 0) [] Tryd.f70 c70 (kOf sg70) (sg70.sk.fl (encP sg70.ks a)) = unc sg70.ks S.l02Bits a := by kernel_rfl
theorem good70 : Vm.Good Tryd.prog 70 E70 := good_gen (G := G70) (L := L70) (c := c70) (rn := []) (N := (0, 0)) envNil_good lp70 Tryd.func70 (by kernel_rfl) (by kernel_rfl) (fun _ => by kernel_rfl) ev70
noncomputable def G81 : Env := envNil
noncomputable def c81 : Code := bodyOf Tryd.f81
noncomputable def S.WideAdd (a1 a2 a3 a4 : Int) : Option (Int × Int) :=
(let v5 : Int := (IntKind.wrap .u64 (a2 + a4))
(let v8 : Int := (IntKind.wrap .u64 ((IntKind.wrap .u64 a1) + (IntKind.wrap .u64 a3)))
(bif (decide (v5 < a2)) then
(some ((IntKind.wrap .i64 (IntKind.wrap .u64 (v8 + 1))), v5))
else
(some ((IntKind.wrap .i64 v8), v5)))))
noncomputable def sg81 : Sg := ⟨⟨[.agg (ho 2 []), .agg (ho 2 [])], [], []⟩, [.int .i64, .int .u64, .int .i64, .int .u64], ⟨[.agg (ho 2 [])], [], []⟩, [.int .i64, .int .u64]⟩
noncomputable def E81 : Fun2 := eOf sg81 S.WideAdd
theorem ev81 (a : Args sg81.ks) : evS Tryd.prog G81 loopNil (0, 0) [] Tryd.f81 c81 (kOf sg81) (sg81.sk.fl (encP sg81.ks a)) = unc sg81.ks S.WideAdd a := by kernel_rfl
theorem good81 : Vm.Good Tryd.prog 81 E81 := good_gen (G := G81) (L := loopNil) (c := c81) (rn := []) (N := (0, 0)) envNil_good (no_loops (c := c81) (by kernel_rfl)) Tryd.func81 (by kernel_rfl) (by kernel_rfl) (fun _ => by kernel_rfl) ev81
noncomputable def G71 : Env := (envCons 81 [] E81 envNil)
noncomputable def c71 : Code := bodyOf Tryd.f71
noncomputable def S.WideNeg (a1 a2 : Int) : Option (Int × Int) :=
(Option.bind (S.WideAdd (IntKind.wrap .i64 ((-1) - a1)) (IntKind.wrap .u64 (18446744073709551615 - a2)) 0 1) fun r5 =>
(some (r5.1, r5.2)))
noncomputable def sg71 : Sg := ⟨⟨[.agg (ho 2 [])], [], []⟩, [.int .i64, .int .u64], ⟨[.agg (ho 2 [])], [], []⟩, [.int .i64, .int .u64]⟩
noncomputable def E71 : Fun2 := eOf sg71 S.WideNeg
theorem ev71 (a : Args sg71.ks) : evS Tryd.prog G71 loopNil (0, 0) [] Tryd.f71 c71 (kOf sg71) (sg71.sk.fl (encP sg71.ks a)) = unc sg71.ks S.WideNeg a := by kernel_rfl
theorem good71 : Vm.Good Tryd.prog 71 E71 := good_gen (G := G71) (L := loopNil) (c := c71) (rn := []) (N := (0, 0)) (envCons_good good81 envNil_good) (no_loops (c := c71) (by kernel_rfl)) Tryd.func71 (by kernel_rfl) (by kernel_rfl) (fun _ => by kernel_rfl) ev71
noncomputable def G72 : Env := envNil
noncomputable def c72 : Code := bodyOf Tryd.f72
noncomputable def c72_4 : Code := (loopsOf c72).getD 0 .skip
noncomputable def S.l02Divide_l0 : Nat → (Int → List Int → Option (Int × List Int)) → Int → Int → Int → List Int → List Int → Option (Int × List Int)
  | 0, _, _, _, _, _, _ => none
  | m + 1, e4_0, a4, a5, a6, a7, a8 =>
    (bif (decide (0 ≤ a6)) then
    (bif decide ((0 : Int) ≤ a6 ∧ a6 < (a7.length : Int)) then
    (let v11 : Int := (IntKind.wrap .i64 ((IntKind.wrap .i64 (2 * a5)) + (nthI a7 a6 (0 : Int))))
    (bif (decide (a4 ≤ v11)) then
    (bif decide ((0 : Int) ≤ a6 ∧ a6 < (a8.length : Int)) then
    (S.l02Divide_l0 m e4_0 a4 (IntKind.wrap .i64 (v11 - a4)) (IntKind.wrap .i64 (a6 - 1)) a7 (a8.set (Int.toNat a6) 1))
    else
    none)
    else
    (S.l02Divide_l0 m e4_0 a4 v11 (IntKind.wrap .i64 (a6 - 1)) a7 a8)))
    else
    none)
    else
    (e4_0 a5 a8))
noncomputable def S.l02Divide (a1 : Int) (a2 : List Int) : Option (Int × List Int) :=
(bif decide ((0 : Int) ≤ 128 ∧ 128 ≤ 128 ∧ (8 : Int) * 128 ≤ 281474976710656 ∧ 128 ≤ 9223372036854775807) then
(S.l02Divide_l0 fu (fun y17 y18 =>
(some (y17, y18))) a1 0 127 a2 (List.replicate (Int.toNat 128) (0 : Int)))
else
none)
noncomputable def H72_4 : LoopH := ⟨⟨((.one (.sl 0)) :: hh :: (hu 4 ((.one (.sl 1)) :: hh :: hh :: (hu 23 [])))), [], [(3, (.int .i64), .ro), (3, (.int .i64), .own)]⟩, (rg 2 4 ++ rg 9 23), [], (rg 0 4 ++ rg 8 24), [], []⟩
noncomputable def k72_4 : List PK := (ki 3 [.row (.int .i64), .row (.int .i64)])
noncomputable def W72_4 (m : Nat) (k : Kont (Int × List Int)) : Cur k72_4 (Option (Int × List Int)) := S.l02Divide_l0 m (exF k (.exit 0) ⟨(hu 6 ((.one (.sl 0)) :: hh :: (hu 24 []))), [], [(3, (.int .i64), .own)]⟩ [.int .i64, .row (.int .i64)])
noncomputable def E72_4 (m : Nat) : List Prm → Kont (Int × List Int) → Option (Int × List Int) := eL k72_4 (W72_4 m)
theorem ev72_4 (m : Nat) (k : Kont (Int × List Int)) (a : Args k72_4) : evL Tryd.prog G72 loopNil c72_4 (turn Tryd.prog (0, 0) H72_4 (E72_4 m) k) (H72_4.sk.fl (encP k72_4 a)) = unc k72_4 (W72_4 (m + 1) k) a := by kernel_rfl
theorem ok72_4 (m : Nat) : LoopOk Tryd.prog (0, 0) c72_4 (enter Tryd.prog (0, 0) H72_4 (E72_4 m)) := loop_gen (Fl := W72_4) (G := G72) (L := loopNil) envNil_good (no_loops (c := c72_4) (by kernel_rfl)) (fun _ _ => by kernel_rfl) ev72_4 m
noncomputable def L72 : LEnv (Int × List Int) := (loopCons 4 (enter Tryd.prog (0, 0) H72_4 (E72_4 fu)) loopNil)
theorem lq72 : loopsOf c72 = [c72_4] := by kernel_rfl
theorem fr72_4 : firstReg c72_4 = some 4 := by kernel_rfl
theorem le72_4 : L72 4 = enter Tryd.prog (0, 0) H72_4 (E72_4 fu) := by kernel_rfl
theorem lm72 : ∀ x ∈ [c72_4], ∀ id, firstReg x = some id → LoopOk Tryd.prog (0, 0) x (L72 id) := (loops_cons fr72_4 le72_4 (ok72_4 fu) loops_nil)
theorem lp72 : ∀ x ∈ loopsOf c72, ∀ id, firstReg x = some id → LoopOk Tryd.prog (0, 0) x (L72 id) := loops_eq lq72 lm72
noncomputable def sg72 : Sg := ⟨⟨[.one (.sl 0), hh], [], [(3, (.int .i64), .ro)]⟩, [.int .i64, .row (.int .i64)], ⟨[.one (.sl 0), hh], [], [(3, (.int .i64), .own)]⟩, [.int .i64, .row (.int .i64)]⟩
noncomputable def E72 : Fun2 := eOf sg72 S.l02Divide
theorem ev72 (a : Args sg72.ks) : evS Tryd.prog G72 L72 (0, 0) [] Tryd.f72 c72 (kOf sg72) (sg72.sk.fl (encP sg72.ks a)) = unc sg72.ks S.l02Divide a := by kernel_rfl
theorem good72 : Vm.Good Tryd.prog 72 E72 := good_gen (G := G72) (L := L72) (c := c72) (rn := []) (N := (0, 0)) envNil_good lp72 Tryd.func72 (by kernel_rfl) (by kernel_rfl) (fun _ => by kernel_rfl) ev72
noncomputable def G48 : Env := (envCons 70 [] E70 (envCons 71 [] E71 (envCons 72 [] E72 envNil)))
noncomputable def c48 : Code := bodyOf Tryd.f48
noncomputable def c48_6 : Code := (loopsOf c48).getD 0 .skip
noncomputable def c48_12 : Code := (loopsOf c48_6).getD 0 .skip
noncomputable def S.WideText_l1 : Nat → (Bool → Int → Int → List Int → List Int → Option ByteArray) → Bool → Int → Int → Int → List Int → List Int → Option ByteArray
  | 0, _, _, _, _, _, _, _ => none
  | m + 1, e12_0, a15, a16, a17, a18, a19, a20 =>
    (bif (decide (a16 < 128)) then
    (bif a15 then
    (S.WideText_l1 m e12_0 true (IntKind.wrap .i64 (a16 + 1)) a17 a18 a19 a20)
    else
    (bif decide ((0 : Int) ≤ a16 ∧ a16 < (a19.length : Int)) then
    (S.WideText_l1 m e12_0 ((nthI a19 a16 (0 : Int)) == 1) (IntKind.wrap .i64 (a16 + 1)) a17 a18 a19 a20)
    else
    none))
    else
    (e12_0 a15 a17 a18 a19 a20))
noncomputable def S.WideText_l0 : Nat → (Int → Int → List Int → Option ByteArray) → Bool → Int → Int → List Int → List Int → Option ByteArray
  | 0, _, _, _, _, _, _ => none
  | m + 1, e6_0, a7, a8, a9, a10, a11 =>
    (bif a7 then
    (Option.bind (S.l02Divide 10 a10) fun r12 =>
    (let v14 : Int := (IntKind.wrap .u8 (IntKind.wrap .i64 (48 + r12.1)))
    (bif decide (([v14].length + a11.length) * 1 ≤ 140737488355328) then
    (S.WideText_l1 fu (fun y25 y26 y27 y28 y29 =>
    (S.WideText_l0 m e6_0 y25 y26 y27 y28 y29)) false 0 a8 a9 r12.2 ([v14] ++ a11))
    else
    none)))
    else
    (e6_0 a8 a9 a11))
noncomputable def S.WideText (a1 a2 : Int) : Option ByteArray :=
(Option.bind (S.l02Bits a1 a2) fun r3 =>
(bif (decide (a1 < 0)) then
(Option.bind (S.WideNeg a1 a2) fun r5 =>
(Option.bind (S.l02Bits r5.1 r5.2) fun r6 =>
(S.WideText_l0 fu (fun y30 y31 y32 =>
(bif (decide (y30 < 0)) then
(bif decide (([45].length + y32.length) * 1 ≤ 140737488355328) then
(some (strOfNums ([45] ++ y32)))
else
none)
else
(some (strOfNums y32)))) true a1 a2 r6 [])))
else
(S.WideText_l0 fu (fun y36 y37 y38 =>
(bif (decide (y36 < 0)) then
(bif decide (([45].length + y38.length) * 1 ≤ 140737488355328) then
(some (strOfNums ([45] ++ y38)))
else
none)
else
(some (strOfNums y38)))) true a1 a2 r3 [])))
noncomputable def H48_12 : LoopH := ⟨⟨((.one (.unk)) :: (.one (.ptr 0 0)) :: (.one (.unk)) :: (.one (.sl 0)) :: (.one (.sl 1)) :: hh :: (hu 2 (hh :: (hu 42 [])))), [(93, (ho 2 []))], [(3, (.int .i64), .own), (5, (.int .u8), .own)]⟩, ([0, 2, 6, 7] ++ rg 9 42), [], ([0] ++ rg 6 45), [], []⟩
noncomputable def k48_12 : List PK := ((.bool) :: (ki 2 [.int .u64, .row (.int .i64), .row (.int .u8)]))
noncomputable def W48_12 (m : Nat) (k : Kont ByteArray) : Cur k48_12 (Option ByteArray) := S.WideText_l1 m (exF k (.exit 2) ⟨((.one (.unk)) :: (.one (.ptr 0 0)) :: (.one (.unk)) :: (.one (.sl 0)) :: (.one (.sl 1)) :: hh :: (hu 45 [])), [(93, (ho 2 []))], [(3, (.int .i64), .own), (5, (.int .u8), .own)]⟩ [.bool, .int .i64, .int .u64, .row (.int .i64), .row (.int .u8)])
noncomputable def E48_12 (m : Nat) : List Prm → Kont ByteArray → Option ByteArray := eL k48_12 (W48_12 m)
theorem ev48_12 (m : Nat) (k : Kont ByteArray) (a : Args k48_12) : evL Tryd.prog G48 loopNil c48_12 (turn Tryd.prog (0, 0) H48_12 (E48_12 m) k) (H48_12.sk.fl (encP k48_12 a)) = unc k48_12 (W48_12 (m + 1) k) a := by kernel_rfl
theorem ok48_12 (m : Nat) : LoopOk Tryd.prog (0, 0) c48_12 (enter Tryd.prog (0, 0) H48_12 (E48_12 m)) := loop_gen (Fl := W48_12) (G := G48) (L := loopNil) (envCons_good good70 (envCons_good good71 (envCons_good good72 envNil_good))) (no_loops (c := c48_12) (by kernel_rfl)) (fun _ _ => by kernel_rfl) ev48_12 m
noncomputable def L48_6 : LEnv ByteArray := (loopCons 12 (enter Tryd.prog (0, 0) H48_12 (E48_12 fu)) loopNil)
theorem lq48_6 : loopsOf c48_6 = [c48_12] := by kernel_rfl
theorem fr48_12 : firstReg c48_12 = some 12 := by kernel_rfl
theorem le48_12 : L48_6 12 = enter Tryd.prog (0, 0) H48_12 (E48_12 fu) := by kernel_rfl
theorem lm48_6 : ∀ x ∈ [c48_12], ∀ id, firstReg x = some id → LoopOk Tryd.prog (0, 0) x (L48_6 id) := (loops_cons fr48_12 le48_12 (ok48_12 fu) loops_nil)
theorem lp48_6 : ∀ x ∈ loopsOf c48_6, ∀ id, firstReg x = some id → LoopOk Tryd.prog (0, 0) x (L48_6 id) := loops_eq lq48_6 lm48_6
noncomputable def H48_6 : LoopH := ⟨⟨((.one (.unk)) :: (.one (.ptr 0 0)) :: (.one (.unk)) :: (.one (.sl 0)) :: (.one (.sl 1)) :: hh :: (hu 45 [])), [(93, (ho 2 []))], [(3, (.int .i64), .own), (5, (.int .u8), .own)]⟩, ([0, 2] ++ rg 6 45), [], ([0, 3] ++ rg 5 46), [], []⟩
noncomputable def k48_6 : List PK := [.bool, .int .i64, .int .u64, .row (.int .i64), .row (.int .u8)]
noncomputable def W48_6 (m : Nat) (k : Kont ByteArray) : Cur k48_6 (Option ByteArray) := S.WideText_l0 m (exF k (.exit 0) ⟨((.one (.unk)) :: (.one (.ptr 0 0)) :: (hu 2 ((.one (.sl 0)) :: (hu 46 [])))), [(93, (ho 2 []))], [(5, (.int .u8), .own)]⟩ [.int .i64, .int .u64, .row (.int .u8)])
noncomputable def E48_6 (m : Nat) : List Prm → Kont ByteArray → Option ByteArray := eL k48_6 (W48_6 m)
theorem ev48_6 (m : Nat) (k : Kont ByteArray) (a : Args k48_6) : evL Tryd.prog G48 L48_6 c48_6 (turn Tryd.prog (0, 0) H48_6 (E48_6 m) k) (H48_6.sk.fl (encP k48_6 a)) = unc k48_6 (W48_6 (m + 1) k) a := by kernel_rfl
theorem ok48_6 (m : Nat) : LoopOk Tryd.prog (0, 0) c48_6 (enter Tryd.prog (0, 0) H48_6 (E48_6 m)) := loop_gen (Fl := W48_6) (G := G48) (L := L48_6) (envCons_good good70 (envCons_good good71 (envCons_good good72 envNil_good))) lp48_6 (fun _ _ => by kernel_rfl) ev48_6 m
noncomputable def L48 : LEnv ByteArray := (loopCons 6 (enter Tryd.prog (0, 0) H48_6 (E48_6 fu)) loopNil)
theorem lq48 : loopsOf c48 = [c48_6] := by kernel_rfl
theorem fr48_6 : firstReg c48_6 = some 6 := by kernel_rfl
theorem le48_6 : L48 6 = enter Tryd.prog (0, 0) H48_6 (E48_6 fu) := by kernel_rfl
theorem lm48 : ∀ x ∈ [c48_6], ∀ id, firstReg x = some id → LoopOk Tryd.prog (0, 0) x (L48 id) := (loops_cons fr48_6 le48_6 (ok48_6 fu) loops_nil)
theorem lp48 : ∀ x ∈ loopsOf c48, ∀ id, firstReg x = some id → LoopOk Tryd.prog (0, 0) x (L48 id) := loops_eq lq48 lm48
noncomputable def sg48 : Sg := ⟨⟨[.agg (ho 2 [])], [], []⟩, [.int .i64, .int .u64], ⟨[hh], [], []⟩, [.str]⟩
noncomputable def E48 : Fun2 := eOf sg48 S.WideText
theorem ev48 (a : Args sg48.ks) : evS Tryd.prog G48 L48 (0, 0) [] Tryd.f48 c48 (kOf sg48) (sg48.sk.fl (encP sg48.ks a)) = unc sg48.ks S.WideText a := by kernel_rfl
theorem good48 : Vm.Good Tryd.prog 48 E48 := good_gen (G := G48) (L := L48) (c := c48) (rn := []) (N := (0, 0)) (envCons_good good70 (envCons_good good71 (envCons_good good72 envNil_good))) lp48 Tryd.func48 (by kernel_rfl) (by kernel_rfl) (fun _ => by kernel_rfl) ev48
noncomputable def G32 : Env := (envCons 49 [] E49 (envCons 48 [] E48 envNil))
noncomputable def c32 : Code := bodyOf Tryd.f32
noncomputable def S.l03Num (a1 : Int) : Option ByteArray :=
(Option.bind (S.WideOf a1) fun r2 =>
(Option.bind (S.WideText r2.1 r2.2) fun r3 =>
(some r3)))
noncomputable def sg32 : Sg := ⟨⟨[hh], [], []⟩, [.int .i64], ⟨[hh], [], []⟩, [.str]⟩
noncomputable def E32 : Fun2 := eOf sg32 S.l03Num
theorem ev32 (a : Args sg32.ks) : evS Tryd.prog G32 loopNil (0, 0) [] Tryd.f32 c32 (kOf sg32) (sg32.sk.fl (encP sg32.ks a)) = unc sg32.ks S.l03Num a := by kernel_rfl
theorem good32 : Vm.Good Tryd.prog 32 E32 := good_gen (G := G32) (L := loopNil) (c := c32) (rn := []) (N := (0, 0)) (envCons_good good49 (envCons_good good48 envNil_good)) (no_loops (c := c32) (by kernel_rfl)) Tryd.func32 (by kernel_rfl) (by kernel_rfl) (fun _ => by kernel_rfl) ev32
noncomputable def G26 : Env := (envCons 32 [] E32 envNil)
noncomputable def c26 : Code := bodyOf Tryd.f26
noncomputable def c26_3 : Code := (loopsOf c26).getD 0 .skip
noncomputable def S.l14Join_l0 : Nat → (ByteArray → Option ByteArray) → ByteArray → ByteArray → Int → List Int → Option ByteArray
  | 0, _, _, _, _, _ => none
  | m + 1, e3_0, a3, a4, a5, a6 =>
    (bif (decide (a5 < (a6.length : Int))) then
    (bif (decide (0 < a5)) then
    (bif decide (((a4.size + a3.size : Nat) : Int) ≤ IntKind.max .i64) then
    (bif decide ((0 : Int) ≤ a5 ∧ a5 < (a6.length : Int)) then
    (Option.bind (S.l03Num (nthI a6 a5 (0 : Int))) fun r10 =>
    (bif decide ((((a4 ++ a3).size + r10.size : Nat) : Int) ≤ IntKind.max .i64) then
    (S.l14Join_l0 m e3_0 a3 ((a4 ++ a3) ++ r10) (IntKind.wrap .i64 (a5 + 1)) a6)
    else
    none))
    else
    none)
    else
    none)
    else
    (bif decide ((0 : Int) ≤ a5 ∧ a5 < (a6.length : Int)) then
    (Option.bind (S.l03Num (nthI a6 a5 (0 : Int))) fun r13 =>
    (bif decide (((a4.size + r13.size : Nat) : Int) ≤ IntKind.max .i64) then
    (S.l14Join_l0 m e3_0 a3 (a4 ++ r13) (IntKind.wrap .i64 (a5 + 1)) a6)
    else
    none))
    else
    none))
    else
    (e3_0 a4))
noncomputable def S.l14Join (a1 : ByteArray) (a2 : List Int) : Option ByteArray :=
(S.l14Join_l0 fu (fun y15 =>
(some y15)) a1 lit0 0 a2)
noncomputable def H26_3 : LoopH := ⟨⟨((.one (.sl 0)) :: hh :: (hu 3 (hh :: hh :: (hu 19 [])))), [], [(3, (.int .i64), .ro)]⟩, ([2, 3, 4] ++ rg 7 19), [], (rg 0 4 ++ rg 6 20), [], []⟩
noncomputable def k26_3 : List PK := [.str, .str, .int .i64, .row (.int .i64)]
noncomputable def W26_3 (m : Nat) (k : Kont ByteArray) : Cur k26_3 (Option ByteArray) := S.l14Join_l0 m (exF k (.exit 0) ⟨(hu 5 (hh :: (hu 20 []))), [], []⟩ [.str])
noncomputable def E26_3 (m : Nat) : List Prm → Kont ByteArray → Option ByteArray := eL k26_3 (W26_3 m)
theorem ev26_3 (m : Nat) (k : Kont ByteArray) (a : Args k26_3) : evL Tryd.prog G26 loopNil c26_3 (turn Tryd.prog (0, 0) H26_3 (E26_3 m) k) (H26_3.sk.fl (encP k26_3 a)) = unc k26_3 (W26_3 (m + 1) k) a := by kernel_rfl
theorem ok26_3 (m : Nat) : LoopOk Tryd.prog (0, 0) c26_3 (enter Tryd.prog (0, 0) H26_3 (E26_3 m)) := loop_gen (Fl := W26_3) (G := G26) (L := loopNil) (envCons_good good32 envNil_good) (no_loops (c := c26_3) (by kernel_rfl)) (fun _ _ => by kernel_rfl) ev26_3 m
noncomputable def L26 : LEnv ByteArray := (loopCons 3 (enter Tryd.prog (0, 0) H26_3 (E26_3 fu)) loopNil)
theorem lq26 : loopsOf c26 = [c26_3] := by kernel_rfl
theorem fr26_3 : firstReg c26_3 = some 3 := by kernel_rfl
theorem le26_3 : L26 3 = enter Tryd.prog (0, 0) H26_3 (E26_3 fu) := by kernel_rfl
theorem lm26 : ∀ x ∈ [c26_3], ∀ id, firstReg x = some id → LoopOk Tryd.prog (0, 0) x (L26 id) := (loops_cons fr26_3 le26_3 (ok26_3 fu) loops_nil)
theorem lp26 : ∀ x ∈ loopsOf c26, ∀ id, firstReg x = some id → LoopOk Tryd.prog (0, 0) x (L26 id) := loops_eq lq26 lm26
noncomputable def sg26 : Sg := ⟨⟨[.one (.sl 0), hh], [], [(3, (.int .i64), .ro)]⟩, [.str, .row (.int .i64)], ⟨[hh], [], []⟩, [.str]⟩
noncomputable def E26 : Fun2 := eOf sg26 S.l14Join
theorem ev26 (a : Args sg26.ks) : evS Tryd.prog G26 L26 (0, 0) [] Tryd.f26 c26 (kOf sg26) (sg26.sk.fl (encP sg26.ks a)) = unc sg26.ks S.l14Join a := by kernel_rfl
theorem good26 : Vm.Good Tryd.prog 26 E26 := good_gen (G := G26) (L := L26) (c := c26) (rn := []) (N := (0, 0)) (envCons_good good32 envNil_good) lp26 Tryd.func26 (by kernel_rfl) (by kernel_rfl) (fun _ => by kernel_rfl) ev26
noncomputable def G8 : Env := (envCons 26 [] E26 envNil)
noncomputable def c8 : Code := bodyOf Tryd.f8
noncomputable def S.BothText (a1 a2 a3 a4 a5 : Int) (a6 a7 : List Int) : Option ByteArray :=
(Option.bind (S.l14Join lit1 [a1, a2, a3, a4, a5]) fun r9 =>
(bif decide (((r9.size + lit2.size : Nat) : Int) ≤ IntKind.max .i64) then
(Option.bind (S.l14Join lit3 a6) fun r10 =>
(bif decide ((((r9 ++ lit2).size + r10.size : Nat) : Int) ≤ IntKind.max .i64) then
(let v11 : ByteArray := ((r9 ++ lit2) ++ r10)
(bif decide (((v11.size + lit4.size : Nat) : Int) ≤ IntKind.max .i64) then
(Option.bind (S.l14Join lit3 a7) fun r12 =>
(bif decide ((((v11 ++ lit4).size + r12.size : Nat) : Int) ≤ IntKind.max .i64) then
(some ((v11 ++ lit4) ++ r12))
else
none))
else
none))
else
none))
else
none))
noncomputable def sg8 : Sg := ⟨⟨[.agg (ho 5 [.sl 0, .sl 1])], [], [(3, (.int .i64), .ro), (3, (.int .i64), .ro)]⟩, (ki 5 [.row (.int .i64), .row (.int .i64)]), ⟨[hh], [], []⟩, [.str]⟩
noncomputable def E8 : Fun2 := eOf sg8 S.BothText
theorem ev8 (a : Args sg8.ks) : evS Tryd.prog G8 loopNil (0, 0) [] Tryd.f8 c8 (kOf sg8) (sg8.sk.fl (encP sg8.ks a)) = unc sg8.ks S.BothText a := by kernel_rfl
theorem good8 : Vm.Good Tryd.prog 8 E8 := good_gen (G := G8) (L := loopNil) (c := c8) (rn := []) (N := (0, 0)) (envCons_good good26 envNil_good) (no_loops (c := c8) (by kernel_rfl)) Tryd.func8 (by kernel_rfl) (by kernel_rfl) (fun _ => by kernel_rfl) ev8
noncomputable def G28 : Env := (envCons 45 [] E45 (envCons 46 [] E46 envNil))
noncomputable def c28 : Code := bodyOf Tryd.f28
noncomputable def c28_3 : Code := (loopsOf c28).getD 0 .skip
noncomputable def I.numbersText_l0 : Nat → (ByteArray → List ByteArray → Option ByteArray) → ByteArray → Int → Int → List ByteArray → List Int → Option ByteArray
  | 0, _, _, _, _, _, _ => none
  | m + 1, e3_0, a4, a5, a6, a7, a8 =>
    (bif (decide (a6 < a5)) then
    (bif decide ((0 : Int) ≤ a6 ∧ a6 < (a8.length : Int)) then
    (Option.bind (X.itoa (nthI a8 a6 (0 : Int))) fun r11 =>
    (bif decide ((a7.length + [r11].length) * 16 ≤ 140737488355328) then
    (I.numbersText_l0 m e3_0 a4 a5 (IntKind.wrap .i64 (a6 + 1)) (a7 ++ [r11]) a8)
    else
    none))
    else
    none)
    else
    (e3_0 a4 a7))
noncomputable def I.numbersText (a1 : ByteArray) (a2 : List Int) : Option ByteArray :=
(I.numbersText_l0 fu (fun y13 y14 =>
(Option.bind (X.join y13 y14) fun r15 =>
(some r15))) a1 (a2.length : Int) 0 [] a2)
noncomputable def H28_3 : LoopH := ⟨⟨((.one (.unk)) :: hh :: (hu 3 ((.one (.sl 0)) :: (hu 3 ((.one (.sl 1)) :: hh :: hh :: (hu 12 [])))))), [], [(9, .str, .own), (3, (.int .i64), .ro)]⟩, ([0, 2, 3, 4, 6, 7, 8] ++ rg 12 12), [], ([0, 2, 3] ++ rg 6 18), [], []⟩
noncomputable def k28_3 : List PK := ((.str) :: (ki 2 [.row (.str), .row (.int .i64)]))
noncomputable def W28_3 (m : Nat) (k : Kont ByteArray) : Cur k28_3 (Option ByteArray) := I.numbersText_l0 m (exF k (.exit 0) ⟨((.one (.unk)) :: hh :: (hu 3 ((.one (.sl 0)) :: (hu 18 [])))), [], [(9, .str, .own)]⟩ [.str, .row (.str)])
noncomputable def E28_3 (m : Nat) : List Prm → Kont ByteArray → Option ByteArray := eL k28_3 (W28_3 m)
theorem ev28_3 (m : Nat) (k : Kont ByteArray) (a : Args k28_3) : evL Tryd.prog G28 loopNil c28_3 (turn Tryd.prog (0, 0) H28_3 (E28_3 m) k) (H28_3.sk.fl (encP k28_3 a)) = unc k28_3 (W28_3 (m + 1) k) a := by kernel_rfl
theorem ok28_3 (m : Nat) : LoopOk Tryd.prog (0, 0) c28_3 (enter Tryd.prog (0, 0) H28_3 (E28_3 m)) := loop_gen (Fl := W28_3) (G := G28) (L := loopNil) (envCons_good good45 (envCons_good good46 envNil_good)) (no_loops (c := c28_3) (by kernel_rfl)) (fun _ _ => by kernel_rfl) ev28_3 m
noncomputable def L28 : LEnv ByteArray := (loopCons 3 (enter Tryd.prog (0, 0) H28_3 (E28_3 fu)) loopNil)
theorem lq28 : loopsOf c28 = [c28_3] := by kernel_rfl
theorem fr28_3 : firstReg c28_3 = some 3 := by kernel_rfl
theorem le28_3 : L28 3 = enter Tryd.prog (0, 0) H28_3 (E28_3 fu) := by kernel_rfl
theorem lm28 : ∀ x ∈ [c28_3], ∀ id, firstReg x = some id → LoopOk Tryd.prog (0, 0) x (L28 id) := (loops_cons fr28_3 le28_3 (ok28_3 fu) loops_nil)
theorem lp28 : ∀ x ∈ loopsOf c28, ∀ id, firstReg x = some id → LoopOk Tryd.prog (0, 0) x (L28 id) := loops_eq lq28 lm28
noncomputable def sg28 : Sg := ⟨⟨[.one (.sl 0), hh], [], [(3, (.int .i64), .ro)]⟩, [.str, .row (.int .i64)], ⟨[hh], [], []⟩, [.str]⟩
noncomputable def E28 : Fun2 := eOf sg28 I.numbersText
theorem ev28 (a : Args sg28.ks) : evS Tryd.prog G28 L28 (0, 0) [] Tryd.f28 c28 (kOf sg28) (sg28.sk.fl (encP sg28.ks a)) = unc sg28.ks I.numbersText a := by kernel_rfl
theorem good28 : Vm.Good Tryd.prog 28 E28 := good_gen (G := G28) (L := L28) (c := c28) (rn := []) (N := (0, 0)) (envCons_good good45 (envCons_good good46 envNil_good)) lp28 Tryd.func28 (by kernel_rfl) (by kernel_rfl) (fun _ => by kernel_rfl) ev28
noncomputable def G10 : Env := (envCons 28 [] E28 envNil)
noncomputable def c10 : Code := bodyOf Tryd.f10
noncomputable def I.BothText (a1 a2 a3 a4 a5 : Int) (a6 a7 : List Int) : Option ByteArray :=
(Option.bind (I.numbersText lit1 [a1, a2, a3, a4, a5]) fun r9 =>
(bif decide (((r9.size + lit2.size : Nat) : Int) ≤ IntKind.max .i64) then
(Option.bind (I.numbersText lit3 a6) fun r10 =>
(bif decide ((((r9 ++ lit2).size + r10.size : Nat) : Int) ≤ IntKind.max .i64) then
(let v11 : ByteArray := ((r9 ++ lit2) ++ r10)
(bif decide (((v11.size + lit4.size : Nat) : Int) ≤ IntKind.max .i64) then
(Option.bind (I.numbersText lit3 a7) fun r12 =>
(bif decide ((((v11 ++ lit4).size + r12.size : Nat) : Int) ≤ IntKind.max .i64) then
(some ((v11 ++ lit4) ++ r12))
else
none))
else
none))
else
none))
else
none))
noncomputable def sg10 : Sg := ⟨⟨[.agg (ho 5 [.sl 0, .sl 1])], [], [(3, (.int .i64), .ro), (3, (.int .i64), .ro)]⟩, (ki 5 [.row (.int .i64), .row (.int .i64)]), ⟨[hh], [], []⟩, [.str]⟩
noncomputable def E10 : Fun2 := eOf sg10 I.BothText
theorem ev10 (a : Args sg10.ks) : evS Tryd.prog G10 loopNil (0, 0) [] Tryd.f10 c10 (kOf sg10) (sg10.sk.fl (encP sg10.ks a)) = unc sg10.ks I.BothText a := by kernel_rfl
theorem good10 : Vm.Good Tryd.prog 10 E10 := good_gen (G := G10) (L := loopNil) (c := c10) (rn := []) (N := (0, 0)) (envCons_good good28 envNil_good) (no_loops (c := c10) (by kernel_rfl)) Tryd.func10 (by kernel_rfl) (by kernel_rfl) (fun _ => by kernel_rfl) ev10
noncomputable def G29 : Env := envNil
noncomputable def c29 : Code := bodyOf Tryd.f29
noncomputable def c29_4 : Code := (loopsOf c29).getD 0 .skip
noncomputable def L.eqIntS_l0 : Nat → (Bool → Option Bool) → (Option Bool) → Int → List Int → List Int → Option Bool
  | 0, _, _, _, _, _ => none
  | m + 1, e4_0, e4_1, a5, a6, a7 =>
    (bif (decide (a5 < (a6.length : Int))) then
    (bif decide ((0 : Int) ≤ a5 ∧ a5 < (a6.length : Int)) then
    (bif decide ((0 : Int) ≤ a5 ∧ a5 < (a7.length : Int)) then
    (bif ((nthI a6 a5 (0 : Int)) != (nthI a7 a5 (0 : Int))) then
    (e4_0 false)
    else
    (L.eqIntS_l0 m e4_0 e4_1 (IntKind.wrap .i64 (a5 + 1)) a6 a7))
    else
    none)
    else
    none)
    else
    e4_1)
noncomputable def L.eqIntS (a1 a2 : List Int) : Option Bool :=
(bif ((a1.length : Int) != (a2.length : Int)) then
(some false)
else
(L.eqIntS_l0 fu (fun y12 =>
(some y12)) (some true) 0 a1 a2))
noncomputable def H29_4 : LoopH := ⟨⟨((.one (.sl 0)) :: (.one (.sl 1)) :: (hu 3 (hh :: (hu 20 [])))), [], [(3, (.int .i64), .ro), (3, (.int .i64), .ro)]⟩, ([2, 3, 4] ++ rg 6 20), [], (rg 0 4 ++ rg 5 21), [], []⟩
noncomputable def k29_4 : List PK := [.int .i64, .row (.int .i64), .row (.int .i64)]
noncomputable def W29_4 (m : Nat) (k : Kont Bool) : Cur k29_4 (Option Bool) := L.eqIntS_l0 m (exF k .ret ⟨(hu 4 (hh :: (hu 21 []))), [], []⟩ [.bool]) (exF k (.exit 0) ⟨(hu 26 []), [], []⟩ [])
noncomputable def E29_4 (m : Nat) : List Prm → Kont Bool → Option Bool := eL k29_4 (W29_4 m)
theorem ev29_4 (m : Nat) (k : Kont Bool) (a : Args k29_4) : evL Tryd.prog G29 loopNil c29_4 (turn Tryd.prog (0, 0) H29_4 (E29_4 m) k) (H29_4.sk.fl (encP k29_4 a)) = unc k29_4 (W29_4 (m + 1) k) a := by kernel_rfl
theorem ok29_4 (m : Nat) : LoopOk Tryd.prog (0, 0) c29_4 (enter Tryd.prog (0, 0) H29_4 (E29_4 m)) := loop_gen (Fl := W29_4) (G := G29) (L := loopNil) envNil_good (no_loops (c := c29_4) (by kernel_rfl)) (fun _ _ => by kernel_rfl) ev29_4 m
noncomputable def L29 : LEnv Bool := (loopCons 4 (enter Tryd.prog (0, 0) H29_4 (E29_4 fu)) loopNil)
theorem lq29 : loopsOf c29 = [c29_4] := by kernel_rfl
theorem fr29_4 : firstReg c29_4 = some 4 := by kernel_rfl
theorem le29_4 : L29 4 = enter Tryd.prog (0, 0) H29_4 (E29_4 fu) := by kernel_rfl
theorem lm29 : ∀ x ∈ [c29_4], ∀ id, firstReg x = some id → LoopOk Tryd.prog (0, 0) x (L29 id) := (loops_cons fr29_4 le29_4 (ok29_4 fu) loops_nil)
theorem lp29 : ∀ x ∈ loopsOf c29, ∀ id, firstReg x = some id → LoopOk Tryd.prog (0, 0) x (L29 id) := loops_eq lq29 lm29
noncomputable def sg29 : Sg := ⟨⟨[.one (.sl 0), .one (.sl 1)], [], [(3, (.int .i64), .ro), (3, (.int .i64), .ro)]⟩, [.row (.int .i64), .row (.int .i64)], ⟨[hh], [], []⟩, [.bool]⟩
noncomputable def E29 : Fun2 := eOf sg29 L.eqIntS
theorem ev29 (a : Args sg29.ks) : evS Tryd.prog G29 L29 (0, 0) [] Tryd.f29 c29 (kOf sg29) (sg29.sk.fl (encP sg29.ks a)) = unc sg29.ks L.eqIntS a := by kernel_rfl
theorem good29 : Vm.Good Tryd.prog 29 E29 := good_gen (G := G29) (L := L29) (c := c29) (rn := []) (N := (0, 0)) envNil_good lp29 Tryd.func29 (by kernel_rfl) (by kernel_rfl) (fun _ => by kernel_rfl) ev29
noncomputable def G11 : Env := (envCons 29 [] E29 envNil)
noncomputable def c11 : Code := bodyOf Tryd.f11
noncomputable def L.eqBoth (a1 a2 a3 a4 a5 a6 a7 a8 a9 a10 : Int) (a11 a12 a13 a14 : List Int) : Option Bool :=
(bif (a1 != a6) then
(some false)
else
(bif (a2 != a7) then
(some false)
else
(bif (a3 != a8) then
(some false)
else
(bif (a4 != a9) then
(some false)
else
(bif (a5 != a10) then
(some false)
else
(Option.bind (L.eqIntS a11 a13) fun r15 =>
(bif (!r15) then
(some false)
else
(Option.bind (L.eqIntS a12 a14) fun r16 =>
(bif (!r16) then
(some false)
else
(some true))))))))))
noncomputable def sg11 : Sg := ⟨⟨[.agg (ho 5 [.sl 0, .sl 1]), .agg (ho 5 [.sl 2, .sl 3])], [], [(3, (.int .i64), .ro), (3, (.int .i64), .ro), (3, (.int .i64), .ro), (3, (.int .i64), .ro)]⟩, (ki 10 [.row (.int .i64), .row (.int .i64), .row (.int .i64), .row (.int .i64)]), ⟨[hh], [], []⟩, [.bool]⟩
noncomputable def E11 : Fun2 := eOf sg11 L.eqBoth
theorem ev11 (a : Args sg11.ks) : evS Tryd.prog G11 loopNil (0, 0) [] Tryd.f11 c11 (kOf sg11) (sg11.sk.fl (encP sg11.ks a)) = unc sg11.ks L.eqBoth a := by kernel_rfl
theorem good11 : Vm.Good Tryd.prog 11 E11 := good_gen (G := G11) (L := loopNil) (c := c11) (rn := []) (N := (0, 0)) (envCons_good good29 envNil_good) (no_loops (c := c11) (by kernel_rfl)) Tryd.func11 (by kernel_rfl) (by kernel_rfl) (fun _ => by kernel_rfl) ev11
noncomputable def G3 : Env := (envCons 7 [] E7 (envCons 9 [] E9 (envCons 8 [] E8 (envCons 10 [] E10 (envCons 11 [] E11 envNil)))))
noncomputable def c3 : Code := bodyOf Tryd.f3
noncomputable def L.FnExactBothText (a1 a2 a3 a4 a5 : Int) (a6 a7 : List Int) : Option Bool :=
(Option.bind (L.szBoth a1 a2 a3 a4 a5 1048576 a6 a7) fun r8 =>
(bif (decide (r8 < 0)) then
(some true)
else
(Option.bind (L.toBoth a1 a2 a3 a4 a5 a6 a7) fun r10 =>
(Option.bind (S.BothText r10.1 r10.2.1 r10.2.2.1 r10.2.2.2.1 r10.2.2.2.2.1 r10.2.2.2.2.2.1 r10.2.2.2.2.2.2) fun r11 =>
(Option.bind (L.toBoth a1 a2 a3 a4 a5 a6 a7) fun r12 =>
(Option.bind (I.BothText r12.1 r12.2.1 r12.2.2.1 r12.2.2.2.1 r12.2.2.2.2.1 r12.2.2.2.2.2.1 r12.2.2.2.2.2.2) fun r13 =>
(bif (!(r13.toList == r11.toList)) then
(some false)
else
(Option.bind (L.toBoth a1 a2 a3 a4 a5 a6 a7) fun r15 =>
(Option.bind (L.eqBoth r12.1 r12.2.1 r12.2.2.1 r12.2.2.2.1 r12.2.2.2.2.1 r15.1 r15.2.1 r15.2.2.1 r15.2.2.2.1 r15.2.2.2.2.1 r12.2.2.2.2.2.1 r12.2.2.2.2.2.2 r15.2.2.2.2.2.1 r15.2.2.2.2.2.2) fun r16 =>
(bif (!r16) then
(some false)
else
(some true)))))))))))
noncomputable def sg3 : Sg := ⟨⟨[.agg (ho 5 [.sl 0, .sl 1])], [], [(3, (.int .i64), .ro), (3, (.int .i64), .ro)]⟩, (ki 5 [.row (.int .i64), .row (.int .i64)]), ⟨[hh], [], []⟩, [.bool]⟩
noncomputable def E3 : Fun2 := eOf sg3 L.FnExactBothText
theorem ev3 (a : Args sg3.ks) : evS Tryd.prog G3 loopNil (0, 0) [] Tryd.f3 c3 (kOf sg3) (sg3.sk.fl (encP sg3.ks a)) = unc sg3.ks L.FnExactBothText a := by kernel_rfl
theorem good3 : Vm.Good Tryd.prog 3 E3 := good_gen (G := G3) (L := loopNil) (c := c3) (rn := []) (N := (0, 0)) (envCons_good good7 (envCons_good good9 (envCons_good good8 (envCons_good good10 (envCons_good good11 envNil_good))))) (no_loops (c := c3) (by kernel_rfl)) Tryd.func3 (by kernel_rfl) (by kernel_rfl) (fun _ => by kernel_rfl) ev3
end Go.Proofs.YtipipipngmenoaaDoor.Run
