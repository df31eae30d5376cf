import Derived.Test.YtipipipngmenoaaVmU
import Derived.Test.YtipipipngmenoaaProg
namespace Go.Proofs.Ytipipipngmenoaa.Run
open Go Go.RowKit Go.Proofs.YtipipipngmenoaaW.PrintWords Go.Proofs.Ytipipipngmenoaa.Vm
set_option linter.unusedVariables false
set_option maxRecDepth 100000
set_option maxHeartbeats 4000000

noncomputable abbrev sh1 : Sh := (.pair (.int .i64) (.pair (.int .i64) (.pair (.int .i64) (.pair (.int .i64) (.pair (.int .i64) (.pair (.int .i64) (.pair (.sl 3 (.int .i64)) .bool)))))))
noncomputable abbrev sh2 : Sh := (.pair (.int .i64) (.pair (.int .i64) (.pair (.int .i64) (.pair (.int .i64) (.pair (.int .i64) (.pair (.int .i64) (.pair (.hr 3 (.int .i64)) .bool)))))))
noncomputable abbrev ty1 : Type := Int × Int × Int × Int × Int × Int × (HD × List Int) × Bool
noncomputable abbrev ty2 : Type := Int × Int × Int × Int × Int × Int × List Int × Bool
noncomputable abbrev df1 : Int × Int × Int × Int × Int × Int × List Int × Bool := ((0 : Int), ((0 : Int), ((0 : Int), ((0 : Int), ((0 : Int), ((0 : Int), ([], false)))))))
noncomputable abbrev df2 : Int × Int × Int × Int × Int × Int × (HD × List Int) × Bool := ((0 : Int), ((0 : Int), ((0 : Int), ((0 : Int), ((0 : Int), ((0 : Int), ((((none, 0, 0) : HD), []), false)))))))
noncomputable def G21 : Env := envNil
noncomputable def c21 : Code := bodyOf Try.f21
noncomputable def L.szIntS (a1 : Int) (a2 : List Int) : Option Int :=
(let v4 : Int := (IntKind.wrap .i64 (a1 - (a2.length : Int)))
(bif (decide (v4 < 0)) then
(some (-1))
else
(some v4)))
noncomputable def sg21 : Sg := ⟨⟨[.one (.sl 0), hh], [], [(3, (.int .i64), .ro)]⟩, [.int .i64, .row (.int .i64)], ⟨[hh], [], []⟩, [.int .i64]⟩
noncomputable def E21 : Fun2 := eOf sg21 L.szIntS
theorem ev21 (a : Args sg21.ks) : evS Try.prog G21 loopNil (0, 0) [] Try.f21 c21 (kOf sg21) (sg21.sk.fl (encP sg21.ks a)) = unc sg21.ks L.szIntS a := by kernel_rfl
theorem good21 : Vm.Good Try.prog 21 E21 := good_gen (G := G21) (L := loopNil) (c := c21) (rn := []) (N := (0, 0)) envNil_good (no_loops (c := c21) (by kernel_rfl)) Try.func21 (by kernel_rfl) (by kernel_rfl) (fun _ => by kernel_rfl) ev21
noncomputable def G11 : Env := (envCons 21 [] E21 envNil)
noncomputable def c11 : Code := bodyOf Try.f11
noncomputable def L.szPane (a1 a2 a3 a4 a5 a6 : Int) (a7 : Bool) (a8 : Int) (a9 : List Int) : Option Int :=
(Option.bind (L.szIntS a8 a9) fun r10 =>
(bif (decide (r10 < 0)) then
(some (-1))
else
(some r10)))
noncomputable def sg11 : Sg := ⟨⟨[.agg (ho 6 [.sl 0, .hole]), hh], [], [(3, (.int .i64), .ro)]⟩, (ki 6 [.bool, .int .i64, .row (.int .i64)]), ⟨[hh], [], []⟩, [.int .i64]⟩
noncomputable def E11 : Fun2 := eOf sg11 L.szPane
theorem ev11 (a : Args sg11.ks) : evS Try.prog G11 loopNil (0, 0) [] Try.f11 c11 (kOf sg11) (sg11.sk.fl (encP sg11.ks a)) = unc sg11.ks L.szPane a := by kernel_rfl
theorem good11 : Vm.Good Try.prog 11 E11 := good_gen (G := G11) (L := loopNil) (c := c11) (rn := []) (N := (0, 0)) (envCons_good good21 envNil_good) (no_loops (c := c11) (by kernel_rfl)) Try.func11 (by kernel_rfl) (by kernel_rfl) (fun _ => by kernel_rfl) ev11
noncomputable def G4 : Env := (envCons 11 [] E11 envNil)
noncomputable def c4 : Code := bodyOf Try.f4
noncomputable def c4_5 : Code := (loopsOf c4).getD 0 .skip
noncomputable def L.szPaneS_l0 : Nat → (Int → Int → Option Int) → (Int → Option Int) → Int → Int → (List ty2) → Option Int
  | 0, _, _, _, _, _ => none
  | m + 1, e5_0, e5_1, a6, a7, a8 =>
    (bif (decide (a7 < (a8.length : Int))) then
    (bif decide ((0 : Int) ≤ a7 ∧ a7 < (a8.length : Int)) then
    (Option.bind (L.szPane ((nthI a8 a7 df1).1) ((nthI a8 a7 df1).2.1) ((nthI a8 a7 df1).2.2.1) ((nthI a8 a7 df1).2.2.2.1) ((nthI a8 a7 df1).2.2.2.2.1) ((nthI a8 a7 df1).2.2.2.2.2.1) ((nthI a8 a7 df1).2.2.2.2.2.2.2) a6 ((nthI a8 a7 df1).2.2.2.2.2.2.1)) fun r11 =>
    (bif (decide (r11 < 0)) then
    (e5_0 r11 (-1))
    else
    (L.szPaneS_l0 m e5_0 e5_1 r11 (IntKind.wrap .i64 (a7 + 1)) a8)))
    else
    none)
    else
    (e5_1 a6))
noncomputable def L.szPaneS (a1 : Int) (a2 : List ty2) : Option Int :=
(let v4 : Int := (IntKind.wrap .i64 (a1 - (a2.length : Int)))
(bif (decide (v4 < 0)) then
(some (-1))
else
(L.szPaneS_l0 fu (fun y14 y15 =>
(some y15)) (fun y16 =>
(some y16)) v4 0 a2)))
noncomputable def H4_5 : LoopH := ⟨⟨((.one (.sl 0)) :: hh :: (hu 3 (hh :: (hu 21 [])))), [], [(33, sh1, .ro)]⟩, ([2, 3, 4] ++ rg 6 21), [], ([0, 2, 3] ++ rg 5 22), [], []⟩
noncomputable def k4_5 : List PK := (ki 2 [.row sh1])
noncomputable def W4_5 (m : Nat) (k : Kont Int) : Cur k4_5 (Option Int) := L.szPaneS_l0 m (exF k .ret ⟨((.one (.unk)) :: hh :: (hu 2 (hh :: (hu 22 [])))), [], []⟩ (ki 2 [])) (exF k (.exit 0) ⟨((.one (.unk)) :: hh :: (hu 25 [])), [], []⟩ [.int .i64])
noncomputable def E4_5 (m : Nat) : List Prm → Kont Int → Option Int := eL k4_5 (W4_5 m)
theorem ev4_5 (m : Nat) (k : Kont Int) (a : Args k4_5) : evL Try.prog G4 loopNil c4_5 (turn Try.prog (0, 0) H4_5 (E4_5 m) k) (H4_5.sk.fl (encP k4_5 a)) = unc k4_5 (W4_5 (m + 1) k) a := by kernel_rfl
theorem ok4_5 (m : Nat) : LoopOk Try.prog (0, 0) c4_5 (enter Try.prog (0, 0) H4_5 (E4_5 m)) := loop_gen (Fl := W4_5) (G := G4) (L := loopNil) (envCons_good good11 envNil_good) (no_loops (c := c4_5) (by kernel_rfl)) (fun _ _ => by kernel_rfl) ev4_5 m
noncomputable def L4 : LEnv Int := (loopCons 5 (enter Try.prog (0, 0) H4_5 (E4_5 fu)) loopNil)
theorem lq4 : loopsOf c4 = [c4_5] := by kernel_rfl
theorem fr4_5 : firstReg c4_5 = some 5 := by kernel_rfl
theorem le4_5 : L4 5 = enter Try.prog (0, 0) H4_5 (E4_5 fu) := by kernel_rfl
theorem lm4 : ∀ x ∈ [c4_5], ∀ id, firstReg x = some id → LoopOk Try.prog (0, 0) x (L4 id) := (loops_cons fr4_5 le4_5 (ok4_5 fu) loops_nil)
theorem lp4 : ∀ x ∈ loopsOf c4, ∀ id, firstReg x = some id → LoopOk Try.prog (0, 0) x (L4 id) := loops_eq lq4 lm4
noncomputable def sg4 : Sg := ⟨⟨[.one (.sl 0), hh], [], [(33, sh1, .ro)]⟩, [.int .i64, .row sh1], ⟨[hh], [], []⟩, [.int .i64]⟩
noncomputable def E4 : Fun2 := eOf sg4 L.szPaneS
theorem ev4 (a : Args sg4.ks) : evS Try.prog G4 L4 (0, 0) [] Try.f4 c4 (kOf sg4) (sg4.sk.fl (encP sg4.ks a)) = unc sg4.ks L.szPaneS a := by kernel_rfl
theorem good4 : Vm.Good Try.prog 4 E4 := good_gen (G := G4) (L := L4) (c := c4) (rn := []) (N := (0, 0)) (envCons_good good11 envNil_good) lp4 Try.func4 (by kernel_rfl) (by kernel_rfl) (fun _ => by kernel_rfl) ev4
noncomputable def G22 : Env := envNil
noncomputable def c22 : Code := bodyOf Try.f22
noncomputable def c22_3 : Code := (loopsOf c22).getD 0 .skip
noncomputable def L.toIntS_l0 : Nat → (List Int → Option (List Int)) → Int → List Int → List Int → Option (List Int)
  | 0, _, _, _, _ => none
  | m + 1, e3_0, a4, a5, a6 =>
    (bif (decide (a4 < (a5.length : Int))) then
    (bif decide ((0 : Int) ≤ a4 ∧ a4 < (a5.length : Int)) then
    (bif decide ((0 : Int) ≤ a4 ∧ a4 < (a6.length : Int)) then
    (L.toIntS_l0 m e3_0 (IntKind.wrap .i64 (a4 + 1)) a5 (a6.set (Int.toNat a4) (nthI a5 a4 (0 : Int))))
    else
    none)
    else
    none)
    else
    (e3_0 a6))
noncomputable def L.toIntS (a1 : List Int) : Option (List Int) :=
(let v2 : Int := (a1.length : Int)
(bif decide ((0 : Int) ≤ v2 ∧ v2 ≤ v2 ∧ (8 : Int) * v2 ≤ 281474976710656 ∧ v2 ≤ 9223372036854775807) then
(L.toIntS_l0 fu (fun y11 =>
(some y11)) 0 a1 (List.replicate (Int.toNat v2) (0 : Int)))
else
none))
noncomputable def H22_3 : LoopH := ⟨⟨((.one (.sl 0)) :: (hu 2 ((.one (.sl 1)) :: hh :: (hu 17 [])))), [], [(3, (.int .i64), .ro), (3, (.int .i64), .own)]⟩, ([1, 2] ++ rg 5 17), [], ([0, 1] ++ rg 4 18), [], []⟩
noncomputable def k22_3 : List PK := [.int .i64, .row (.int .i64), .row (.int .i64)]
noncomputable def W22_3 (m : Nat) (k : Kont (List Int)) : Cur k22_3 (Option (List Int)) := L.toIntS_l0 m (exF k (.exit 0) ⟨(hu 3 ((.one (.sl 0)) :: (hu 18 []))), [], [(3, (.int .i64), .own)]⟩ [.row (.int .i64)])
noncomputable def E22_3 (m : Nat) : List Prm → Kont (List Int) → Option (List Int) := eL k22_3 (W22_3 m)
theorem ev22_3 (m : Nat) (k : Kont (List Int)) (a : Args k22_3) : evL Try.prog G22 loopNil c22_3 (turn Try.prog (0, 0) H22_3 (E22_3 m) k) (H22_3.sk.fl (encP k22_3 a)) = unc k22_3 (W22_3 (m + 1) k) a := by kernel_rfl
theorem ok22_3 (m : Nat) : LoopOk Try.prog (0, 0) c22_3 (enter Try.prog (0, 0) H22_3 (E22_3 m)) := loop_gen (Fl := W22_3) (G := G22) (L := loopNil) envNil_good (no_loops (c := c22_3) (by kernel_rfl)) (fun _ _ => by kernel_rfl) ev22_3 m
noncomputable def L22 : LEnv (List Int) := (loopCons 3 (enter Try.prog (0, 0) H22_3 (E22_3 fu)) loopNil)
theorem lq22 : loopsOf c22 = [c22_3] := by kernel_rfl
theorem fr22_3 : firstReg c22_3 = some 3 := by kernel_rfl
theorem le22_3 : L22 3 = enter Try.prog (0, 0) H22_3 (E22_3 fu) := by kernel_rfl
theorem lm22 : ∀ x ∈ [c22_3], ∀ id, firstReg x = some id → LoopOk Try.prog (0, 0) x (L22 id) := (loops_cons fr22_3 le22_3 (ok22_3 fu) loops_nil)
theorem lp22 : ∀ x ∈ loopsOf c22, ∀ id, firstReg x = some id → LoopOk Try.prog (0, 0) x (L22 id) := loops_eq lq22 lm22
noncomputable def sg22 : Sg := ⟨⟨[.one (.sl 0)], [], [(3, (.int .i64), .ro)]⟩, [.row (.int .i64)], ⟨[.one (.sl 0)], [], [(3, (.int .i64), .own)]⟩, [.row (.int .i64)]⟩
noncomputable def E22 : Fun2 := eOf sg22 L.toIntS
theorem ev22 (a : Args sg22.ks) : evS Try.prog G22 L22 (0, 0) [] Try.f22 c22 (kOf sg22) (sg22.sk.fl (encP sg22.ks a)) = unc sg22.ks L.toIntS a := by kernel_rfl
theorem good22 : Vm.Good Try.prog 22 E22 := good_gen (G := G22) (L := L22) (c := c22) (rn := []) (N := (0, 0)) envNil_good lp22 Try.func22 (by kernel_rfl) (by kernel_rfl) (fun _ => by kernel_rfl) ev22
noncomputable def G14 : Env := (envCons 22 [] E22 envNil)
noncomputable def c14 : Code := bodyOf Try.f14
noncomputable def L.toPane (a1 a2 a3 a4 a5 a6 : Int) (a7 : Bool) (a8 : List Int) : Option (Int × Int × Int × Int × Int × Int × Bool × List Int) :=
(Option.bind (L.toIntS a8) fun r9 =>
(some (a1, a2, a3, a4, a5, a6, a7, r9)))
noncomputable def sg14 : Sg := ⟨⟨[.agg (ho 6 [.sl 0, .hole])], [], [(3, (.int .i64), .ro)]⟩, (ki 6 [.bool, .row (.int .i64)]), ⟨[.agg (ho 6 [.sl 0, .hole])], [], [(3, (.int .i64), .own)]⟩, (ki 6 [.bool, .row (.int .i64)])⟩
noncomputable def E14 : Fun2 := eOf sg14 L.toPane
theorem ev14 (a : Args sg14.ks) : evS Try.prog G14 loopNil (0, 0) [] Try.f14 c14 (kOf sg14) (sg14.sk.fl (encP sg14.ks a)) = unc sg14.ks L.toPane a := by kernel_rfl
theorem good14 : Vm.Good Try.prog 14 E14 := good_gen (G := G14) (L := loopNil) (c := c14) (rn := []) (N := (0, 0)) (envCons_good good22 envNil_good) (no_loops (c := c14) (by kernel_rfl)) Try.func14 (by kernel_rfl) (by kernel_rfl) (fun _ => by kernel_rfl) ev14
noncomputable def G6 : Env := (envCons 14 [] E14 envNil)
noncomputable def c6 : Code := bodyOf Try.f6
noncomputable def c6_3 : Code := (loopsOf c6).getD 0 .skip
noncomputable def L.toPaneS_l0 : Nat → ((List ty2) → Option ((List ty2))) → Int → (List ty2) → (List ty2) → Option ((List ty2))
  | 0, _, _, _, _ => none
  | m + 1, e3_0, a4, a5, a6 =>
    (bif (decide (a4 < (a5.length : Int))) then
    (bif decide ((0 : Int) ≤ a4 ∧ a4 < (a5.length : Int)) then
    (Option.bind (L.toPane ((nthI a5 a4 df1).1) ((nthI a5 a4 df1).2.1) ((nthI a5 a4 df1).2.2.1) ((nthI a5 a4 df1).2.2.2.1) ((nthI a5 a4 df1).2.2.2.2.1) ((nthI a5 a4 df1).2.2.2.2.2.1) ((nthI a5 a4 df1).2.2.2.2.2.2.2) ((nthI a5 a4 df1).2.2.2.2.2.2.1)) fun r9 =>
    (bif decide ((0 : Int) ≤ a4 ∧ a4 < (a6.length : Int)) then
    (let v10 : List ty2 := (a6.set (Int.toNat a4) (r9.1, (r9.2.1, (r9.2.2.1, (r9.2.2.2.1, (r9.2.2.2.2.1, (r9.2.2.2.2.2.1, (r9.2.2.2.2.2.2.2, r9.2.2.2.2.2.2.1))))))))
    (L.toPaneS_l0 m e3_0 (IntKind.wrap .i64 (a4 + 1)) a5 v10))
    else
    none))
    else
    none)
    else
    (e3_0 a6))
noncomputable def L.toPaneS (a1 : List ty2) : Option ((List ty2)) :=
(let v2 : Int := (a1.length : Int)
(bif decide ((0 : Int) ≤ v2 ∧ v2 ≤ v2 ∧ (80 : Int) * v2 ≤ 281474976710656 ∧ v2 ≤ 9223372036854775807) then
(let v3 : List ty2 := (List.replicate (Int.toNat v2) (0, (0, (0, (0, (0, (0, ([], false))))))))
(L.toPaneS_l0 fu (fun y12 =>
(some y12)) 0 a1 v3))
else
none))
noncomputable def H6_3 : LoopH := ⟨⟨((.one (.sl 0)) :: (hu 2 ((.one (.sl 1)) :: hh :: (hu 18 [])))), [], [(33, sh1, .ro), (35, sh1, .own)]⟩, ([1, 2] ++ rg 5 18), [], ([0, 1] ++ rg 4 19), [], []⟩
noncomputable def k6_3 : List PK := [.int .i64, .row sh1, .row sh1]
noncomputable def W6_3 (m : Nat) (k : Kont ((List ty2))) : Cur k6_3 (Option ((List ty2))) := L.toPaneS_l0 m (exF k (.exit 0) ⟨(hu 3 ((.one (.sl 0)) :: (hu 19 []))), [], [(35, sh1, .own)]⟩ [.row sh1])
noncomputable def E6_3 (m : Nat) : List Prm → Kont ((List ty2)) → Option ((List ty2)) := eL k6_3 (W6_3 m)
theorem ev6_3 (m : Nat) (k : Kont ((List ty2))) (a : Args k6_3) : evL Try.prog G6 loopNil c6_3 (turn Try.prog (0, 0) H6_3 (E6_3 m) k) (H6_3.sk.fl (encP k6_3 a)) = unc k6_3 (W6_3 (m + 1) k) a := by kernel_rfl
theorem ok6_3 (m : Nat) : LoopOk Try.prog (0, 0) c6_3 (enter Try.prog (0, 0) H6_3 (E6_3 m)) := loop_gen (Fl := W6_3) (G := G6) (L := loopNil) (envCons_good good14 envNil_good) (no_loops (c := c6_3) (by kernel_rfl)) (fun _ _ => by kernel_rfl) ev6_3 m
noncomputable def L6 : LEnv ((List ty2)) := (loopCons 3 (enter Try.prog (0, 0) H6_3 (E6_3 fu)) loopNil)
theorem lq6 : loopsOf c6 = [c6_3] := by kernel_rfl
theorem fr6_3 : firstReg c6_3 = some 3 := by kernel_rfl
theorem le6_3 : L6 3 = enter Try.prog (0, 0) H6_3 (E6_3 fu) := by kernel_rfl
theorem lm6 : ∀ x ∈ [c6_3], ∀ id, firstReg x = some id → LoopOk Try.prog (0, 0) x (L6 id) := (loops_cons fr6_3 le6_3 (ok6_3 fu) loops_nil)
theorem lp6 : ∀ x ∈ loopsOf c6, ∀ id, firstReg x = some id → LoopOk Try.prog (0, 0) x (L6 id) := loops_eq lq6 lm6
noncomputable def sg6 : Sg := ⟨⟨[.one (.sl 0)], [], [(33, sh1, .ro)]⟩, [.row sh1], ⟨[.one (.sl 0)], [], [(35, sh1, .own)]⟩, [.row sh1]⟩
noncomputable def E6 : Fun2 := eOf sg6 L.toPaneS
theorem ev6 (a : Args sg6.ks) : evS Try.prog G6 L6 (0, 0) [] Try.f6 c6 (kOf sg6) (sg6.sk.fl (encP sg6.ks a)) = unc sg6.ks L.toPaneS a := by kernel_rfl
theorem good6 : Vm.Good Try.prog 6 E6 := good_gen (G := G6) (L := L6) (c := c6) (rn := []) (N := (0, 0)) (envCons_good good14 envNil_good) lp6 Try.func6 (by kernel_rfl) (by kernel_rfl) (fun _ => by kernel_rfl) ev6
noncomputable def G12 : Env := envNil
noncomputable def c12 : Code := bodyOf Try.f12
noncomputable def S.PaneLess (a1 a2 a3 a4 a5 a6 : Int) (a7 : Bool) (a8 a9 a10 a11 a12 a13 : Int) (a14 : Bool) (a15 a16 : List Int) : Option Bool :=
(bif (a1 != a8) then
(some (decide (a1 < a8)))
else
(bif (a2 != a9) then
(some (decide (a2 < a9)))
else
(bif (a3 != a10) then
(some (decide (a3 < a10)))
else
(some (decide (a4 < a11))))))
noncomputable def sg12 : Sg := ⟨⟨[.agg (ho 6 [.sl 0, .hole]), .agg (ho 6 [.sl 1, .hole])], [], [(3, (.int .i64), .ro), (3, (.int .i64), .ro)]⟩, (ki 6 ((.bool) :: (ki 6 [.bool, .row (.int .i64), .row (.int .i64)]))), ⟨[hh], [], []⟩, [.bool]⟩
noncomputable def E12 : Fun2 := eOf sg12 S.PaneLess
theorem ev12 (a : Args sg12.ks) : evS Try.prog G12 loopNil (0, 0) [] Try.f12 c12 (kOf sg12) (sg12.sk.fl (encP sg12.ks a)) = unc sg12.ks S.PaneLess a := by kernel_rfl
theorem good12 : Vm.Good Try.prog 12 E12 := good_gen (G := G12) (L := loopNil) (c := c12) (rn := []) (N := (0, 0)) envNil_good (no_loops (c := c12) (by kernel_rfl)) Try.func12 (by kernel_rfl) (by kernel_rfl) (fun _ => by kernel_rfl) ev12
noncomputable def G13 : Env := envNil
noncomputable def c13 : Code := bodyOf Try.f13
noncomputable def S.l08Copy (a1 a2 a3 a4 a5 a6 : Int) (a7 : Bool) (a8 : List Int) : Option (Int × Int × Int × Int × Int × Int × Bool × List Int) :=
(bif decide ((([] : List (Int)).length + a8.length) * 8 ≤ 140737488355328) then
(some (a1, a2, a3, a4, a5, a6, a7, (([] : List (Int)) ++ a8)))
else
none)
noncomputable def sg13 : Sg := ⟨⟨[.agg (ho 6 [.sl 0, .hole])], [], [(3, (.int .i64), .ro)]⟩, (ki 6 [.bool, .row (.int .i64)]), ⟨[.agg (ho 6 [.sl 0, .hole])], [], [(3, (.int .i64), .own)]⟩, (ki 6 [.bool, .row (.int .i64)])⟩
noncomputable def E13 : Fun2 := eOf sg13 S.l08Copy
theorem ev13 (a : Args sg13.ks) : evS Try.prog G13 loopNil (0, 0) [] Try.f13 c13 (kOf sg13) (sg13.sk.fl (encP sg13.ks a)) = unc sg13.ks S.l08Copy a := by kernel_rfl
theorem good13 : Vm.Good Try.prog 13 E13 := good_gen (G := G13) (L := loopNil) (c := c13) (rn := []) (N := (0, 0)) envNil_good (no_loops (c := c13) (by kernel_rfl)) Try.func13 (by kernel_rfl) (by kernel_rfl) (fun _ => by kernel_rfl) ev13
noncomputable def G5 : Env := (envCons 12 [] E12 (envCons 13 [] E13 envNil))
noncomputable def c5 : Code := bodyOf Try.f5
noncomputable def c5_3 : Code := (loopsOf c5).getD 0 .skip
noncomputable def c5_6 : Code := (loopsOf c5_3).getD 0 .skip
noncomputable def S.PanesSort_l1 : Nat → (Int → Int → (List ty2) → (List ty2) → Option ((List ty2))) → Int → Int → (List ty2) → (List ty2) → Option ((List ty2))
  | 0, _, _, _, _, _ => none
  | m + 1, e6_0, a8, a9, a10, a11 =>
    (bif (decide (0 < a9)) then
    (bif decide ((0 : Int) ≤ a8 ∧ a8 < (a10.length : Int)) then
    (let v13 : Int := (IntKind.wrap .i64 (a9 - 1))
    (bif decide ((0 : Int) ≤ v13 ∧ v13 < (a11.length : Int)) then
    (Option.bind (S.PaneLess ((nthI a10 a8 df1).1) ((nthI a10 a8 df1).2.1) ((nthI a10 a8 df1).2.2.1) ((nthI a10 a8 df1).2.2.2.1) ((nthI a10 a8 df1).2.2.2.2.1) ((nthI a10 a8 df1).2.2.2.2.2.1) ((nthI a10 a8 df1).2.2.2.2.2.2.2) ((nthI a11 v13 df1).1) ((nthI a11 v13 df1).2.1) ((nthI a11 v13 df1).2.2.1) ((nthI a11 v13 df1).2.2.2.1) ((nthI a11 v13 df1).2.2.2.2.1) ((nthI a11 v13 df1).2.2.2.2.2.1) ((nthI a11 v13 df1).2.2.2.2.2.2.2) ((nthI a10 a8 df1).2.2.2.2.2.2.1) ((nthI a11 v13 df1).2.2.2.2.2.2.1)) fun r14 =>
    (bif r14 then
    (S.PanesSort_l1 m e6_0 a8 (IntKind.wrap .i64 (a9 - 1)) a10 a11)
    else
    (e6_0 a8 a9 a10 a11)))
    else
    none))
    else
    none)
    else
    (e6_0 a8 a9 a10 a11))
noncomputable def S.PanesSort_l0 : Nat → ((List ty2) → Option ((List ty2))) → Int → (List ty2) → (List ty2) → Option ((List ty2))
  | 0, _, _, _, _ => none
  | m + 1, e3_0, a2, a3, a4 =>
    (bif (decide (a2 < (a3.length : Int))) then
    (S.PanesSort_l1 fu (fun y16 y17 y18 y19 =>
    (bif decide ((0 : Int) ≤ y16 ∧ y16 < (y18.length : Int)) then
    (bif decide ((0 : Int) ≤ y17 ∧ y17 ≤ (y19.length : Int) ∧ (y19.length : Int) ≤ (y19.length : Int)) then
    (Option.bind (S.l08Copy ((nthI y18 y16 df1).1) ((nthI y18 y16 df1).2.1) ((nthI y18 y16 df1).2.2.1) ((nthI y18 y16 df1).2.2.2.1) ((nthI y18 y16 df1).2.2.2.2.1) ((nthI y18 y16 df1).2.2.2.2.2.1) ((nthI y18 y16 df1).2.2.2.2.2.2.2) ((nthI y18 y16 df1).2.2.2.2.2.2.1)) fun r20 =>
    (let v21 : List ty2 := [(r20.1, (r20.2.1, (r20.2.2.1, (r20.2.2.2.1, (r20.2.2.2.2.1, (r20.2.2.2.2.2.1, (r20.2.2.2.2.2.2.2, r20.2.2.2.2.2.2.1)))))))]
    (bif decide ((v21.length + ((y19.take (Int.toNat (y19.length : Int))).drop (Int.toNat y17)).length) * 80 ≤ 140737488355328) then
    (let v22 : List ty2 := (v21 ++ ((y19.take (Int.toNat (y19.length : Int))).drop (Int.toNat y17)))
    (bif decide ((0 : Int) ≤ 0 ∧ 0 ≤ y17 ∧ y17 ≤ ((y19.take (Int.toNat y17)).length : Int)) then
    (bif decide ((([] : List ty2).length + (((y19.take (Int.toNat y17)).take (Int.toNat y17)).drop (Int.toNat 0)).length) * 80 ≤ 140737488355328) then
    (let v23 : List ty2 := (([] : List ty2) ++ (((y19.take (Int.toNat y17)).take (Int.toNat y17)).drop (Int.toNat 0)))
    (bif decide ((v23.length + v22.length) * 80 ≤ 140737488355328) then
    (S.PanesSort_l0 m e3_0 (IntKind.wrap .i64 (y16 + 1)) y18 (v23 ++ v22))
    else
    none))
    else
    none)
    else
    none))
    else
    none)))
    else
    none)
    else
    none)) a2 (a4.length : Int) a3 a4)
    else
    (e3_0 a4))
noncomputable def S.PanesSort (a1 : List ty2) : Option ((List ty2)) :=
(S.PanesSort_l0 fu (fun y25 =>
(some y25)) 0 a1 [])
noncomputable def H5_6 : LoopH := ⟨⟨((.one (.sl 0)) :: (hu 2 ((.one (.sl 1)) :: hh :: hh :: (hu 44 [])))), [], [(35, sh1, .ro), (35, sh1, .own)]⟩, ([1, 2] ++ rg 6 44), [], ([1] ++ rg 6 44), [], []⟩
noncomputable def k5_6 : List PK := (ki 2 [.row sh1, .row sh1])
noncomputable def W5_6 (m : Nat) (k : Kont ((List ty2))) : Cur k5_6 (Option ((List ty2))) := S.PanesSort_l1 m (exF k (.exit 2) ⟨((.one (.sl 0)) :: (hu 2 ((.one (.sl 1)) :: hh :: hh :: (hu 44 [])))), [], [(35, sh1, .ro), (35, sh1, .own)]⟩ (ki 2 [.row sh1, .row sh1]))
noncomputable def E5_6 (m : Nat) : List Prm → Kont ((List ty2)) → Option ((List ty2)) := eL k5_6 (W5_6 m)
theorem ev5_6 (m : Nat) (k : Kont ((List ty2))) (a : Args k5_6) : evL Try.prog G5 loopNil c5_6 (turn Try.prog (0, 0) H5_6 (E5_6 m) k) (H5_6.sk.fl (encP k5_6 a)) = unc k5_6 (W5_6 (m + 1) k) a := by kernel_rfl
theorem ok5_6 (m : Nat) : LoopOk Try.prog (0, 0) c5_6 (enter Try.prog (0, 0) H5_6 (E5_6 m)) := loop_gen (Fl := W5_6) (G := G5) (L := loopNil) (envCons_good good12 (envCons_good good13 envNil_good)) (no_loops (c := c5_6) (by kernel_rfl)) (fun _ _ => by kernel_rfl) ev5_6 m
noncomputable def L5_3 : LEnv ((List ty2)) := (loopCons 6 (enter Try.prog (0, 0) H5_6 (E5_6 fu)) loopNil)
theorem lq5_3 : loopsOf c5_3 = [c5_6] := by kernel_rfl
theorem fr5_6 : firstReg c5_6 = some 6 := by kernel_rfl
theorem le5_6 : L5_3 6 = enter Try.prog (0, 0) H5_6 (E5_6 fu) := by kernel_rfl
theorem lm5_3 : ∀ x ∈ [c5_6], ∀ id, firstReg x = some id → LoopOk Try.prog (0, 0) x (L5_3 id) := (loops_cons fr5_6 le5_6 (ok5_6 fu) loops_nil)
theorem lp5_3 : ∀ x ∈ loopsOf c5_3, ∀ id, firstReg x = some id → LoopOk Try.prog (0, 0) x (L5_3 id) := loops_eq lq5_3 lm5_3
noncomputable def H5_3 : LoopH := ⟨⟨((.one (.sl 0)) :: (hu 2 ((.one (.sl 1)) :: hh :: (hu 45 [])))), [], [(35, sh1, .ro), (35, sh1, .own)]⟩, ([1, 2] ++ rg 5 45), [], ([0, 1] ++ rg 4 46), [], []⟩
noncomputable def k5_3 : List PK := [.int .i64, .row sh1, .row sh1]
noncomputable def W5_3 (m : Nat) (k : Kont ((List ty2))) : Cur k5_3 (Option ((List ty2))) := S.PanesSort_l0 m (exF k (.exit 0) ⟨(hu 3 ((.one (.sl 0)) :: (hu 46 []))), [], [(35, sh1, .own)]⟩ [.row sh1])
noncomputable def E5_3 (m : Nat) : List Prm → Kont ((List ty2)) → Option ((List ty2)) := eL k5_3 (W5_3 m)
theorem ev5_3 (m : Nat) (k : Kont ((List ty2))) (a : Args k5_3) : evL Try.prog G5 L5_3 c5_3 (turn Try.prog (0, 0) H5_3 (E5_3 m) k) (H5_3.sk.fl (encP k5_3 a)) = unc k5_3 (W5_3 (m + 1) k) a := by kernel_rfl
theorem ok5_3 (m : Nat) : LoopOk Try.prog (0, 0) c5_3 (enter Try.prog (0, 0) H5_3 (E5_3 m)) := loop_gen (Fl := W5_3) (G := G5) (L := L5_3) (envCons_good good12 (envCons_good good13 envNil_good)) lp5_3 (fun _ _ => by kernel_rfl) ev5_3 m
noncomputable def L5 : LEnv ((List ty2)) := (loopCons 3 (enter Try.prog (0, 0) H5_3 (E5_3 fu)) loopNil)
theorem lq5 : loopsOf c5 = [c5_3] := by kernel_rfl
theorem fr5_3 : firstReg c5_3 = some 3 := by kernel_rfl
theorem le5_3 : L5 3 = enter Try.prog (0, 0) H5_3 (E5_3 fu) := by kernel_rfl
theorem lm5 : ∀ x ∈ [c5_3], ∀ id, firstReg x = some id → LoopOk Try.prog (0, 0) x (L5 id) := (loops_cons fr5_3 le5_3 (ok5_3 fu) loops_nil)
theorem lp5 : ∀ x ∈ loopsOf c5, ∀ id, firstReg x = some id → LoopOk Try.prog (0, 0) x (L5 id) := loops_eq lq5 lm5
noncomputable def sg5 : Sg := ⟨⟨[.one (.sl 0)], [], [(35, sh1, .ro)]⟩, [.row sh1], ⟨[.one (.sl 0)], [], [(35, sh1, .own)]⟩, [.row sh1]⟩
noncomputable def E5 : Fun2 := eOf sg5 S.PanesSort
theorem ev5 (a : Args sg5.ks) : evS Try.prog G5 L5 (0, 0) [] Try.f5 c5 (kOf sg5) (sg5.sk.fl (encP sg5.ks a)) = unc sg5.ks S.PanesSort a := by kernel_rfl
theorem good5 : Vm.Good Try.prog 5 E5 := good_gen (G := G5) (L := L5) (c := c5) (rn := []) (N := (0, 0)) (envCons_good good12 (envCons_good good13 envNil_good)) lp5 Try.func5 (by kernel_rfl) (by kernel_rfl) (fun _ => by kernel_rfl) ev5
noncomputable def G23 : Env := envNil
noncomputable def c23 : Code := bodyOf Try.f23
noncomputable def G.slices.Clone_int (a1 : List Int) : Option (List Int) :=
(bif decide (a1.length = 0) then
(same (some [])
(bif decide ((([] : List (Int)).length + a1.length) * 8 ≤ 140737488355328) then
(some (([] : List (Int)) ++ a1))
else
none))
else
(bif decide ((([] : List (Int)).length + a1.length) * 8 ≤ 140737488355328) then
(some (([] : List (Int)) ++ a1))
else
none))
noncomputable def sg23 : Sg := ⟨⟨[.one (.sl 0)], [], [(3, (.int .i64), .ro)]⟩, [.row (.int .i64)], ⟨[.one (.sl 0)], [], [(3, (.int .i64), .own)]⟩, [.row (.int .i64)]⟩
noncomputable def E23 : Fun2 := eOf sg23 G.slices.Clone_int
theorem ev23 (a : Args sg23.ks) : evS Try.prog G23 loopNil (0, 0) [] Try.f23 c23 (kOf sg23) (sg23.sk.fl (encP sg23.ks a)) = unc sg23.ks G.slices.Clone_int a := by kernel_rfl
theorem good23 : Vm.Good Try.prog 23 E23 := good_gen (G := G23) (L := loopNil) (c := c23) (rn := []) (N := (0, 0)) envNil_good (no_loops (c := c23) (by kernel_rfl)) Try.func23 (by kernel_rfl) (by kernel_rfl) (fun _ => by kernel_rfl) ev23
noncomputable def G15 : Env := (envCons 23 [] E23 envNil)
noncomputable def c15 : Code := bodyOf Try.f15
noncomputable def I.Pane_copied (a1 a2 a3 a4 a5 a6 : Int) (a7 : Bool) (a8 : List Int) : Option (Int × Int × Int × Int × Int × Int × Bool × List Int) :=
(Option.bind (G.slices.Clone_int a8) fun r9 =>
(some (a1, a2, a3, a4, a5, a6, a7, r9)))
noncomputable def sg15 : Sg := ⟨⟨[.agg (ho 6 [.sl 0, .hole])], [], [(3, (.int .i64), .ro)]⟩, (ki 6 [.bool, .row (.int .i64)]), ⟨[.agg (ho 6 [.sl 0, .hole])], [], [(3, (.int .i64), .own)]⟩, (ki 6 [.bool, .row (.int .i64)])⟩
noncomputable def E15 : Fun2 := eOf sg15 I.Pane_copied
theorem ev15 (a : Args sg15.ks) : evS Try.prog G15 loopNil (0, 0) [] Try.f15 c15 (kOf sg15) (sg15.sk.fl (encP sg15.ks a)) = unc sg15.ks I.Pane_copied a := by kernel_rfl
theorem good15 : Vm.Good Try.prog 15 E15 := good_gen (G := G15) (L := loopNil) (c := c15) (rn := []) (N := (0, 0)) (envCons_good good23 envNil_good) (no_loops (c := c15) (by kernel_rfl)) Try.func15 (by kernel_rfl) (by kernel_rfl) (fun _ => by kernel_rfl) ev15
noncomputable def G30 : Env := envNil
noncomputable def c30 : Code := bodyOf Try.f30
noncomputable def G.cmp.isNaN_int (a1 : Int) : Option Bool :=
(some (a1 != a1))
noncomputable def sg30 : Sg := ⟨⟨[hh], [], []⟩, [.int .i64], ⟨[hh], [], []⟩, [.bool]⟩
noncomputable def E30 : Fun2 := eOf sg30 G.cmp.isNaN_int
theorem ev30 (a : Args sg30.ks) : evS Try.prog G30 loopNil (0, 0) [] Try.f30 c30 (kOf sg30) (sg30.sk.fl (encP sg30.ks a)) = unc sg30.ks G.cmp.isNaN_int a := by kernel_rfl
theorem good30 : Vm.Good Try.prog 30 E30 := good_gen (G := G30) (L := loopNil) (c := c30) (rn := []) (N := (0, 0)) envNil_good (no_loops (c := c30) (by kernel_rfl)) Try.func30 (by kernel_rfl) (by kernel_rfl) (fun _ => by kernel_rfl) ev30
noncomputable def G26 : Env := (envCons 30 [] E30 envNil)
noncomputable def c26 : Code := bodyOf Try.f26
noncomputable def G.cmp.Compare_int (a1 a2 : Int) : Option Int :=
(Option.bind (G.cmp.isNaN_int a1) fun r3 =>
(Option.bind (G.cmp.isNaN_int a2) fun r4 =>
(bif r3 then
(bif r4 then
(some 0)
else
(some (-1)))
else
(bif r4 then
(some 1)
else
(bif (decide (a1 < a2)) then
(some (-1))
else
(bif (decide (a2 < a1)) then
(some 1)
else
(some 0)))))))
noncomputable def sg26 : Sg := ⟨⟨[hh, hh], [], []⟩, (ki 2 []), ⟨[hh], [], []⟩, [.int .i64]⟩
noncomputable def E26 : Fun2 := eOf sg26 G.cmp.Compare_int
theorem ev26 (a : Args sg26.ks) : evS Try.prog G26 loopNil (0, 0) [] Try.f26 c26 (kOf sg26) (sg26.sk.fl (encP sg26.ks a)) = unc sg26.ks G.cmp.Compare_int a := by kernel_rfl
theorem good26 : Vm.Good Try.prog 26 E26 := good_gen (G := G26) (L := loopNil) (c := c26) (rn := []) (N := (0, 0)) (envCons_good good30 envNil_good) (no_loops (c := c26) (by kernel_rfl)) Try.func26 (by kernel_rfl) (by kernel_rfl) (fun _ => by kernel_rfl) ev26
noncomputable def G25 : Env := envNil
noncomputable def c25 : Code := bodyOf Try.f25
noncomputable def c25_3 : Code := (loopsOf c25).getD 0 .skip
noncomputable def G.cmp.Or_int_l0 : Nat → (Int → Int → Option Int) → (Int → Option Int) → Int → Int → Int → List Int → Option Int
  | 0, _, _, _, _, _, _ => none
  | m + 1, e3_0, e3_1, a3, a4, a5, a6 =>
    (bif (decide (a5 < a4)) then
    (bif decide ((0 : Int) ≤ a5 ∧ a5 < (a6.length : Int)) then
    (let v8 : Int := (nthI a6 a5 (0 : Int))
    (bif (v8 != a3) then
    (e3_0 v8 a3)
    else
    (G.cmp.Or_int_l0 m e3_0 e3_1 a3 a4 (IntKind.wrap .i64 (a5 + 1)) a6)))
    else
    none)
    else
    (e3_1 a3))
noncomputable def G.cmp.Or_int (a1 : List Int) : Option Int :=
(G.cmp.Or_int_l0 fu (fun y10 y11 =>
(some y10)) (fun y12 =>
(some y12)) 0 (a1.length : Int) 0 a1)
noncomputable def H25_3 : LoopH := ⟨⟨(hu 3 (hh :: (hu 2 ((.one (.sl 0)) :: hh :: hh :: (hu 9 []))))), [], [(3, (.int .i64), .ro)]⟩, ([0, 1, 2, 4, 5] ++ rg 9 9), [], ([0, 1] ++ rg 4 14), [], []⟩
noncomputable def k25_3 : List PK := (ki 3 [.row (.int .i64)])
noncomputable def W25_3 (m : Nat) (k : Kont Int) : Cur k25_3 (Option Int) := G.cmp.Or_int_l0 m (exF k .ret ⟨(hu 2 (hh :: hh :: (hu 14 []))), [], []⟩ (ki 2 [])) (exF k (.exit 0) ⟨(hu 3 (hh :: (hu 14 []))), [], []⟩ [.int .i64])
noncomputable def E25_3 (m : Nat) : List Prm → Kont Int → Option Int := eL k25_3 (W25_3 m)
theorem ev25_3 (m : Nat) (k : Kont Int) (a : Args k25_3) : evL Try.prog G25 loopNil c25_3 (turn Try.prog (0, 0) H25_3 (E25_3 m) k) (H25_3.sk.fl (encP k25_3 a)) = unc k25_3 (W25_3 (m + 1) k) a := by kernel_rfl
theorem ok25_3 (m : Nat) : LoopOk Try.prog (0, 0) c25_3 (enter Try.prog (0, 0) H25_3 (E25_3 m)) := loop_gen (Fl := W25_3) (G := G25) (L := loopNil) envNil_good (no_loops (c := c25_3) (by kernel_rfl)) (fun _ _ => by kernel_rfl) ev25_3 m
noncomputable def L25 : LEnv Int := (loopCons 3 (enter Try.prog (0, 0) H25_3 (E25_3 fu)) loopNil)
theorem lq25 : loopsOf c25 = [c25_3] := by kernel_rfl
theorem fr25_3 : firstReg c25_3 = some 3 := by kernel_rfl
theorem le25_3 : L25 3 = enter Try.prog (0, 0) H25_3 (E25_3 fu) := by kernel_rfl
theorem lm25 : ∀ x ∈ [c25_3], ∀ id, firstReg x = some id → LoopOk Try.prog (0, 0) x (L25 id) := (loops_cons fr25_3 le25_3 (ok25_3 fu) loops_nil)
theorem lp25 : ∀ x ∈ loopsOf c25, ∀ id, firstReg x = some id → LoopOk Try.prog (0, 0) x (L25 id) := loops_eq lq25 lm25
noncomputable def sg25 : Sg := ⟨⟨[.one (.sl 0)], [], [(3, (.int .i64), .ro)]⟩, [.row (.int .i64)], ⟨[hh], [], []⟩, [.int .i64]⟩
noncomputable def E25 : Fun2 := eOf sg25 G.cmp.Or_int
theorem ev25 (a : Args sg25.ks) : evS Try.prog G25 L25 (0, 0) [] Try.f25 c25 (kOf sg25) (sg25.sk.fl (encP sg25.ks a)) = unc sg25.ks G.cmp.Or_int a := by kernel_rfl
theorem good25 : Vm.Good Try.prog 25 E25 := good_gen (G := G25) (L := L25) (c := c25) (rn := []) (N := (0, 0)) envNil_good lp25 Try.func25 (by kernel_rfl) (by kernel_rfl) (fun _ => by kernel_rfl) ev25
noncomputable def G17 : Env := (envCons 26 [] E26 (envCons 25 [] E25 envNil))
noncomputable def c17 : Code := bodyOf Try.f17
noncomputable def I.comparePanes (a1 a2 a3 a4 a5 a6 : Int) (a7 : Bool) (a8 a9 a10 a11 a12 a13 : Int) (a14 : Bool) (a15 a16 : List Int) : Option Int :=
(Option.bind (G.cmp.Compare_int a1 a8) fun r17 =>
(Option.bind (G.cmp.Compare_int a2 a9) fun r18 =>
(Option.bind (G.cmp.Compare_int a3 a10) fun r19 =>
(Option.bind (G.cmp.Compare_int a4 a11) fun r20 =>
(Option.bind (G.cmp.Or_int [r17, r18, r19, r20]) fun r22 =>
(some r22))))))
noncomputable def sg17 : Sg := ⟨⟨[.agg (ho 6 [.sl 0, .hole]), .agg (ho 6 [.sl 1, .hole])], [], [(3, (.int .i64), .ro), (3, (.int .i64), .ro)]⟩, (ki 6 ((.bool) :: (ki 6 [.bool, .row (.int .i64), .row (.int .i64)]))), ⟨[hh], [], []⟩, [.int .i64]⟩
noncomputable def E17 : Fun2 := eOf sg17 I.comparePanes
theorem ev17 (a : Args sg17.ks) : evS Try.prog G17 loopNil (0, 0) [] Try.f17 c17 (kOf sg17) (sg17.sk.fl (encP sg17.ks a)) = unc sg17.ks I.comparePanes a := by kernel_rfl
theorem good17 : Vm.Good Try.prog 17 E17 := good_gen (G := G17) (L := loopNil) (c := c17) (rn := []) (N := (0, 0)) (envCons_good good26 (envCons_good good25 envNil_good)) (no_loops (c := c17) (by kernel_rfl)) Try.func17 (by kernel_rfl) (by kernel_rfl) (fun _ => by kernel_rfl) ev17
noncomputable def G28 : Env := (envCons 17 [] E17 envNil)
noncomputable def c28 : Code := bodyOf Try.f28
noncomputable def c28_1 : Code := (loopsOf c28).getD 0 .skip
noncomputable def c28_4 : Code := (loopsOf c28_1).getD 0 .skip
noncomputable def G.slices.insertionSortCmpFunc_Pane_l1 : Nat → (Int → Int → Int → (List ty1) → Option ((List ty1))) → Int → Int → Int → Int → (List ty1) → Option ((List ty1))
  | 0, _, _, _, _, _, _ => none
  | m + 1, e4_0, a10, a11, a12, a13, a14 =>
    (bif (decide (a10 < a13)) then
    (bif decide ((0 : Int) ≤ a13 ∧ a13 < (a14.length : Int)) then
    (let v16 : Int := (IntKind.wrap .i64 (a13 - 1))
    (bif decide ((0 : Int) ≤ v16 ∧ v16 < (a14.length : Int)) then
    (dup (Option.bind (I.comparePanes ((nthI a14 a13 df2).1) ((nthI a14 a13 df2).2.1) ((nthI a14 a13 df2).2.2.1) ((nthI a14 a13 df2).2.2.2.1) ((nthI a14 a13 df2).2.2.2.2.1) ((nthI a14 a13 df2).2.2.2.2.2.1) ((nthI a14 a13 df2).2.2.2.2.2.2.2) ((nthI a14 v16 df2).1) ((nthI a14 v16 df2).2.1) ((nthI a14 v16 df2).2.2.1) ((nthI a14 v16 df2).2.2.2.1) ((nthI a14 v16 df2).2.2.2.2.1) ((nthI a14 v16 df2).2.2.2.2.2.1) ((nthI a14 v16 df2).2.2.2.2.2.2.2) ((nthI a14 a13 df2).2.2.2.2.2.2.1.2) ((nthI a14 v16 df2).2.2.2.2.2.2.1.2)) fun r17 =>
    (bif (decide (r17 < 0)) then
    (let v19 : Int := (IntKind.wrap .i64 (a13 - 1))
    (let v20 : Int := (IntKind.wrap .i64 (a13 - 1))
    (bif decide ((0 : Int) ≤ v20 ∧ v20 < (a14.length : Int)) then
    (bif decide ((0 : Int) ≤ a13 ∧ a13 < (a14.length : Int)) then
    (dup (bif decide ((0 : Int) ≤ a13 ∧ a13 < (a14.length : Int)) then
    (let v21 : List ty1 := (a14.set (Int.toNat a13) (nthI a14 v20 df2))
    (bif decide ((0 : Int) ≤ v19 ∧ v19 < (v21.length : Int)) then
    (let v22 : List ty1 := (v21.set (Int.toNat v19) (nthI a14 a13 df2))
    (G.slices.insertionSortCmpFunc_Pane_l1 m e4_0 a10 a11 a12 (IntKind.wrap .i64 (a13 - 1)) v22))
    else
    none))
    else
    none))
    else
    none)
    else
    none)))
    else
    (e4_0 a10 a11 a12 a14))))
    else
    none))
    else
    none)
    else
    (e4_0 a10 a11 a12 a14))
noncomputable def G.slices.insertionSortCmpFunc_Pane_l0 : Nat → ((List ty1) → Option ((List ty1))) → Int → Int → Int → (List ty1) → Option ((List ty1))
  | 0, _, _, _, _, _ => none
  | m + 1, e1_0, a5, a6, a7, a8 =>
    (bif (decide (a7 < a6)) then
    (G.slices.insertionSortCmpFunc_Pane_l1 fu (fun y24 y25 y26 y27 =>
    (G.slices.insertionSortCmpFunc_Pane_l0 m e1_0 y24 y25 (IntKind.wrap .i64 (y26 + 1)) y27)) a5 a6 a7 a7 a8)
    else
    (e1_0 a8))
noncomputable def G.slices.insertionSortCmpFunc_Pane (a1 a2 : Int) (a3 : List ty1) : Option ((List ty1)) :=
(G.slices.insertionSortCmpFunc_Pane_l0 fu (fun y29 =>
(some y29)) a1 a2 (IntKind.wrap .i64 (a1 + 1)) a3)
noncomputable def H28_4 : LoopH := ⟨⟨((.one (.sl 0)) :: hh :: hh :: (.one (.fn 17 [])) :: (hu 4 (hh :: hh :: (hu 43 [])))), [], [(35, sh2, .own)]⟩, (rg 4 4 ++ rg 10 43), [], (rg 4 4 ++ rg 9 44), [], []⟩
noncomputable def k28_4 : List PK := (ki 4 [.row sh2])
noncomputable def W28_4 (m : Nat) (k : Kont ((List ty1))) : Cur k28_4 (Option ((List ty1))) := G.slices.insertionSortCmpFunc_Pane_l1 m (exF k (.exit 2) ⟨((.one (.sl 0)) :: hh :: hh :: (.one (.fn 17 [])) :: (hu 4 (hh :: (hu 44 [])))), [], [(35, sh2, .own)]⟩ (ki 3 [.row sh2]))
noncomputable def E28_4 (m : Nat) : List Prm → Kont ((List ty1)) → Option ((List ty1)) := eL k28_4 (W28_4 m)
theorem ev28_4 (m : Nat) (k : Kont ((List ty1))) (a : Args k28_4) : evL Try.prog G28 loopNil c28_4 (turn Try.prog (0, 1) H28_4 (E28_4 m) k) (H28_4.sk.fl (encP k28_4 a)) = unc k28_4 (W28_4 (m + 1) k) a := by kernel_rfl
theorem ok28_4 (m : Nat) : LoopOk Try.prog (0, 1) c28_4 (enter Try.prog (0, 1) H28_4 (E28_4 m)) := loop_gen (Fl := W28_4) (G := G28) (L := loopNil) (envCons_good good17 envNil_good) (no_loops (c := c28_4) (by kernel_rfl)) (fun _ _ => by kernel_rfl) ev28_4 m
noncomputable def L28_1 : LEnv ((List ty1)) := (loopCons 4 (enter Try.prog (0, 1) H28_4 (E28_4 fu)) loopNil)
theorem lq28_1 : loopsOf c28_1 = [c28_4] := by kernel_rfl
theorem fr28_4 : firstReg c28_4 = some 4 := by kernel_rfl
theorem le28_4 : L28_1 4 = enter Try.prog (0, 1) H28_4 (E28_4 fu) := by kernel_rfl
theorem lm28_1 : ∀ x ∈ [c28_4], ∀ id, firstReg x = some id → LoopOk Try.prog (0, 1) x (L28_1 id) := (loops_cons fr28_4 le28_4 (ok28_4 fu) loops_nil)
theorem lp28_1 : ∀ x ∈ loopsOf c28_1, ∀ id, firstReg x = some id → LoopOk Try.prog (0, 1) x (L28_1 id) := loops_eq lq28_1 lm28_1
noncomputable def H28_1 : LoopH := ⟨⟨((.one (.sl 0)) :: hh :: hh :: (.one (.fn 17 [])) :: (hu 4 (hh :: (hu 44 [])))), [], [(35, sh2, .own)]⟩, (rg 4 4 ++ rg 9 44), [], (rg 0 53), [], []⟩
noncomputable def k28_1 : List PK := (ki 3 [.row sh2])
noncomputable def W28_1 (m : Nat) (k : Kont ((List ty1))) : Cur k28_1 (Option ((List ty1))) := G.slices.insertionSortCmpFunc_Pane_l0 m (exF k (.exit 0) ⟨(hu 53 []), [], [(35, sh2, .own)]⟩ [.row sh2])
noncomputable def E28_1 (m : Nat) : List Prm → Kont ((List ty1)) → Option ((List ty1)) := eL k28_1 (W28_1 m)
theorem ev28_1 (m : Nat) (k : Kont ((List ty1))) (a : Args k28_1) : evL Try.prog G28 L28_1 c28_1 (turn Try.prog (0, 1) H28_1 (E28_1 m) k) (H28_1.sk.fl (encP k28_1 a)) = unc k28_1 (W28_1 (m + 1) k) a := by kernel_rfl
theorem ok28_1 (m : Nat) : LoopOk Try.prog (0, 1) c28_1 (enter Try.prog (0, 1) H28_1 (E28_1 m)) := loop_gen (Fl := W28_1) (G := G28) (L := L28_1) (envCons_good good17 envNil_good) lp28_1 (fun _ _ => by kernel_rfl) ev28_1 m
noncomputable def L28 : LEnv ((List ty1)) := (loopCons 1 (enter Try.prog (0, 1) H28_1 (E28_1 fu)) loopNil)
theorem lq28 : loopsOf c28 = [c28_1] := by kernel_rfl
theorem fr28_1 : firstReg c28_1 = some 1 := by kernel_rfl
theorem le28_1 : L28 1 = enter Try.prog (0, 1) H28_1 (E28_1 fu) := by kernel_rfl
theorem lm28 : ∀ x ∈ [c28_1], ∀ id, firstReg x = some id → LoopOk Try.prog (0, 1) x (L28 id) := (loops_cons fr28_1 le28_1 (ok28_1 fu) loops_nil)
theorem lp28 : ∀ x ∈ loopsOf c28, ∀ id, firstReg x = some id → LoopOk Try.prog (0, 1) x (L28 id) := loops_eq lq28 lm28
noncomputable def sg28 : Sg := ⟨⟨[.one (.sl 0), hh, hh, .one (.fn 17 [])], [], [(35, sh2, .own)]⟩, (ki 2 [.row sh2]), ⟨[], [], [(35, sh2, .own)]⟩, [.row sh2]⟩
noncomputable def E28 : Fun2 := eOf sg28 G.slices.insertionSortCmpFunc_Pane
theorem ev28 (a : Args sg28.ks) : evS Try.prog G28 L28 (0, 1) [] Try.f28 c28 (kOf sg28) (sg28.sk.fl (encP sg28.ks a)) = unc sg28.ks G.slices.insertionSortCmpFunc_Pane a := by kernel_rfl
theorem good28 : Vm.Good Try.prog 28 E28 := good_gen (G := G28) (L := L28) (c := c28) (rn := []) (N := (0, 1)) (envCons_good good17 envNil_good) lp28 Try.func28 (by kernel_rfl) (by kernel_rfl) (fun _ => by kernel_rfl) ev28
noncomputable def G32 : Env := envNil
noncomputable def c32 : Code := bodyOf Try.f32
noncomputable def c32_1 : Code := (loopsOf c32).getD 0 .skip
noncomputable def G.slices.swapRangeCmpFunc_Pane_l0 : Nat → ((List ty1) → Option ((List ty1))) → Int → Int → Int → Int → (List ty1) → Option ((List ty1))
  | 0, _, _, _, _, _, _ => none
  | m + 1, e1_0, a5, a6, a7, a8, a9 =>
    (bif (decide (a8 < a7)) then
    (let v11 : Int := (IntKind.wrap .i64 (a5 + a8))
    (let v12 : Int := (IntKind.wrap .i64 (a6 + a8))
    (let v13 : Int := (IntKind.wrap .i64 (a6 + a8))
    (bif decide ((0 : Int) ≤ v13 ∧ v13 < (a9.length : Int)) then
    (let v14 : Int := (IntKind.wrap .i64 (a5 + a8))
    (bif decide ((0 : Int) ≤ v14 ∧ v14 < (a9.length : Int)) then
    (dup (bif decide ((0 : Int) ≤ v11 ∧ v11 < (a9.length : Int)) then
    (let v15 : List ty1 := (a9.set (Int.toNat v11) (nthI a9 v13 df2))
    (bif decide ((0 : Int) ≤ v12 ∧ v12 < (v15.length : Int)) then
    (let v16 : List ty1 := (v15.set (Int.toNat v12) (nthI a9 v14 df2))
    (G.slices.swapRangeCmpFunc_Pane_l0 m e1_0 a5 a6 a7 (IntKind.wrap .i64 (a8 + 1)) v16))
    else
    none))
    else
    none))
    else
    none))
    else
    none))))
    else
    (e1_0 a9))
noncomputable def G.slices.swapRangeCmpFunc_Pane (a1 a2 a3 : Int) (a4 : List ty1) : Option ((List ty1)) :=
(G.slices.swapRangeCmpFunc_Pane_l0 fu (fun y18 =>
(some y18)) a1 a2 a3 0 a4)
noncomputable def H32_1 : LoopH := ⟨⟨((.one (.sl 0)) :: hh :: hh :: hh :: (hu 6 (hh :: (hu 27 [])))), [], [(35, sh2, .own)]⟩, (rg 4 6 ++ rg 11 27), [], (rg 0 38), [], []⟩
noncomputable def k32_1 : List PK := (ki 4 [.row sh2])
noncomputable def W32_1 (m : Nat) (k : Kont ((List ty1))) : Cur k32_1 (Option ((List ty1))) := G.slices.swapRangeCmpFunc_Pane_l0 m (exF k (.exit 0) ⟨(hu 38 []), [], [(35, sh2, .own)]⟩ [.row sh2])
noncomputable def E32_1 (m : Nat) : List Prm → Kont ((List ty1)) → Option ((List ty1)) := eL k32_1 (W32_1 m)
theorem ev32_1 (m : Nat) (k : Kont ((List ty1))) (a : Args k32_1) : evL Try.prog G32 loopNil c32_1 (turn Try.prog (0, 1) H32_1 (E32_1 m) k) (H32_1.sk.fl (encP k32_1 a)) = unc k32_1 (W32_1 (m + 1) k) a := by kernel_rfl
theorem ok32_1 (m : Nat) : LoopOk Try.prog (0, 1) c32_1 (enter Try.prog (0, 1) H32_1 (E32_1 m)) := loop_gen (Fl := W32_1) (G := G32) (L := loopNil) envNil_good (no_loops (c := c32_1) (by kernel_rfl)) (fun _ _ => by kernel_rfl) ev32_1 m
noncomputable def L32 : LEnv ((List ty1)) := (loopCons 1 (enter Try.prog (0, 1) H32_1 (E32_1 fu)) loopNil)
theorem lq32 : loopsOf c32 = [c32_1] := by kernel_rfl
theorem fr32_1 : firstReg c32_1 = some 1 := by kernel_rfl
theorem le32_1 : L32 1 = enter Try.prog (0, 1) H32_1 (E32_1 fu) := by kernel_rfl
theorem lm32 : ∀ x ∈ [c32_1], ∀ id, firstReg x = some id → LoopOk Try.prog (0, 1) x (L32 id) := (loops_cons fr32_1 le32_1 (ok32_1 fu) loops_nil)
theorem lp32 : ∀ x ∈ loopsOf c32, ∀ id, firstReg x = some id → LoopOk Try.prog (0, 1) x (L32 id) := loops_eq lq32 lm32
noncomputable def sg32 : Sg := ⟨⟨[.one (.sl 0), hh, hh, hh, .one (.fn 17 [])], [], [(35, sh2, .own)]⟩, (ki 3 [.row sh2]), ⟨[], [], [(35, sh2, .own)]⟩, [.row sh2]⟩
noncomputable def E32 : Fun2 := eOf sg32 G.slices.swapRangeCmpFunc_Pane
theorem ev32 (a : Args sg32.ks) : evS Try.prog G32 L32 (0, 1) [] Try.f32 c32 (kOf sg32) (sg32.sk.fl (encP sg32.ks a)) = unc sg32.ks G.slices.swapRangeCmpFunc_Pane a := by kernel_rfl
theorem good32 : Vm.Good Try.prog 32 E32 := good_gen (G := G32) (L := L32) (c := c32) (rn := []) (N := (0, 1)) envNil_good lp32 Try.func32 (by kernel_rfl) (by kernel_rfl) (fun _ => by kernel_rfl) ev32
noncomputable def G31 : Env := (envConsH 32 [0] E32 envNil)
noncomputable def c31 : Code := bodyOf Try.f31
noncomputable def c31_2 : Code := (loopsOf c31).getD 0 .skip
noncomputable def G.slices.rotateCmpFunc_Pane_l0 : Nat → (Int → Int → (List ty1) → Option ((List ty1))) → Int → Int → Int → (List ty1) → Option ((List ty1))
  | 0, _, _, _, _, _ => none
  | m + 1, e2_0, a7, a8, a9, a10 =>
    (bif (a8 != a9) then
    (bif (decide (a9 < a8)) then
    (Option.bind (G.slices.swapRangeCmpFunc_Pane (IntKind.wrap .i64 (a7 - a8)) a7 a9 a10) fun r13 =>
    (keep sh2 a10 r13
    (G.slices.rotateCmpFunc_Pane_l0 m e2_0 a7 (IntKind.wrap .i64 (a8 - a9)) a9 r13)))
    else
    (Option.bind (G.slices.swapRangeCmpFunc_Pane (IntKind.wrap .i64 (a7 - a8)) (IntKind.wrap .i64 ((IntKind.wrap .i64 (a7 + a9)) - a8)) a8 a10) fun r18 =>
    (keep sh2 a10 r18
    (G.slices.rotateCmpFunc_Pane_l0 m e2_0 a7 a8 (IntKind.wrap .i64 (a9 - a8)) r18))))
    else
    (e2_0 a7 a8 a10))
noncomputable def G.slices.rotateCmpFunc_Pane (a1 a2 a3 : Int) (a4 : List ty1) : Option ((List ty1)) :=
(G.slices.rotateCmpFunc_Pane_l0 fu (fun y20 y21 y22 =>
(Option.bind (G.slices.swapRangeCmpFunc_Pane (IntKind.wrap .i64 (y20 - y21)) y20 y21 y22) fun r24 =>
(keep sh2 y22 r24
(some r24)))) a2 (IntKind.wrap .i64 (a2 - a1)) (IntKind.wrap .i64 (a3 - a2)) a4)
noncomputable def H31_2 : LoopH := ⟨⟨((.one (.sl 0)) :: (.one (.unk)) :: hh :: (.one (.unk)) :: (.one (.fn 17 [])) :: (hu 5 (hh :: hh :: (hu 46 [])))), [], [(35, sh2, .own)]⟩, ([1, 3] ++ rg 5 5 ++ rg 12 46), [], ([1, 3] ++ rg 5 5 ++ rg 11 47), [], []⟩
noncomputable def k31_2 : List PK := (ki 3 [.row sh2])
noncomputable def W31_2 (m : Nat) (k : Kont ((List ty1))) : Cur k31_2 (Option ((List ty1))) := G.slices.rotateCmpFunc_Pane_l0 m (exF k (.exit 0) ⟨((.one (.sl 0)) :: (.one (.unk)) :: hh :: (.one (.unk)) :: (.one (.fn 17 [])) :: (hu 5 (hh :: (hu 47 [])))), [], [(35, sh2, .own)]⟩ (ki 2 [.row sh2]))
noncomputable def E31_2 (m : Nat) : List Prm → Kont ((List ty1)) → Option ((List ty1)) := eL k31_2 (W31_2 m)
theorem ev31_2 (m : Nat) (k : Kont ((List ty1))) (a : Args k31_2) : evL Try.prog G31 loopNil c31_2 (turn Try.prog (0, 1) H31_2 (E31_2 m) k) (H31_2.sk.fl (encP k31_2 a)) = unc k31_2 (W31_2 (m + 1) k) a := by kernel_rfl
theorem ok31_2 (m : Nat) : LoopOk Try.prog (0, 1) c31_2 (enter Try.prog (0, 1) H31_2 (E31_2 m)) := loop_gen (Fl := W31_2) (G := G31) (L := loopNil) (envConsH_good good32 envNil_good) (no_loops (c := c31_2) (by kernel_rfl)) (fun _ _ => by kernel_rfl) ev31_2 m
noncomputable def L31 : LEnv ((List ty1)) := (loopCons 2 (enter Try.prog (0, 1) H31_2 (E31_2 fu)) loopNil)
theorem lq31 : loopsOf c31 = [c31_2] := by kernel_rfl
theorem fr31_2 : firstReg c31_2 = some 2 := by kernel_rfl
theorem le31_2 : L31 2 = enter Try.prog (0, 1) H31_2 (E31_2 fu) := by kernel_rfl
theorem lm31 : ∀ x ∈ [c31_2], ∀ id, firstReg x = some id → LoopOk Try.prog (0, 1) x (L31 id) := (loops_cons fr31_2 le31_2 (ok31_2 fu) loops_nil)
theorem lp31 : ∀ x ∈ loopsOf c31, ∀ id, firstReg x = some id → LoopOk Try.prog (0, 1) x (L31 id) := loops_eq lq31 lm31
noncomputable def sg31 : Sg := ⟨⟨[.one (.sl 0), hh, hh, hh, .one (.fn 17 [])], [], [(35, sh2, .own)]⟩, (ki 3 [.row sh2]), ⟨[], [], [(35, sh2, .own)]⟩, [.row sh2]⟩
noncomputable def E31 : Fun2 := eOf sg31 G.slices.rotateCmpFunc_Pane
theorem ev31 (a : Args sg31.ks) : evS Try.prog G31 L31 (0, 1) [] Try.f31 c31 (kOf sg31) (sg31.sk.fl (encP sg31.ks a)) = unc sg31.ks G.slices.rotateCmpFunc_Pane a := by kernel_rfl
theorem good31 : Vm.Good Try.prog 31 E31 := good_gen (G := G31) (L := L31) (c := c31) (rn := []) (N := (0, 1)) (envConsH_good good32 envNil_good) lp31 Try.func31 (by kernel_rfl) (by kernel_rfl) (fun _ => by kernel_rfl) ev31
noncomputable def c29 : Code := bodyOf Try.f29
noncomputable def c29_3 : Code := (loopsOf c29).getD 0 .skip
noncomputable def c29_9 : Code := (loopsOf c29).getD 1 .skip
noncomputable def c29_15 : Code := (loopsOf c29).getD 2 .skip
noncomputable def c29_21 : Code := (loopsOf c29).getD 3 .skip
noncomputable def c29_33 : Code := (loopsOf c29).getD 4 .skip
noncomputable def G.slices.symMergeCmpFunc_Pane_l0 : Nat → (Int → Int → (List ty1) → Option ((List ty1))) → Int → Int → Int → (List ty1) → Option ((List ty1))
  | 0, _, _, _, _, _ => none
  | m + 1, e3_0, a6, a7, a8, a9 =>
    (bif (decide (a7 < a8)) then
    (bif decide ((0 : Int) ≤ 1) then
    (let v14 : Int := (IntKind.wrap .i64 (Int.fdiv (IntKind.wrap .u64 (IntKind.wrap .i64 (a7 + a8))) (2 ^ min (Int.toNat 1) (IntKind.bits .u64))))
    (bif decide ((0 : Int) ≤ v14 ∧ v14 < (a9.length : Int)) then
    (bif decide ((0 : Int) ≤ a6 ∧ a6 < (a9.length : Int)) then
    (dup (Option.bind (I.comparePanes ((nthI a9 v14 df2).1) ((nthI a9 v14 df2).2.1) ((nthI a9 v14 df2).2.2.1) ((nthI a9 v14 df2).2.2.2.1) ((nthI a9 v14 df2).2.2.2.2.1) ((nthI a9 v14 df2).2.2.2.2.2.1) ((nthI a9 v14 df2).2.2.2.2.2.2.2) ((nthI a9 a6 df2).1) ((nthI a9 a6 df2).2.1) ((nthI a9 a6 df2).2.2.1) ((nthI a9 a6 df2).2.2.2.1) ((nthI a9 a6 df2).2.2.2.2.1) ((nthI a9 a6 df2).2.2.2.2.2.1) ((nthI a9 a6 df2).2.2.2.2.2.2.2) ((nthI a9 v14 df2).2.2.2.2.2.2.1.2) ((nthI a9 a6 df2).2.2.2.2.2.2.1.2)) fun r15 =>
    (bif (decide (r15 < 0)) then
    (G.slices.symMergeCmpFunc_Pane_l0 m e3_0 a6 (IntKind.wrap .i64 (v14 + 1)) a8 a9)
    else
    (G.slices.symMergeCmpFunc_Pane_l0 m e3_0 a6 a7 v14 a9))))
    else
    none)
    else
    none))
    else
    none)
    else
    (e3_0 a6 a7 a9))
noncomputable def G.slices.symMergeCmpFunc_Pane_l1 : Nat → ((List ty1) → Option ((List ty1))) → Int → Int → (List ty1) → Option ((List ty1))
  | 0, _, _, _, _ => none
  | m + 1, e9_0, a21, a22, a23 =>
    (bif (decide (a22 < (IntKind.wrap .i64 (a21 - 1)))) then
    (let v26 : Int := (IntKind.wrap .i64 (a22 + 1))
    (let v27 : Int := (IntKind.wrap .i64 (a22 + 1))
    (bif decide ((0 : Int) ≤ v27 ∧ v27 < (a23.length : Int)) then
    (bif decide ((0 : Int) ≤ a22 ∧ a22 < (a23.length : Int)) then
    (dup (bif decide ((0 : Int) ≤ a22 ∧ a22 < (a23.length : Int)) then
    (let v28 : List ty1 := (a23.set (Int.toNat a22) (nthI a23 v27 df2))
    (bif decide ((0 : Int) ≤ v26 ∧ v26 < (v28.length : Int)) then
    (let v29 : List ty1 := (v28.set (Int.toNat v26) (nthI a23 a22 df2))
    (G.slices.symMergeCmpFunc_Pane_l1 m e9_0 a21 (IntKind.wrap .i64 (a22 + 1)) v29))
    else
    none))
    else
    none))
    else
    none)
    else
    none)))
    else
    (e9_0 a23))
noncomputable def G.slices.symMergeCmpFunc_Pane_l2 : Nat → (Int → Int → (List ty1) → Option ((List ty1))) → Int → Int → Int → (List ty1) → Option ((List ty1))
  | 0, _, _, _, _, _ => none
  | m + 1, e15_0, a33, a34, a35, a36 =>
    (bif (decide (a34 < a35)) then
    (bif decide ((0 : Int) ≤ 1) then
    (let v41 : Int := (IntKind.wrap .i64 (Int.fdiv (IntKind.wrap .u64 (IntKind.wrap .i64 (a34 + a35))) (2 ^ min (Int.toNat 1) (IntKind.bits .u64))))
    (bif decide ((0 : Int) ≤ a33 ∧ a33 < (a36.length : Int)) then
    (bif decide ((0 : Int) ≤ v41 ∧ v41 < (a36.length : Int)) then
    (dup (Option.bind (I.comparePanes ((nthI a36 a33 df2).1) ((nthI a36 a33 df2).2.1) ((nthI a36 a33 df2).2.2.1) ((nthI a36 a33 df2).2.2.2.1) ((nthI a36 a33 df2).2.2.2.2.1) ((nthI a36 a33 df2).2.2.2.2.2.1) ((nthI a36 a33 df2).2.2.2.2.2.2.2) ((nthI a36 v41 df2).1) ((nthI a36 v41 df2).2.1) ((nthI a36 v41 df2).2.2.1) ((nthI a36 v41 df2).2.2.2.1) ((nthI a36 v41 df2).2.2.2.2.1) ((nthI a36 v41 df2).2.2.2.2.2.1) ((nthI a36 v41 df2).2.2.2.2.2.2.2) ((nthI a36 a33 df2).2.2.2.2.2.2.1.2) ((nthI a36 v41 df2).2.2.2.2.2.2.1.2)) fun r42 =>
    (bif (!(decide (r42 < 0))) then
    (G.slices.symMergeCmpFunc_Pane_l2 m e15_0 a33 (IntKind.wrap .i64 (v41 + 1)) a35 a36)
    else
    (G.slices.symMergeCmpFunc_Pane_l2 m e15_0 a33 a34 v41 a36))))
    else
    none)
    else
    none))
    else
    none)
    else
    (e15_0 a33 a34 a36))
noncomputable def G.slices.symMergeCmpFunc_Pane_l3 : Nat → ((List ty1) → Option ((List ty1))) → Int → Int → (List ty1) → Option ((List ty1))
  | 0, _, _, _, _ => none
  | m + 1, e21_0, a48, a49, a50 =>
    (bif (decide (a48 < a49)) then
    (let v52 : Int := (IntKind.wrap .i64 (a49 - 1))
    (let v53 : Int := (IntKind.wrap .i64 (a49 - 1))
    (bif decide ((0 : Int) ≤ v53 ∧ v53 < (a50.length : Int)) then
    (bif decide ((0 : Int) ≤ a49 ∧ a49 < (a50.length : Int)) then
    (dup (bif decide ((0 : Int) ≤ a49 ∧ a49 < (a50.length : Int)) then
    (let v54 : List ty1 := (a50.set (Int.toNat a49) (nthI a50 v53 df2))
    (bif decide ((0 : Int) ≤ v52 ∧ v52 < (v54.length : Int)) then
    (let v55 : List ty1 := (v54.set (Int.toNat v52) (nthI a50 a49 df2))
    (G.slices.symMergeCmpFunc_Pane_l3 m e21_0 a48 (IntKind.wrap .i64 (a49 - 1)) v55))
    else
    none))
    else
    none))
    else
    none)
    else
    none)))
    else
    (e21_0 a50))
noncomputable def G.slices.symMergeCmpFunc_Pane_l4 : Nat → (Int → Int → Int → Int → Int → Int → (List ty1) → Option ((List ty1))) → Int → Int → Int → Int → Int → Int → Int → Int → (List ty1) → Option ((List ty1))
  | 0, _, _, _, _, _, _, _, _, _, _ => none
  | m + 1, e33_0, a66, a67, a68, a69, a70, a71, a72, a73, a74 =>
    (bif (decide (a71 < a72)) then
    (bif decide ((0 : Int) ≤ 1) then
    (let v79 : Int := (IntKind.wrap .i64 (Int.fdiv (IntKind.wrap .u64 (IntKind.wrap .i64 (a71 + a72))) (2 ^ min (Int.toNat 1) (IntKind.bits .u64))))
    (let v80 : Int := (IntKind.wrap .i64 (a73 - v79))
    (bif decide ((0 : Int) ≤ v80 ∧ v80 < (a74.length : Int)) then
    (bif decide ((0 : Int) ≤ v79 ∧ v79 < (a74.length : Int)) then
    (dup (Option.bind (I.comparePanes ((nthI a74 v80 df2).1) ((nthI a74 v80 df2).2.1) ((nthI a74 v80 df2).2.2.1) ((nthI a74 v80 df2).2.2.2.1) ((nthI a74 v80 df2).2.2.2.2.1) ((nthI a74 v80 df2).2.2.2.2.2.1) ((nthI a74 v80 df2).2.2.2.2.2.2.2) ((nthI a74 v79 df2).1) ((nthI a74 v79 df2).2.1) ((nthI a74 v79 df2).2.2.1) ((nthI a74 v79 df2).2.2.2.1) ((nthI a74 v79 df2).2.2.2.2.1) ((nthI a74 v79 df2).2.2.2.2.2.1) ((nthI a74 v79 df2).2.2.2.2.2.2.2) ((nthI a74 v80 df2).2.2.2.2.2.2.1.2) ((nthI a74 v79 df2).2.2.2.2.2.2.1.2)) fun r81 =>
    (bif (!(decide (r81 < 0))) then
    (G.slices.symMergeCmpFunc_Pane_l4 m e33_0 a66 a67 a68 a69 a70 (IntKind.wrap .i64 (v79 + 1)) a72 a73 a74)
    else
    (G.slices.symMergeCmpFunc_Pane_l4 m e33_0 a66 a67 a68 a69 a70 a71 v79 a73 a74))))
    else
    none)
    else
    none)))
    else
    none)
    else
    (e33_0 a66 a67 a68 a69 a70 a71 a74))
noncomputable def G.slices.symMergeCmpFunc_Pane : Nat → Int → Int → Int → (List ty1) → Option ((List ty1))
  | 0, _, _, _, _ => none
  | m + 1, a1, a2, a3, a4 =>
    (bif ((IntKind.wrap .i64 (a2 - a1)) == 1) then
    (G.slices.symMergeCmpFunc_Pane_l0 fu (fun y18 y19 y20 =>
    (G.slices.symMergeCmpFunc_Pane_l1 fu (fun y31 =>
    (some y31)) y19 y18 y20)) a1 a2 a3 a4)
    else
    (bif ((IntKind.wrap .i64 (a3 - a2)) == 1) then
    (G.slices.symMergeCmpFunc_Pane_l2 fu (fun y45 y46 y47 =>
    (G.slices.symMergeCmpFunc_Pane_l3 fu (fun y57 =>
    (some y57)) y46 y45 y47)) a2 a1 a2 a4)
    else
    (bif decide ((0 : Int) ≤ 1) then
    (let v61 : Int := (IntKind.wrap .i64 (Int.fdiv (IntKind.wrap .u64 (IntKind.wrap .i64 (a1 + a3))) (2 ^ min (Int.toNat 1) (IntKind.bits .u64))))
    (let v62 : Int := (IntKind.wrap .i64 (v61 + a2))
    (bif (decide (v61 < a2)) then
    (G.slices.symMergeCmpFunc_Pane_l4 fu (fun y84 y85 y86 y87 y88 y89 y90 =>
    (let v91 : Int := (IntKind.wrap .i64 (y88 - y89))
    (bif (decide (y89 < y85)) then
    (bif (decide (y85 < v91)) then
    (Option.bind (G.slices.rotateCmpFunc_Pane y89 y85 v91 y90) fun r94 =>
    (keep sh2 y90 r94
    (bif (decide (y84 < y89)) then
    (bif (decide (y89 < y87)) then
    (Option.bind (G.slices.symMergeCmpFunc_Pane m y84 y89 y87 r94) fun r97 =>
    (keep sh2 r94 r97
    (bif (decide (y87 < v91)) then
    (bif (decide (v91 < y86)) then
    (Option.bind (G.slices.symMergeCmpFunc_Pane m y87 v91 y86 r97) fun r100 =>
    (keep sh2 r97 r100
    (some r100)))
    else
    (some r97))
    else
    (some r97))))
    else
    (bif (decide (y87 < v91)) then
    (bif (decide (v91 < y86)) then
    (Option.bind (G.slices.symMergeCmpFunc_Pane m y87 v91 y86 r94) fun r103 =>
    (keep sh2 r94 r103
    (some r103)))
    else
    (some r94))
    else
    (some r94)))
    else
    (bif (decide (y87 < v91)) then
    (bif (decide (v91 < y86)) then
    (Option.bind (G.slices.symMergeCmpFunc_Pane m y87 v91 y86 r94) fun r106 =>
    (keep sh2 r94 r106
    (some r106)))
    else
    (some r94))
    else
    (some r94)))))
    else
    (bif (decide (y84 < y89)) then
    (bif (decide (y89 < y87)) then
    (Option.bind (G.slices.symMergeCmpFunc_Pane m y84 y89 y87 y90) fun r109 =>
    (keep sh2 y90 r109
    (bif (decide (y87 < v91)) then
    (bif (decide (v91 < y86)) then
    (Option.bind (G.slices.symMergeCmpFunc_Pane m y87 v91 y86 r109) fun r112 =>
    (keep sh2 r109 r112
    (some r112)))
    else
    (some r109))
    else
    (some r109))))
    else
    (bif (decide (y87 < v91)) then
    (bif (decide (v91 < y86)) then
    (Option.bind (G.slices.symMergeCmpFunc_Pane m y87 v91 y86 y90) fun r115 =>
    (keep sh2 y90 r115
    (some r115)))
    else
    (some y90))
    else
    (some y90)))
    else
    (bif (decide (y87 < v91)) then
    (bif (decide (v91 < y86)) then
    (Option.bind (G.slices.symMergeCmpFunc_Pane m y87 v91 y86 y90) fun r118 =>
    (keep sh2 y90 r118
    (some r118)))
    else
    (some y90))
    else
    (some y90))))
    else
    (bif (decide (y84 < y89)) then
    (bif (decide (y89 < y87)) then
    (Option.bind (G.slices.symMergeCmpFunc_Pane m y84 y89 y87 y90) fun r121 =>
    (keep sh2 y90 r121
    (bif (decide (y87 < v91)) then
    (bif (decide (v91 < y86)) then
    (Option.bind (G.slices.symMergeCmpFunc_Pane m y87 v91 y86 r121) fun r124 =>
    (keep sh2 r121 r124
    (some r124)))
    else
    (some r121))
    else
    (some r121))))
    else
    (bif (decide (y87 < v91)) then
    (bif (decide (v91 < y86)) then
    (Option.bind (G.slices.symMergeCmpFunc_Pane m y87 v91 y86 y90) fun r127 =>
    (keep sh2 y90 r127
    (some r127)))
    else
    (some y90))
    else
    (some y90)))
    else
    (bif (decide (y87 < v91)) then
    (bif (decide (v91 < y86)) then
    (Option.bind (G.slices.symMergeCmpFunc_Pane m y87 v91 y86 y90) fun r130 =>
    (keep sh2 y90 r130
    (some r130)))
    else
    (some y90))
    else
    (some y90)))))) a1 a2 a3 v61 v62 (IntKind.wrap .i64 (v62 - a3)) v61 (IntKind.wrap .i64 (v62 - 1)) a4)
    else
    (G.slices.symMergeCmpFunc_Pane_l4 fu (fun y132 y133 y134 y135 y136 y137 y138 =>
    (let v139 : Int := (IntKind.wrap .i64 (y136 - y137))
    (bif (decide (y137 < y133)) then
    (bif (decide (y133 < v139)) then
    (Option.bind (G.slices.rotateCmpFunc_Pane y137 y133 v139 y138) fun r142 =>
    (keep sh2 y138 r142
    (bif (decide (y132 < y137)) then
    (bif (decide (y137 < y135)) then
    (Option.bind (G.slices.symMergeCmpFunc_Pane m y132 y137 y135 r142) fun r145 =>
    (keep sh2 r142 r145
    (bif (decide (y135 < v139)) then
    (bif (decide (v139 < y134)) then
    (Option.bind (G.slices.symMergeCmpFunc_Pane m y135 v139 y134 r145) fun r148 =>
    (keep sh2 r145 r148
    (some r148)))
    else
    (some r145))
    else
    (some r145))))
    else
    (bif (decide (y135 < v139)) then
    (bif (decide (v139 < y134)) then
    (Option.bind (G.slices.symMergeCmpFunc_Pane m y135 v139 y134 r142) fun r151 =>
    (keep sh2 r142 r151
    (some r151)))
    else
    (some r142))
    else
    (some r142)))
    else
    (bif (decide (y135 < v139)) then
    (bif (decide (v139 < y134)) then
    (Option.bind (G.slices.symMergeCmpFunc_Pane m y135 v139 y134 r142) fun r154 =>
    (keep sh2 r142 r154
    (some r154)))
    else
    (some r142))
    else
    (some r142)))))
    else
    (bif (decide (y132 < y137)) then
    (bif (decide (y137 < y135)) then
    (Option.bind (G.slices.symMergeCmpFunc_Pane m y132 y137 y135 y138) fun r157 =>
    (keep sh2 y138 r157
    (bif (decide (y135 < v139)) then
    (bif (decide (v139 < y134)) then
    (Option.bind (G.slices.symMergeCmpFunc_Pane m y135 v139 y134 r157) fun r160 =>
    (keep sh2 r157 r160
    (some r160)))
    else
    (some r157))
    else
    (some r157))))
    else
    (bif (decide (y135 < v139)) then
    (bif (decide (v139 < y134)) then
    (Option.bind (G.slices.symMergeCmpFunc_Pane m y135 v139 y134 y138) fun r163 =>
    (keep sh2 y138 r163
    (some r163)))
    else
    (some y138))
    else
    (some y138)))
    else
    (bif (decide (y135 < v139)) then
    (bif (decide (v139 < y134)) then
    (Option.bind (G.slices.symMergeCmpFunc_Pane m y135 v139 y134 y138) fun r166 =>
    (keep sh2 y138 r166
    (some r166)))
    else
    (some y138))
    else
    (some y138))))
    else
    (bif (decide (y132 < y137)) then
    (bif (decide (y137 < y135)) then
    (Option.bind (G.slices.symMergeCmpFunc_Pane m y132 y137 y135 y138) fun r169 =>
    (keep sh2 y138 r169
    (bif (decide (y135 < v139)) then
    (bif (decide (v139 < y134)) then
    (Option.bind (G.slices.symMergeCmpFunc_Pane m y135 v139 y134 r169) fun r172 =>
    (keep sh2 r169 r172
    (some r172)))
    else
    (some r169))
    else
    (some r169))))
    else
    (bif (decide (y135 < v139)) then
    (bif (decide (v139 < y134)) then
    (Option.bind (G.slices.symMergeCmpFunc_Pane m y135 v139 y134 y138) fun r175 =>
    (keep sh2 y138 r175
    (some r175)))
    else
    (some y138))
    else
    (some y138)))
    else
    (bif (decide (y135 < v139)) then
    (bif (decide (v139 < y134)) then
    (Option.bind (G.slices.symMergeCmpFunc_Pane m y135 v139 y134 y138) fun r178 =>
    (keep sh2 y138 r178
    (some r178)))
    else
    (some y138))
    else
    (some y138)))))) a1 a2 a3 v61 v62 a1 a2 (IntKind.wrap .i64 (v62 - 1)) a4))))
    else
    none)))
noncomputable def sg29 : Sg := ⟨⟨[.one (.sl 0), hh, hh, hh, .one (.fn 17 [])], [], [(35, sh2, .own)]⟩, (ki 3 [.row sh2]), ⟨[], [], [(35, sh2, .own)]⟩, [.row sh2]⟩
noncomputable def E29 (m : Nat) : Fun2 := eOf sg29 (G.slices.symMergeCmpFunc_Pane m)
theorem good029 : Vm.Good Try.prog 29 (E29 0) := good_zero (c := c29) Try.func29 (by kernel_rfl) (by kernel_rfl) (fun _ => by kernel_rfl)
noncomputable def G29 (m : Nat) : Env := (envConsH 29 [0] (E29 m) (envCons 17 [] E17 (envConsH 31 [0] E31 envNil)))
noncomputable def H29_3 : LoopH := ⟨⟨((.one (.sl 0)) :: hh :: (hu 2 ((.one (.fn 17 [])) :: (hu 5 (hh :: hh :: (hu 208 [])))))), [], [(35, sh2, .own)]⟩, ([2, 3] ++ rg 5 5 ++ rg 12 208), [], (rg 2 8 ++ rg 11 209), [], []⟩
noncomputable def k29_3 : List PK := (ki 3 [.row sh2])
noncomputable def W29_3 (m : Nat) (k : Kont ((List ty1))) : Cur k29_3 (Option ((List ty1))) := G.slices.symMergeCmpFunc_Pane_l0 m (exF k (.exit 0) ⟨((.one (.sl 0)) :: hh :: (hu 8 (hh :: (hu 209 [])))), [], [(35, sh2, .own)]⟩ (ki 2 [.row sh2]))
noncomputable def E29_3 (m : Nat) : List Prm → Kont ((List ty1)) → Option ((List ty1)) := eL k29_3 (W29_3 m)
theorem ev29_3 (m : Nat) (k : Kont ((List ty1))) (a : Args k29_3) : evL Try.prog (G29 0) loopNil c29_3 (turn Try.prog (0, 1) H29_3 (E29_3 m) k) (H29_3.sk.fl (encP k29_3 a)) = unc k29_3 (W29_3 (m + 1) k) a := by kernel_rfl
theorem ok29_3 (m : Nat) : LoopOk Try.prog (0, 1) c29_3 (enter Try.prog (0, 1) H29_3 (E29_3 m)) := loop_gen (Fl := W29_3) (G := (G29 0)) (L := loopNil) (envConsH_good good029 (envCons_good good17 (envConsH_good good31 envNil_good))) (no_loops (c := c29_3) (by kernel_rfl)) (fun _ _ => by kernel_rfl) ev29_3 m
noncomputable def H29_9 : LoopH := ⟨⟨((.one (.sl 0)) :: (hu 9 (hh :: (hu 2 (hh :: (hu 206 [])))))), [], [(35, sh2, .own)]⟩, (rg 1 9 ++ [11, 12] ++ rg 14 206), [], (rg 0 220), [], []⟩
noncomputable def k29_9 : List PK := (ki 2 [.row sh2])
noncomputable def W29_9 (m : Nat) (k : Kont ((List ty1))) : Cur k29_9 (Option ((List ty1))) := G.slices.symMergeCmpFunc_Pane_l1 m (exF k (.exit 2) ⟨(hu 220 []), [], [(35, sh2, .own)]⟩ [.row sh2])
noncomputable def E29_9 (m : Nat) : List Prm → Kont ((List ty1)) → Option ((List ty1)) := eL k29_9 (W29_9 m)
theorem ev29_9 (m : Nat) (k : Kont ((List ty1))) (a : Args k29_9) : evL Try.prog (G29 0) loopNil c29_9 (turn Try.prog (0, 1) H29_9 (E29_9 m) k) (H29_9.sk.fl (encP k29_9 a)) = unc k29_9 (W29_9 (m + 1) k) a := by kernel_rfl
theorem ok29_9 (m : Nat) : LoopOk Try.prog (0, 1) c29_9 (enter Try.prog (0, 1) H29_9 (E29_9 m)) := loop_gen (Fl := W29_9) (G := (G29 0)) (L := loopNil) (envConsH_good good029 (envCons_good good17 (envConsH_good good31 envNil_good))) (no_loops (c := c29_9) (by kernel_rfl)) (fun _ _ => by kernel_rfl) ev29_9 m
noncomputable def H29_15 : LoopH := ⟨⟨((.one (.sl 0)) :: (.one (.unk)) :: hh :: (.one (.unk)) :: (.one (.fn 17 [])) :: (hu 9 (hh :: hh :: (hu 204 [])))), [], [(35, sh2, .own)]⟩, ([1, 3] ++ rg 5 9 ++ rg 16 204), [], ([1] ++ rg 3 11 ++ rg 15 205), [], []⟩
noncomputable def k29_15 : List PK := (ki 3 [.row sh2])
noncomputable def W29_15 (m : Nat) (k : Kont ((List ty1))) : Cur k29_15 (Option ((List ty1))) := G.slices.symMergeCmpFunc_Pane_l2 m (exF k (.exit 4) ⟨((.one (.sl 0)) :: (.one (.unk)) :: hh :: (hu 11 (hh :: (hu 205 [])))), [], [(35, sh2, .own)]⟩ (ki 2 [.row sh2]))
noncomputable def E29_15 (m : Nat) : List Prm → Kont ((List ty1)) → Option ((List ty1)) := eL k29_15 (W29_15 m)
theorem ev29_15 (m : Nat) (k : Kont ((List ty1))) (a : Args k29_15) : evL Try.prog (G29 0) loopNil c29_15 (turn Try.prog (0, 1) H29_15 (E29_15 m) k) (H29_15.sk.fl (encP k29_15 a)) = unc k29_15 (W29_15 (m + 1) k) a := by kernel_rfl
theorem ok29_15 (m : Nat) : LoopOk Try.prog (0, 1) c29_15 (enter Try.prog (0, 1) H29_15 (E29_15 m)) := loop_gen (Fl := W29_15) (G := (G29 0)) (L := loopNil) (envConsH_good good029 (envCons_good good17 (envConsH_good good31 envNil_good))) (no_loops (c := c29_15) (by kernel_rfl)) (fun _ _ => by kernel_rfl) ev29_15 m
noncomputable def H29_21 : LoopH := ⟨⟨((.one (.sl 0)) :: (hu 13 (hh :: (hu 2 (hh :: (hu 202 [])))))), [], [(35, sh2, .own)]⟩, (rg 1 13 ++ [15, 16] ++ rg 18 202), [], (rg 0 220), [], []⟩
noncomputable def k29_21 : List PK := (ki 2 [.row sh2])
noncomputable def W29_21 (m : Nat) (k : Kont ((List ty1))) : Cur k29_21 (Option ((List ty1))) := G.slices.symMergeCmpFunc_Pane_l3 m (exF k (.exit 6) ⟨(hu 220 []), [], [(35, sh2, .own)]⟩ [.row sh2])
noncomputable def E29_21 (m : Nat) : List Prm → Kont ((List ty1)) → Option ((List ty1)) := eL k29_21 (W29_21 m)
theorem ev29_21 (m : Nat) (k : Kont ((List ty1))) (a : Args k29_21) : evL Try.prog (G29 0) loopNil c29_21 (turn Try.prog (0, 1) H29_21 (E29_21 m) k) (H29_21.sk.fl (encP k29_21 a)) = unc k29_21 (W29_21 (m + 1) k) a := by kernel_rfl
theorem ok29_21 (m : Nat) : LoopOk Try.prog (0, 1) c29_21 (enter Try.prog (0, 1) H29_21 (E29_21 m)) := loop_gen (Fl := W29_21) (G := (G29 0)) (L := loopNil) (envConsH_good good029 (envCons_good good17 (envConsH_good good31 envNil_good))) (no_loops (c := c29_21) (by kernel_rfl)) (fun _ _ => by kernel_rfl) ev29_21 m
noncomputable def H29_33 : LoopH := ⟨⟨((.one (.sl 0)) :: hh :: hh :: hh :: (.one (.fn 17 [])) :: (hu 13 (hh :: hh :: hh :: hh :: hh :: (hu 197 [])))), [], [(35, sh2, .own)]⟩, (rg 5 13 ++ rg 23 197), [], (rg 5 13 ++ rg 21 199), [], []⟩
noncomputable def k29_33 : List PK := (ki 8 [.row sh2])
noncomputable def W29_33 (m : Nat) (k : Kont ((List ty1))) : Cur k29_33 (Option ((List ty1))) := G.slices.symMergeCmpFunc_Pane_l4 m (exF k (.exit 8) ⟨((.one (.sl 0)) :: hh :: hh :: hh :: (.one (.fn 17 [])) :: (hu 13 (hh :: hh :: hh :: (hu 199 [])))), [], [(35, sh2, .own)]⟩ (ki 6 [.row sh2]))
noncomputable def E29_33 (m : Nat) : List Prm → Kont ((List ty1)) → Option ((List ty1)) := eL k29_33 (W29_33 m)
theorem ev29_33 (m : Nat) (k : Kont ((List ty1))) (a : Args k29_33) : evL Try.prog (G29 0) loopNil c29_33 (turn Try.prog (0, 1) H29_33 (E29_33 m) k) (H29_33.sk.fl (encP k29_33 a)) = unc k29_33 (W29_33 (m + 1) k) a := by kernel_rfl
theorem ok29_33 (m : Nat) : LoopOk Try.prog (0, 1) c29_33 (enter Try.prog (0, 1) H29_33 (E29_33 m)) := loop_gen (Fl := W29_33) (G := (G29 0)) (L := loopNil) (envConsH_good good029 (envCons_good good17 (envConsH_good good31 envNil_good))) (no_loops (c := c29_33) (by kernel_rfl)) (fun _ _ => by kernel_rfl) ev29_33 m
noncomputable def L29 : LEnv ((List ty1)) := (loopCons 3 (enter Try.prog (0, 1) H29_3 (E29_3 fu)) (loopCons 9 (enter Try.prog (0, 1) H29_9 (E29_9 fu)) (loopCons 15 (enter Try.prog (0, 1) H29_15 (E29_15 fu)) (loopCons 21 (enter Try.prog (0, 1) H29_21 (E29_21 fu)) (loopCons 33 (enter Try.prog (0, 1) H29_33 (E29_33 fu)) loopNil)))))
theorem lq29 : loopsOf c29 = [c29_3, c29_9, c29_15, c29_21, c29_33] := by kernel_rfl
theorem fr29_3 : firstReg c29_3 = some 3 := by kernel_rfl
theorem le29_3 : L29 3 = enter Try.prog (0, 1) H29_3 (E29_3 fu) := by kernel_rfl
theorem fr29_9 : firstReg c29_9 = some 9 := by kernel_rfl
theorem le29_9 : L29 9 = enter Try.prog (0, 1) H29_9 (E29_9 fu) := by kernel_rfl
theorem fr29_15 : firstReg c29_15 = some 15 := by kernel_rfl
theorem le29_15 : L29 15 = enter Try.prog (0, 1) H29_15 (E29_15 fu) := by kernel_rfl
theorem fr29_21 : firstReg c29_21 = some 21 := by kernel_rfl
theorem le29_21 : L29 21 = enter Try.prog (0, 1) H29_21 (E29_21 fu) := by kernel_rfl
theorem fr29_33 : firstReg c29_33 = some 33 := by kernel_rfl
theorem le29_33 : L29 33 = enter Try.prog (0, 1) H29_33 (E29_33 fu) := by kernel_rfl
theorem lm29 : ∀ x ∈ [c29_3, c29_9, c29_15, c29_21, c29_33], ∀ id, firstReg x = some id → LoopOk Try.prog (0, 1) x (L29 id) := (loops_cons fr29_3 le29_3 (ok29_3 fu) (loops_cons fr29_9 le29_9 (ok29_9 fu) (loops_cons fr29_15 le29_15 (ok29_15 fu) (loops_cons fr29_21 le29_21 (ok29_21 fu) (loops_cons fr29_33 le29_33 (ok29_33 fu) loops_nil)))))
theorem lp29 : ∀ x ∈ loopsOf c29, ∀ id, firstReg x = some id → LoopOk Try.prog (0, 1) x (L29 id) := loops_eq lq29 lm29
theorem ev29 (m : Nat) (a : Args sg29.ks) : evS Try.prog (G29 m) L29 (0, 1) [] Try.f29 c29 (kOf sg29) (sg29.sk.fl (encP sg29.ks a)) = unc sg29.ks (G.slices.symMergeCmpFunc_Pane (m + 1)) a := by kernel_rfl
theorem good29 (m : Nat) : Vm.Good Try.prog 29 (E29 m) := by
  induction m with
  | zero => exact good029
  | succ m ih => exact good_gen (G := G29 m) (L := L29) (c := c29) (rn := []) (N := (0, 1)) (envConsH_good ih (envCons_good good17 (envConsH_good good31 envNil_good))) lp29 Try.func29 (by kernel_rfl) (by kernel_rfl) (fun _ => by kernel_rfl) (ev29 m)
noncomputable def G24 : Env := (envConsH 28 [0] E28 (envConsH 29 [0] (E29 fu) envNil))
noncomputable def c24 : Code := bodyOf Try.f24
noncomputable def c24_2 : Code := (loopsOf c24).getD 0 .skip
noncomputable def c24_7 : Code := (loopsOf c24).getD 1 .skip
noncomputable def c24_9 : Code := (loopsOf c24_7).getD 0 .skip
noncomputable def G.slices.stableCmpFunc_Pane_l0 : Nat → (Int → Int → Int → (List ty1) → Option ((List ty1))) → Int → Int → Int → Int → (List ty1) → Option ((List ty1))
  | 0, _, _, _, _, _, _ => none
  | m + 1, e2_0, a3, a4, a5, a6, a7 =>
    (bif (decide (a6 ≤ a3)) then
    (Option.bind (G.slices.insertionSortCmpFunc_Pane a5 a6 a7) fun r9 =>
    (keep sh2 a7 r9
    (G.slices.stableCmpFunc_Pane_l0 m e2_0 a3 a4 a6 (IntKind.wrap .i64 (a6 + a4)) r9)))
    else
    (e2_0 a3 a4 a5 a7))
noncomputable def G.slices.stableCmpFunc_Pane_l2 : Nat → (Int → Int → Int → (List ty1) → Option ((List ty1))) → Int → Int → Int → Int → (List ty1) → Option ((List ty1))
  | 0, _, _, _, _, _, _ => none
  | m + 1, e9_0, a21, a22, a23, a24, a25 =>
    (bif (decide (a24 ≤ a21)) then
    (Option.bind (G.slices.symMergeCmpFunc_Pane fu a23 (IntKind.wrap .i64 (a23 + a22)) a24 a25) fun r28 =>
    (keep sh2 a25 r28
    (G.slices.stableCmpFunc_Pane_l2 m e9_0 a21 a22 a24 (IntKind.wrap .i64 (a24 + (IntKind.wrap .i64 (2 * a22)))) r28)))
    else
    (e9_0 a21 a22 a23 a25))
noncomputable def G.slices.stableCmpFunc_Pane_l1 : Nat → ((List ty1) → Option ((List ty1))) → Int → Int → (List ty1) → Option ((List ty1))
  | 0, _, _, _, _ => none
  | m + 1, e7_0, a16, a17, a18 =>
    (bif (decide (a17 < a16)) then
    (G.slices.stableCmpFunc_Pane_l2 fu (fun y31 y32 y33 y34 =>
    (let v35 : Int := (IntKind.wrap .i64 (y33 + y32))
    (bif (decide (v35 < y31)) then
    (Option.bind (G.slices.symMergeCmpFunc_Pane fu y33 v35 y31 y34) fun r37 =>
    (keep sh2 y34 r37
    (G.slices.stableCmpFunc_Pane_l1 m e7_0 y31 (IntKind.wrap .i64 (y32 * 2)) r37)))
    else
    (G.slices.stableCmpFunc_Pane_l1 m e7_0 y31 (IntKind.wrap .i64 (y32 * 2)) y34)))) a16 a17 0 (IntKind.wrap .i64 (2 * a17)) a18)
    else
    (e7_0 a18))
noncomputable def G.slices.stableCmpFunc_Pane (a1 : Int) (a2 : List ty1) : Option ((List ty1)) :=
(G.slices.stableCmpFunc_Pane_l0 fu (fun y11 y12 y13 y14 =>
(Option.bind (G.slices.insertionSortCmpFunc_Pane y13 y11 y14) fun r15 =>
(keep sh2 y14 r15
(G.slices.stableCmpFunc_Pane_l1 fu (fun y40 =>
(some y40)) y11 y12 r15)))) a1 20 0 20 a2)
noncomputable def H24_2 : LoopH := ⟨⟨((.one (.sl 0)) :: hh :: (.one (.fn 17 [])) :: (hu 3 (hh :: hh :: hh :: (hu 54 [])))), [], [(35, sh2, .own)]⟩, ([3, 4, 5] ++ rg 9 54), [], ([3, 4, 5] ++ rg 8 55), [], []⟩
noncomputable def k24_2 : List PK := (ki 4 [.row sh2])
noncomputable def W24_2 (m : Nat) (k : Kont ((List ty1))) : Cur k24_2 (Option ((List ty1))) := G.slices.stableCmpFunc_Pane_l0 m (exF k (.exit 0) ⟨((.one (.sl 0)) :: hh :: (.one (.fn 17 [])) :: (hu 3 (hh :: hh :: (hu 55 [])))), [], [(35, sh2, .own)]⟩ (ki 3 [.row sh2]))
noncomputable def E24_2 (m : Nat) : List Prm → Kont ((List ty1)) → Option ((List ty1)) := eL k24_2 (W24_2 m)
theorem ev24_2 (m : Nat) (k : Kont ((List ty1))) (a : Args k24_2) : evL Try.prog G24 loopNil c24_2 (turn Try.prog (0, 1) H24_2 (E24_2 m) k) (H24_2.sk.fl (encP k24_2 a)) = unc k24_2 (W24_2 (m + 1) k) a := by kernel_rfl
theorem ok24_2 (m : Nat) : LoopOk Try.prog (0, 1) c24_2 (enter Try.prog (0, 1) H24_2 (E24_2 m)) := loop_gen (Fl := W24_2) (G := G24) (L := loopNil) (envConsH_good good28 (envConsH_good (good29 fu) envNil_good)) (no_loops (c := c24_2) (by kernel_rfl)) (fun _ _ => by kernel_rfl) ev24_2 m
noncomputable def H24_9 : LoopH := ⟨⟨((.one (.sl 0)) :: hh :: (.one (.fn 17 [])) :: (hu 3 (hh :: hh :: hh :: (hu 54 [])))), [], [(35, sh2, .own)]⟩, ([3, 4, 5] ++ rg 9 54), [], ([3, 4, 5] ++ rg 8 55), [], []⟩
noncomputable def k24_9 : List PK := (ki 4 [.row sh2])
noncomputable def W24_9 (m : Nat) (k : Kont ((List ty1))) : Cur k24_9 (Option ((List ty1))) := G.slices.stableCmpFunc_Pane_l2 m (exF k (.exit 4) ⟨((.one (.sl 0)) :: hh :: (.one (.fn 17 [])) :: (hu 3 (hh :: hh :: (hu 55 [])))), [], [(35, sh2, .own)]⟩ (ki 3 [.row sh2]))
noncomputable def E24_9 (m : Nat) : List Prm → Kont ((List ty1)) → Option ((List ty1)) := eL k24_9 (W24_9 m)
theorem ev24_9 (m : Nat) (k : Kont ((List ty1))) (a : Args k24_9) : evL Try.prog G24 loopNil c24_9 (turn Try.prog (0, 1) H24_9 (E24_9 m) k) (H24_9.sk.fl (encP k24_9 a)) = unc k24_9 (W24_9 (m + 1) k) a := by kernel_rfl
theorem ok24_9 (m : Nat) : LoopOk Try.prog (0, 1) c24_9 (enter Try.prog (0, 1) H24_9 (E24_9 m)) := loop_gen (Fl := W24_9) (G := G24) (L := loopNil) (envConsH_good good28 (envConsH_good (good29 fu) envNil_good)) (no_loops (c := c24_9) (by kernel_rfl)) (fun _ _ => by kernel_rfl) ev24_9 m
noncomputable def L24_7 : LEnv ((List ty1)) := (loopCons 9 (enter Try.prog (0, 1) H24_9 (E24_9 fu)) loopNil)
theorem lq24_7 : loopsOf c24_7 = [c24_9] := by kernel_rfl
theorem fr24_9 : firstReg c24_9 = some 9 := by kernel_rfl
theorem le24_9 : L24_7 9 = enter Try.prog (0, 1) H24_9 (E24_9 fu) := by kernel_rfl
theorem lm24_7 : ∀ x ∈ [c24_9], ∀ id, firstReg x = some id → LoopOk Try.prog (0, 1) x (L24_7 id) := (loops_cons fr24_9 le24_9 (ok24_9 fu) loops_nil)
theorem lp24_7 : ∀ x ∈ loopsOf c24_7, ∀ id, firstReg x = some id → LoopOk Try.prog (0, 1) x (L24_7 id) := loops_eq lq24_7 lm24_7
noncomputable def H24_7 : LoopH := ⟨⟨((.one (.sl 0)) :: hh :: (.one (.fn 17 [])) :: (hu 3 (hh :: (hu 56 [])))), [], [(35, sh2, .own)]⟩, ([3, 4, 5] ++ rg 7 56), [], (rg 0 63), [], []⟩
noncomputable def k24_7 : List PK := (ki 2 [.row sh2])
noncomputable def W24_7 (m : Nat) (k : Kont ((List ty1))) : Cur k24_7 (Option ((List ty1))) := G.slices.stableCmpFunc_Pane_l1 m (exF k (.exit 2) ⟨(hu 63 []), [], [(35, sh2, .own)]⟩ [.row sh2])
noncomputable def E24_7 (m : Nat) : List Prm → Kont ((List ty1)) → Option ((List ty1)) := eL k24_7 (W24_7 m)
theorem ev24_7 (m : Nat) (k : Kont ((List ty1))) (a : Args k24_7) : evL Try.prog G24 L24_7 c24_7 (turn Try.prog (0, 1) H24_7 (E24_7 m) k) (H24_7.sk.fl (encP k24_7 a)) = unc k24_7 (W24_7 (m + 1) k) a := by kernel_rfl
theorem ok24_7 (m : Nat) : LoopOk Try.prog (0, 1) c24_7 (enter Try.prog (0, 1) H24_7 (E24_7 m)) := loop_gen (Fl := W24_7) (G := G24) (L := L24_7) (envConsH_good good28 (envConsH_good (good29 fu) envNil_good)) lp24_7 (fun _ _ => by kernel_rfl) ev24_7 m
noncomputable def L24 : LEnv ((List ty1)) := (loopCons 2 (enter Try.prog (0, 1) H24_2 (E24_2 fu)) (loopCons 7 (enter Try.prog (0, 1) H24_7 (E24_7 fu)) loopNil))
theorem lq24 : loopsOf c24 = [c24_2, c24_7] := by kernel_rfl
theorem fr24_2 : firstReg c24_2 = some 2 := by kernel_rfl
theorem le24_2 : L24 2 = enter Try.prog (0, 1) H24_2 (E24_2 fu) := by kernel_rfl
theorem fr24_7 : firstReg c24_7 = some 7 := by kernel_rfl
theorem le24_7 : L24 7 = enter Try.prog (0, 1) H24_7 (E24_7 fu) := by kernel_rfl
theorem lm24 : ∀ x ∈ [c24_2, c24_7], ∀ id, firstReg x = some id → LoopOk Try.prog (0, 1) x (L24 id) := (loops_cons fr24_2 le24_2 (ok24_2 fu) (loops_cons fr24_7 le24_7 (ok24_7 fu) loops_nil))
theorem lp24 : ∀ x ∈ loopsOf c24, ∀ id, firstReg x = some id → LoopOk Try.prog (0, 1) x (L24 id) := loops_eq lq24 lm24
noncomputable def sg24 : Sg := ⟨⟨[.one (.sl 0), hh, .one (.fn 17 [])], [], [(35, sh2, .own)]⟩, [.int .i64, .row sh2], ⟨[], [], [(35, sh2, .own)]⟩, [.row sh2]⟩
noncomputable def E24 : Fun2 := eOf sg24 G.slices.stableCmpFunc_Pane
theorem ev24 (a : Args sg24.ks) : evS Try.prog G24 L24 (0, 1) [] Try.f24 c24 (kOf sg24) (sg24.sk.fl (encP sg24.ks a)) = unc sg24.ks G.slices.stableCmpFunc_Pane a := by kernel_rfl
theorem good24 : Vm.Good Try.prog 24 E24 := good_gen (G := G24) (L := L24) (c := c24) (rn := []) (N := (0, 1)) (envConsH_good good28 (envConsH_good (good29 fu) envNil_good)) lp24 Try.func24 (by kernel_rfl) (by kernel_rfl) (fun _ => by kernel_rfl) ev24
noncomputable def G16 : Env := (envConsH 24 [0] E24 envNil)
noncomputable def c16 : Code := bodyOf Try.f16
noncomputable def G.slices.SortStableFunc_Pane (a1 : List ty1) : Option ((List ty1)) :=
(Option.bind (G.slices.stableCmpFunc_Pane (a1.length : Int) a1) fun r3 =>
(keep sh2 a1 r3
(some r3)))
noncomputable def sg16 : Sg := ⟨⟨[.one (.sl 0), .one (.fn 17 [])], [], [(35, sh2, .own)]⟩, [.row sh2], ⟨[], [], [(35, sh2, .own)]⟩, [.row sh2]⟩
noncomputable def E16 : Fun2 := eOf sg16 G.slices.SortStableFunc_Pane
theorem ev16 (a : Args sg16.ks) : evS Try.prog G16 loopNil (0, 1) [] Try.f16 c16 (kOf sg16) (sg16.sk.fl (encP sg16.ks a)) = unc sg16.ks G.slices.SortStableFunc_Pane a := by kernel_rfl
theorem good16 : Vm.Good Try.prog 16 E16 := good_gen (G := G16) (L := loopNil) (c := c16) (rn := []) (N := (0, 1)) (envConsH_good good24 envNil_good) (no_loops (c := c16) (by kernel_rfl)) Try.func16 (by kernel_rfl) (by kernel_rfl) (fun _ => by kernel_rfl) ev16
noncomputable def G7 : Env := (envCons 15 [] E15 (envConsH 16 [0] E16 envNil))
noncomputable def c7 : Code := bodyOf Try.f7
noncomputable def c7_3 : Code := (loopsOf c7).getD 0 .skip
noncomputable def I.PanesSort_l0 : Nat → ((List ty2) → Option ((List ty2))) → Int → Int → (List ty2) → (List ty2) → Option ((List ty2))
  | 0, _, _, _, _, _ => none
  | m + 1, e3_0, a3, a4, a5, a6 =>
    (bif (decide (a4 < a3)) then
    (bif decide ((0 : Int) ≤ a4 ∧ a4 < (a6.length : Int)) then
    (Option.bind (I.Pane_copied ((nthI a6 a4 df1).1) ((nthI a6 a4 df1).2.1) ((nthI a6 a4 df1).2.2.1) ((nthI a6 a4 df1).2.2.2.1) ((nthI a6 a4 df1).2.2.2.2.1) ((nthI a6 a4 df1).2.2.2.2.2.1) ((nthI a6 a4 df1).2.2.2.2.2.2.2) ((nthI a6 a4 df1).2.2.2.2.2.2.1)) fun r8 =>
    (let v9 : List ty2 := [(r8.1, (r8.2.1, (r8.2.2.1, (r8.2.2.2.1, (r8.2.2.2.2.1, (r8.2.2.2.2.2.1, (r8.2.2.2.2.2.2.2, r8.2.2.2.2.2.2.1)))))))]
    (bif decide ((a5.length + v9.length) * 80 ≤ 140737488355328) then
    (I.PanesSort_l0 m e3_0 a3 (IntKind.wrap .i64 (a4 + 1)) (a5 ++ v9) a6)
    else
    none)))
    else
    none)
    else
    (e3_0 a5))
noncomputable def I.PanesSort (a1 : List ty2) : Option ((List ty2)) :=
(I.PanesSort_l0 fu (fun y11 =>
(anyH sh1 y11 fun z12 =>
(Option.bind (G.slices.SortStableFunc_Pane z12) fun r13 =>
(thaw sh1 z12 r13
(some (List.map (Sh.bare sh1) r13)))))) (a1.length : Int) 0 [] a1)
noncomputable def H7_3 : LoopH := ⟨⟨(hu 3 ((.one (.sl 0)) :: (hu 3 ((.one (.sl 1)) :: hh :: hh :: (hu 12 []))))), [], [(35, sh1, .own), (35, sh1, .ro)]⟩, ([0, 1, 2, 4, 5, 6] ++ rg 10 12), [], ([0, 1] ++ rg 4 18), [], []⟩
noncomputable def k7_3 : List PK := (ki 2 [.row sh1, .row sh1])
noncomputable def W7_3 (m : Nat) (k : Kont ((List ty2))) : Cur k7_3 (Option ((List ty2))) := I.PanesSort_l0 m (exF k (.exit 0) ⟨(hu 3 ((.one (.sl 0)) :: (hu 18 []))), [], [(35, sh1, .own)]⟩ [.row sh1])
noncomputable def E7_3 (m : Nat) : List Prm → Kont ((List ty2)) → Option ((List ty2)) := eL k7_3 (W7_3 m)
theorem ev7_3 (m : Nat) (k : Kont ((List ty2))) (a : Args k7_3) : evL Try.prog G7 loopNil c7_3 (turn Try.prog (0, 0) H7_3 (E7_3 m) k) (H7_3.sk.fl (encP k7_3 a)) = unc k7_3 (W7_3 (m + 1) k) a := by kernel_rfl
theorem ok7_3 (m : Nat) : LoopOk Try.prog (0, 0) c7_3 (enter Try.prog (0, 0) H7_3 (E7_3 m)) := loop_gen (Fl := W7_3) (G := G7) (L := loopNil) (envCons_good good15 (envConsH_good good16 envNil_good)) (no_loops (c := c7_3) (by kernel_rfl)) (fun _ _ => by kernel_rfl) ev7_3 m
noncomputable def L7 : LEnv ((List ty2)) := (loopCons 3 (enter Try.prog (0, 0) H7_3 (E7_3 fu)) loopNil)
theorem lq7 : loopsOf c7 = [c7_3] := by kernel_rfl
theorem fr7_3 : firstReg c7_3 = some 3 := by kernel_rfl
theorem le7_3 : L7 3 = enter Try.prog (0, 0) H7_3 (E7_3 fu) := by kernel_rfl
theorem lm7 : ∀ x ∈ [c7_3], ∀ id, firstReg x = some id → LoopOk Try.prog (0, 0) x (L7 id) := (loops_cons fr7_3 le7_3 (ok7_3 fu) loops_nil)
theorem lp7 : ∀ x ∈ loopsOf c7, ∀ id, firstReg x = some id → LoopOk Try.prog (0, 0) x (L7 id) := loops_eq lq7 lm7
noncomputable def sg7 : Sg := ⟨⟨[.one (.sl 0)], [], [(35, sh1, .ro)]⟩, [.row sh1], ⟨[.one (.sl 0)], [], [(35, sh1, .own)]⟩, [.row sh1]⟩
noncomputable def E7 : Fun2 := eOf sg7 I.PanesSort
theorem ev7 (a : Args sg7.ks) : evS Try.prog G7 L7 (0, 0) [] Try.f7 c7 (kOf sg7) (sg7.sk.fl (encP sg7.ks a)) = unc sg7.ks I.PanesSort a := by kernel_rfl
theorem good7 : Vm.Good Try.prog 7 E7 := good_gen (G := G7) (L := L7) (c := c7) (rn := []) (N := (0, 0)) (envCons_good good15 (envConsH_good good16 envNil_good)) lp7 Try.func7 (by kernel_rfl) (by kernel_rfl) (fun _ => by kernel_rfl) ev7
noncomputable def G27 : Env := envNil
noncomputable def c27 : Code := bodyOf Try.f27
noncomputable def c27_4 : Code := (loopsOf c27).getD 0 .skip
noncomputable def L.eqIntS_l0 : Nat → (Bool → Option Bool) → (Option Bool) → Int → List Int → List Int → Option Bool
  | 0, _, _, _, _, _ => none
  | m + 1, e4_0, e4_1, a5, a6, a7 =>
    (bif (decide (a5 < (a6.length : Int))) then
    (bif decide ((0 : Int) ≤ a5 ∧ a5 < (a6.length : Int)) then
    (bif decide ((0 : Int) ≤ a5 ∧ a5 < (a7.length : Int)) then
    (bif ((nthI a6 a5 (0 : Int)) != (nthI a7 a5 (0 : Int))) then
    (e4_0 false)
    else
    (L.eqIntS_l0 m e4_0 e4_1 (IntKind.wrap .i64 (a5 + 1)) a6 a7))
    else
    none)
    else
    none)
    else
    e4_1)
noncomputable def L.eqIntS (a1 a2 : List Int) : Option Bool :=
(bif ((a1.length : Int) != (a2.length : Int)) then
(some false)
else
(L.eqIntS_l0 fu (fun y12 =>
(some y12)) (some true) 0 a1 a2))
noncomputable def H27_4 : LoopH := ⟨⟨((.one (.sl 0)) :: (.one (.sl 1)) :: (hu 3 (hh :: (hu 20 [])))), [], [(3, (.int .i64), .ro), (3, (.int .i64), .ro)]⟩, ([2, 3, 4] ++ rg 6 20), [], (rg 0 4 ++ rg 5 21), [], []⟩
noncomputable def k27_4 : List PK := [.int .i64, .row (.int .i64), .row (.int .i64)]
noncomputable def W27_4 (m : Nat) (k : Kont Bool) : Cur k27_4 (Option Bool) := L.eqIntS_l0 m (exF k .ret ⟨(hu 4 (hh :: (hu 21 []))), [], []⟩ [.bool]) (exF k (.exit 0) ⟨(hu 26 []), [], []⟩ [])
noncomputable def E27_4 (m : Nat) : List Prm → Kont Bool → Option Bool := eL k27_4 (W27_4 m)
theorem ev27_4 (m : Nat) (k : Kont Bool) (a : Args k27_4) : evL Try.prog G27 loopNil c27_4 (turn Try.prog (0, 0) H27_4 (E27_4 m) k) (H27_4.sk.fl (encP k27_4 a)) = unc k27_4 (W27_4 (m + 1) k) a := by kernel_rfl
theorem ok27_4 (m : Nat) : LoopOk Try.prog (0, 0) c27_4 (enter Try.prog (0, 0) H27_4 (E27_4 m)) := loop_gen (Fl := W27_4) (G := G27) (L := loopNil) envNil_good (no_loops (c := c27_4) (by kernel_rfl)) (fun _ _ => by kernel_rfl) ev27_4 m
noncomputable def L27 : LEnv Bool := (loopCons 4 (enter Try.prog (0, 0) H27_4 (E27_4 fu)) loopNil)
theorem lq27 : loopsOf c27 = [c27_4] := by kernel_rfl
theorem fr27_4 : firstReg c27_4 = some 4 := by kernel_rfl
theorem le27_4 : L27 4 = enter Try.prog (0, 0) H27_4 (E27_4 fu) := by kernel_rfl
theorem lm27 : ∀ x ∈ [c27_4], ∀ id, firstReg x = some id → LoopOk Try.prog (0, 0) x (L27 id) := (loops_cons fr27_4 le27_4 (ok27_4 fu) loops_nil)
theorem lp27 : ∀ x ∈ loopsOf c27, ∀ id, firstReg x = some id → LoopOk Try.prog (0, 0) x (L27 id) := loops_eq lq27 lm27
noncomputable def sg27 : Sg := ⟨⟨[.one (.sl 0), .one (.sl 1)], [], [(3, (.int .i64), .ro), (3, (.int .i64), .ro)]⟩, [.row (.int .i64), .row (.int .i64)], ⟨[hh], [], []⟩, [.bool]⟩
noncomputable def E27 : Fun2 := eOf sg27 L.eqIntS
theorem ev27 (a : Args sg27.ks) : evS Try.prog G27 L27 (0, 0) [] Try.f27 c27 (kOf sg27) (sg27.sk.fl (encP sg27.ks a)) = unc sg27.ks L.eqIntS a := by kernel_rfl
theorem good27 : Vm.Good Try.prog 27 E27 := good_gen (G := G27) (L := L27) (c := c27) (rn := []) (N := (0, 0)) envNil_good lp27 Try.func27 (by kernel_rfl) (by kernel_rfl) (fun _ => by kernel_rfl) ev27
noncomputable def G18 : Env := (envCons 27 [] E27 envNil)
noncomputable def c18 : Code := bodyOf Try.f18
noncomputable def L.eqPane (a1 a2 a3 a4 a5 a6 : Int) (a7 : Bool) (a8 a9 a10 a11 a12 a13 : Int) (a14 : Bool) (a15 a16 : List Int) : Option Bool :=
(bif (a1 != a8) then
(some false)
else
(bif (a2 != a9) then
(some false)
else
(bif (a3 != a10) then
(some false)
else
(bif (a4 != a11) then
(some false)
else
(bif (a5 != a12) then
(some false)
else
(bif (a6 != a13) then
(some false)
else
(Option.bind (L.eqIntS a15 a16) fun r17 =>
(bif (!r17) then
(some false)
else
(bif (!(a7 == a14)) then
(some false)
else
(some true))))))))))
noncomputable def sg18 : Sg := ⟨⟨[.agg (ho 6 [.sl 0, .hole]), .agg (ho 6 [.sl 1, .hole])], [], [(3, (.int .i64), .ro), (3, (.int .i64), .ro)]⟩, (ki 6 ((.bool) :: (ki 6 [.bool, .row (.int .i64), .row (.int .i64)]))), ⟨[hh], [], []⟩, [.bool]⟩
noncomputable def E18 : Fun2 := eOf sg18 L.eqPane
theorem ev18 (a : Args sg18.ks) : evS Try.prog G18 loopNil (0, 0) [] Try.f18 c18 (kOf sg18) (sg18.sk.fl (encP sg18.ks a)) = unc sg18.ks L.eqPane a := by kernel_rfl
theorem good18 : Vm.Good Try.prog 18 E18 := good_gen (G := G18) (L := loopNil) (c := c18) (rn := []) (N := (0, 0)) (envCons_good good27 envNil_good) (no_loops (c := c18) (by kernel_rfl)) Try.func18 (by kernel_rfl) (by kernel_rfl) (fun _ => by kernel_rfl) ev18
noncomputable def G8 : Env := (envCons 18 [] E18 envNil)
noncomputable def c8 : Code := bodyOf Try.f8
noncomputable def c8_4 : Code := (loopsOf c8).getD 0 .skip
noncomputable def L.eqPaneS_l0 : Nat → (Bool → Option Bool) → (Option Bool) → Int → (List ty2) → (List ty2) → Option Bool
  | 0, _, _, _, _, _ => none
  | m + 1, e4_0, e4_1, a5, a6, a7 =>
    (bif (decide (a5 < (a6.length : Int))) then
    (bif decide ((0 : Int) ≤ a5 ∧ a5 < (a6.length : Int)) then
    (bif decide ((0 : Int) ≤ a5 ∧ a5 < (a7.length : Int)) then
    (Option.bind (L.eqPane ((nthI a6 a5 df1).1) ((nthI a6 a5 df1).2.1) ((nthI a6 a5 df1).2.2.1) ((nthI a6 a5 df1).2.2.2.1) ((nthI a6 a5 df1).2.2.2.2.1) ((nthI a6 a5 df1).2.2.2.2.2.1) ((nthI a6 a5 df1).2.2.2.2.2.2.2) ((nthI a7 a5 df1).1) ((nthI a7 a5 df1).2.1) ((nthI a7 a5 df1).2.2.1) ((nthI a7 a5 df1).2.2.2.1) ((nthI a7 a5 df1).2.2.2.2.1) ((nthI a7 a5 df1).2.2.2.2.2.1) ((nthI a7 a5 df1).2.2.2.2.2.2.2) ((nthI a6 a5 df1).2.2.2.2.2.2.1) ((nthI a7 a5 df1).2.2.2.2.2.2.1)) fun r10 =>
    (bif (!r10) then
    (e4_0 false)
    else
    (L.eqPaneS_l0 m e4_0 e4_1 (IntKind.wrap .i64 (a5 + 1)) a6 a7)))
    else
    none)
    else
    none)
    else
    e4_1)
noncomputable def L.eqPaneS (a1 a2 : List ty2) : Option Bool :=
(bif ((a1.length : Int) != (a2.length : Int)) then
(some false)
else
(L.eqPaneS_l0 fu (fun y12 =>
(some y12)) (some true) 0 a1 a2))
noncomputable def H8_4 : LoopH := ⟨⟨((.one (.sl 0)) :: (.one (.sl 1)) :: (hu 3 (hh :: (hu 21 [])))), [], [(35, sh1, .ro), (35, sh1, .ro)]⟩, ([2, 3, 4] ++ rg 6 21), [], (rg 0 4 ++ rg 5 22), [], []⟩
noncomputable def k8_4 : List PK := [.int .i64, .row sh1, .row sh1]
noncomputable def W8_4 (m : Nat) (k : Kont Bool) : Cur k8_4 (Option Bool) := L.eqPaneS_l0 m (exF k .ret ⟨(hu 4 (hh :: (hu 22 []))), [], []⟩ [.bool]) (exF k (.exit 0) ⟨(hu 27 []), [], []⟩ [])
noncomputable def E8_4 (m : Nat) : List Prm → Kont Bool → Option Bool := eL k8_4 (W8_4 m)
theorem ev8_4 (m : Nat) (k : Kont Bool) (a : Args k8_4) : evL Try.prog G8 loopNil c8_4 (turn Try.prog (0, 0) H8_4 (E8_4 m) k) (H8_4.sk.fl (encP k8_4 a)) = unc k8_4 (W8_4 (m + 1) k) a := by kernel_rfl
theorem ok8_4 (m : Nat) : LoopOk Try.prog (0, 0) c8_4 (enter Try.prog (0, 0) H8_4 (E8_4 m)) := loop_gen (Fl := W8_4) (G := G8) (L := loopNil) (envCons_good good18 envNil_good) (no_loops (c := c8_4) (by kernel_rfl)) (fun _ _ => by kernel_rfl) ev8_4 m
noncomputable def L8 : LEnv Bool := (loopCons 4 (enter Try.prog (0, 0) H8_4 (E8_4 fu)) loopNil)
theorem lq8 : loopsOf c8 = [c8_4] := by kernel_rfl
theorem fr8_4 : firstReg c8_4 = some 4 := by kernel_rfl
theorem le8_4 : L8 4 = enter Try.prog (0, 0) H8_4 (E8_4 fu) := by kernel_rfl
theorem lm8 : ∀ x ∈ [c8_4], ∀ id, firstReg x = some id → LoopOk Try.prog (0, 0) x (L8 id) := (loops_cons fr8_4 le8_4 (ok8_4 fu) loops_nil)
theorem lp8 : ∀ x ∈ loopsOf c8, ∀ id, firstReg x = some id → LoopOk Try.prog (0, 0) x (L8 id) := loops_eq lq8 lm8
noncomputable def sg8 : Sg := ⟨⟨[.one (.sl 0), .one (.sl 1)], [], [(35, sh1, .ro), (35, sh1, .ro)]⟩, [.row sh1, .row sh1], ⟨[hh], [], []⟩, [.bool]⟩
noncomputable def E8 : Fun2 := eOf sg8 L.eqPaneS
theorem ev8 (a : Args sg8.ks) : evS Try.prog G8 L8 (0, 0) [] Try.f8 c8 (kOf sg8) (sg8.sk.fl (encP sg8.ks a)) = unc sg8.ks L.eqPaneS a := by kernel_rfl
theorem good8 : Vm.Good Try.prog 8 E8 := good_gen (G := G8) (L := L8) (c := c8) (rn := []) (N := (0, 0)) (envCons_good good18 envNil_good) lp8 Try.func8 (by kernel_rfl) (by kernel_rfl) (fun _ => by kernel_rfl) ev8
noncomputable def G19 : Env := envNil
noncomputable def c19 : Code := bodyOf Try.f19
noncomputable def c19_2 : Code := (loopsOf c19).getD 0 .skip
noncomputable def L.markIntS_l0 : Nat → (Int → List Int → Option (Int × List Int)) → Int → Int → List Int → Option (Int × List Int)
  | 0, _, _, _, _ => none
  | m + 1, e2_0, a3, a4, a5 =>
    (bif (decide (a4 < (a5.length : Int))) then
    (bif decide ((0 : Int) ≤ a4 ∧ a4 < (a5.length : Int)) then
    (L.markIntS_l0 m e2_0 (IntKind.wrap .i64 (a3 + 1)) (IntKind.wrap .i64 (a4 + 1)) (a5.set (Int.toNat a4) a3))
    else
    none)
    else
    (e2_0 a3 a5))
noncomputable def L.markIntS (a1 : Int) (a2 : List Int) : Option (Int × List Int) :=
(L.markIntS_l0 fu (fun y11 y12 =>
(some (y11, y12))) a1 0 a2)
noncomputable def H19_2 : LoopH := ⟨⟨((.one (.sl 0)) :: hh :: (hu 3 (hh :: (hu 13 [])))), [], [(3, (.int .i64), .own)]⟩, ([2, 3, 4] ++ rg 6 13), [], ([0, 2, 3] ++ rg 5 14), [], []⟩
noncomputable def k19_2 : List PK := (ki 2 [.row (.int .i64)])
noncomputable def W19_2 (m : Nat) (k : Kont (Int × List Int)) : Cur k19_2 (Option (Int × List Int)) := L.markIntS_l0 m (exF k (.exit 0) ⟨((.one (.unk)) :: hh :: (hu 17 [])), [], [(3, (.int .i64), .own)]⟩ [.int .i64, .row (.int .i64)])
noncomputable def E19_2 (m : Nat) : List Prm → Kont (Int × List Int) → Option (Int × List Int) := eL k19_2 (W19_2 m)
theorem ev19_2 (m : Nat) (k : Kont (Int × List Int)) (a : Args k19_2) : evL Try.prog G19 loopNil c19_2 (turn Try.prog (0, 1) H19_2 (E19_2 m) k) (H19_2.sk.fl (encP k19_2 a)) = unc k19_2 (W19_2 (m + 1) k) a := by kernel_rfl
theorem ok19_2 (m : Nat) : LoopOk Try.prog (0, 1) c19_2 (enter Try.prog (0, 1) H19_2 (E19_2 m)) := loop_gen (Fl := W19_2) (G := G19) (L := loopNil) envNil_good (no_loops (c := c19_2) (by kernel_rfl)) (fun _ _ => by kernel_rfl) ev19_2 m
noncomputable def L19 : LEnv (Int × List Int) := (loopCons 2 (enter Try.prog (0, 1) H19_2 (E19_2 fu)) loopNil)
theorem lq19 : loopsOf c19 = [c19_2] := by kernel_rfl
theorem fr19_2 : firstReg c19_2 = some 2 := by kernel_rfl
theorem le19_2 : L19 2 = enter Try.prog (0, 1) H19_2 (E19_2 fu) := by kernel_rfl
theorem lm19 : ∀ x ∈ [c19_2], ∀ id, firstReg x = some id → LoopOk Try.prog (0, 1) x (L19 id) := (loops_cons fr19_2 le19_2 (ok19_2 fu) loops_nil)
theorem lp19 : ∀ x ∈ loopsOf c19, ∀ id, firstReg x = some id → LoopOk Try.prog (0, 1) x (L19 id) := loops_eq lq19 lm19
noncomputable def sg19 : Sg := ⟨⟨[.one (.sl 0), hh], [], [(3, (.int .i64), .own)]⟩, [.int .i64, .row (.int .i64)], ⟨[hh], [], [(3, (.int .i64), .own)]⟩, [.int .i64, .row (.int .i64)]⟩
noncomputable def E19 : Fun2 := eOf sg19 L.markIntS
theorem ev19 (a : Args sg19.ks) : evS Try.prog G19 L19 (0, 1) [] Try.f19 c19 (kOf sg19) (sg19.sk.fl (encP sg19.ks a)) = unc sg19.ks L.markIntS a := by kernel_rfl
theorem good19 : Vm.Good Try.prog 19 E19 := good_gen (G := G19) (L := L19) (c := c19) (rn := []) (N := (0, 1)) envNil_good lp19 Try.func19 (by kernel_rfl) (by kernel_rfl) (fun _ => by kernel_rfl) ev19
noncomputable def G9 : Env := (envCons 19 [0] E19 envNil)
noncomputable def c9 : Code := bodyOf Try.f9
noncomputable def c9_2 : Code := (loopsOf c9).getD 0 .skip
noncomputable def L.markPaneS_l0 : Nat → (Int → (List ty2) → Option (Int × (List ty2))) → Int → Int → (List ty2) → Option (Int × (List ty2))
  | 0, _, _, _, _ => none
  | m + 1, e2_0, a3, a4, a5 =>
    (bif (decide (a4 < (a5.length : Int))) then
    (bif decide ((0 : Int) ≤ a4 ∧ a4 < (a5.length : Int)) then
    (let v8 : List ty2 := (a5.set (Int.toNat a4) (a3, (nthI a5 a4 df1).2))
    (let v9 : Int := (IntKind.wrap .i64 (a3 + 1))
    (bif decide ((0 : Int) ≤ a4 ∧ a4 < (v8.length : Int)) then
    (let v10 : List ty2 := (v8.set (Int.toNat a4) ((nthI v8 a4 df1).1, (v9, (nthI v8 a4 df1).2.2)))
    (let v11 : Int := (IntKind.wrap .i64 (v9 + 1))
    (bif decide ((0 : Int) ≤ a4 ∧ a4 < (v10.length : Int)) then
    (let v12 : List ty2 := (v10.set (Int.toNat a4) ((nthI v10 a4 df1).1, ((nthI v10 a4 df1).2.1, (v11, (nthI v10 a4 df1).2.2.2))))
    (let v13 : Int := (IntKind.wrap .i64 (v11 + 1))
    (bif decide ((0 : Int) ≤ a4 ∧ a4 < (v12.length : Int)) then
    (let v14 : List ty2 := (v12.set (Int.toNat a4) ((nthI v12 a4 df1).1, ((nthI v12 a4 df1).2.1, ((nthI v12 a4 df1).2.2.1, (v13, (nthI v12 a4 df1).2.2.2.2)))))
    (let v15 : Int := (IntKind.wrap .i64 (v13 + 1))
    (bif decide ((0 : Int) ≤ a4 ∧ a4 < (v14.length : Int)) then
    (let v16 : List ty2 := (v14.set (Int.toNat a4) ((nthI v14 a4 df1).1, ((nthI v14 a4 df1).2.1, ((nthI v14 a4 df1).2.2.1, ((nthI v14 a4 df1).2.2.2.1, (v15, (nthI v14 a4 df1).2.2.2.2.2))))))
    (let v17 : Int := (IntKind.wrap .i64 (v15 + 1))
    (bif decide ((0 : Int) ≤ a4 ∧ a4 < (v16.length : Int)) then
    (let v18 : List ty2 := (v16.set (Int.toNat a4) ((nthI v16 a4 df1).1, ((nthI v16 a4 df1).2.1, ((nthI v16 a4 df1).2.2.1, ((nthI v16 a4 df1).2.2.2.1, ((nthI v16 a4 df1).2.2.2.2.1, (v17, (nthI v16 a4 df1).2.2.2.2.2.2)))))))
    (bif decide ((0 : Int) ≤ a4 ∧ a4 < (v18.length : Int)) then
    (Option.bind (L.markIntS (IntKind.wrap .i64 (v17 + 1)) ((nthI v18 a4 df1).2.2.2.2.2.2.1)) fun r20 =>
    (let v21 : List ty2 := (v18.set (Int.toNat a4) ((nthI v18 a4 df1).1, ((nthI v18 a4 df1).2.1, ((nthI v18 a4 df1).2.2.1, ((nthI v18 a4 df1).2.2.2.1, ((nthI v18 a4 df1).2.2.2.2.1, ((nthI v18 a4 df1).2.2.2.2.2.1, (r20.2, (nthI v18 a4 df1).2.2.2.2.2.2.2))))))))
    (bif decide (3 = 0) then
    none
    else
    (bif decide ((0 : Int) ≤ a4 ∧ a4 < (v21.length : Int)) then
    (let v23 : List ty2 := (v21.set (Int.toNat a4) ((nthI v21 a4 df1).1, ((nthI v21 a4 df1).2.1, ((nthI v21 a4 df1).2.2.1, ((nthI v21 a4 df1).2.2.2.1, ((nthI v21 a4 df1).2.2.2.2.1, ((nthI v21 a4 df1).2.2.2.2.2.1, ((nthI v21 a4 df1).2.2.2.2.2.2.1, ((Int.tmod r20.1 3) == 0)))))))))
    (L.markPaneS_l0 m e2_0 (IntKind.wrap .i64 (r20.1 + 1)) (IntKind.wrap .i64 (a4 + 1)) v23))
    else
    none))))
    else
    none))
    else
    none)))
    else
    none)))
    else
    none)))
    else
    none)))
    else
    none)))
    else
    none)
    else
    (e2_0 a3 a5))
noncomputable def L.markPaneS (a1 : Int) (a2 : List ty2) : Option (Int × (List ty2)) :=
(L.markPaneS_l0 fu (fun y26 y27 =>
(some (y26, y27))) a1 0 a2)
noncomputable def H9_2 : LoopH := ⟨⟨((.one (.sl 0)) :: hh :: (hu 3 (hh :: (hu 65 [])))), [], [(35, sh1, .own)]⟩, ([2, 3, 4] ++ rg 6 65), [], ([0, 2, 3] ++ rg 5 66), [], []⟩
noncomputable def k9_2 : List PK := (ki 2 [.row sh1])
noncomputable def W9_2 (m : Nat) (k : Kont (Int × (List ty2))) : Cur k9_2 (Option (Int × (List ty2))) := L.markPaneS_l0 m (exF k (.exit 0) ⟨((.one (.unk)) :: hh :: (hu 69 [])), [], [(35, sh1, .own)]⟩ [.int .i64, .row sh1])
noncomputable def E9_2 (m : Nat) : List Prm → Kont (Int × (List ty2)) → Option (Int × (List ty2)) := eL k9_2 (W9_2 m)
theorem ev9_2 (m : Nat) (k : Kont (Int × (List ty2))) (a : Args k9_2) : evL Try.prog G9 loopNil c9_2 (turn Try.prog (0, 1) H9_2 (E9_2 m) k) (H9_2.sk.fl (encP k9_2 a)) = unc k9_2 (W9_2 (m + 1) k) a := by kernel_rfl
theorem ok9_2 (m : Nat) : LoopOk Try.prog (0, 1) c9_2 (enter Try.prog (0, 1) H9_2 (E9_2 m)) := loop_gen (Fl := W9_2) (G := G9) (L := loopNil) (envCons_good good19 envNil_good) (no_loops (c := c9_2) (by kernel_rfl)) (fun _ _ => by kernel_rfl) ev9_2 m
noncomputable def L9 : LEnv (Int × (List ty2)) := (loopCons 2 (enter Try.prog (0, 1) H9_2 (E9_2 fu)) loopNil)
theorem lq9 : loopsOf c9 = [c9_2] := by kernel_rfl
theorem fr9_2 : firstReg c9_2 = some 2 := by kernel_rfl
theorem le9_2 : L9 2 = enter Try.prog (0, 1) H9_2 (E9_2 fu) := by kernel_rfl
theorem lm9 : ∀ x ∈ [c9_2], ∀ id, firstReg x = some id → LoopOk Try.prog (0, 1) x (L9 id) := (loops_cons fr9_2 le9_2 (ok9_2 fu) loops_nil)
theorem lp9 : ∀ x ∈ loopsOf c9, ∀ id, firstReg x = some id → LoopOk Try.prog (0, 1) x (L9 id) := loops_eq lq9 lm9
noncomputable def sg9 : Sg := ⟨⟨[.one (.sl 0), hh], [], [(35, sh1, .own)]⟩, [.int .i64, .row sh1], ⟨[hh], [], [(35, sh1, .own)]⟩, [.int .i64, .row sh1]⟩
noncomputable def E9 : Fun2 := eOf sg9 L.markPaneS
theorem ev9 (a : Args sg9.ks) : evS Try.prog G9 L9 (0, 1) [] Try.f9 c9 (kOf sg9) (sg9.sk.fl (encP sg9.ks a)) = unc sg9.ks L.markPaneS a := by kernel_rfl
theorem good9 : Vm.Good Try.prog 9 E9 := good_gen (G := G9) (L := L9) (c := c9) (rn := []) (N := (0, 1)) (envCons_good good19 envNil_good) lp9 Try.func9 (by kernel_rfl) (by kernel_rfl) (fun _ => by kernel_rfl) ev9
noncomputable def G20 : Env := envNil
noncomputable def c20 : Code := bodyOf Try.f20
noncomputable def c20_2 : Code := (loopsOf c20).getD 0 .skip
noncomputable def L.heldIntS_l0 : Nat → (Int → Int → Option Int) → (Int → Option Int) → Int → Int → List Int → Option Int
  | 0, _, _, _, _, _ => none
  | m + 1, e2_0, e2_1, a3, a4, a5 =>
    (bif (decide (a4 < (a5.length : Int))) then
    (bif decide ((0 : Int) ≤ a4 ∧ a4 < (a5.length : Int)) then
    (bif ((nthI a5 a4 (0 : Int)) != a3) then
    (e2_0 a3 (-1))
    else
    (L.heldIntS_l0 m e2_0 e2_1 (IntKind.wrap .i64 (a3 + 1)) (IntKind.wrap .i64 (a4 + 1)) a5))
    else
    none)
    else
    (e2_1 a3))
noncomputable def L.heldIntS (a1 : Int) (a2 : List Int) : Option Int :=
(L.heldIntS_l0 fu (fun y11 y12 =>
(some y12)) (fun y13 =>
(some y13)) a1 0 a2)
noncomputable def H20_2 : LoopH := ⟨⟨((.one (.sl 0)) :: hh :: (hu 3 (hh :: (hu 15 [])))), [], [(3, (.int .i64), .ro)]⟩, ([2, 3, 4] ++ rg 6 15), [], ([0, 2, 3] ++ rg 5 16), [], []⟩
noncomputable def k20_2 : List PK := (ki 2 [.row (.int .i64)])
noncomputable def W20_2 (m : Nat) (k : Kont Int) : Cur k20_2 (Option Int) := L.heldIntS_l0 m (exF k .ret ⟨((.one (.unk)) :: hh :: (hu 2 (hh :: (hu 16 [])))), [], []⟩ (ki 2 [])) (exF k (.exit 0) ⟨((.one (.unk)) :: hh :: (hu 19 [])), [], []⟩ [.int .i64])
noncomputable def E20_2 (m : Nat) : List Prm → Kont Int → Option Int := eL k20_2 (W20_2 m)
theorem ev20_2 (m : Nat) (k : Kont Int) (a : Args k20_2) : evL Try.prog G20 loopNil c20_2 (turn Try.prog (0, 0) H20_2 (E20_2 m) k) (H20_2.sk.fl (encP k20_2 a)) = unc k20_2 (W20_2 (m + 1) k) a := by kernel_rfl
theorem ok20_2 (m : Nat) : LoopOk Try.prog (0, 0) c20_2 (enter Try.prog (0, 0) H20_2 (E20_2 m)) := loop_gen (Fl := W20_2) (G := G20) (L := loopNil) envNil_good (no_loops (c := c20_2) (by kernel_rfl)) (fun _ _ => by kernel_rfl) ev20_2 m
noncomputable def L20 : LEnv Int := (loopCons 2 (enter Try.prog (0, 0) H20_2 (E20_2 fu)) loopNil)
theorem lq20 : loopsOf c20 = [c20_2] := by kernel_rfl
theorem fr20_2 : firstReg c20_2 = some 2 := by kernel_rfl
theorem le20_2 : L20 2 = enter Try.prog (0, 0) H20_2 (E20_2 fu) := by kernel_rfl
theorem lm20 : ∀ x ∈ [c20_2], ∀ id, firstReg x = some id → LoopOk Try.prog (0, 0) x (L20 id) := (loops_cons fr20_2 le20_2 (ok20_2 fu) loops_nil)
theorem lp20 : ∀ x ∈ loopsOf c20, ∀ id, firstReg x = some id → LoopOk Try.prog (0, 0) x (L20 id) := loops_eq lq20 lm20
noncomputable def sg20 : Sg := ⟨⟨[.one (.sl 0), hh], [], [(3, (.int .i64), .ro)]⟩, [.int .i64, .row (.int .i64)], ⟨[hh], [], []⟩, [.int .i64]⟩
noncomputable def E20 : Fun2 := eOf sg20 L.heldIntS
theorem ev20 (a : Args sg20.ks) : evS Try.prog G20 L20 (0, 0) [] Try.f20 c20 (kOf sg20) (sg20.sk.fl (encP sg20.ks a)) = unc sg20.ks L.heldIntS a := by kernel_rfl
theorem good20 : Vm.Good Try.prog 20 E20 := good_gen (G := G20) (L := L20) (c := c20) (rn := []) (N := (0, 0)) envNil_good lp20 Try.func20 (by kernel_rfl) (by kernel_rfl) (fun _ => by kernel_rfl) ev20
noncomputable def G10 : Env := (envCons 20 [] E20 envNil)
noncomputable def c10 : Code := bodyOf Try.f10
noncomputable def c10_2 : Code := (loopsOf c10).getD 0 .skip
noncomputable def L.heldPaneS_l0 : Nat → (Int → Int → Option Int) → (Int → Option Int) → Int → Int → (List ty2) → Option Int
  | 0, _, _, _, _, _ => none
  | m + 1, e2_0, e2_1, a3, a4, a5 =>
    (bif (decide (a4 < (a5.length : Int))) then
    (bif decide ((0 : Int) ≤ a4 ∧ a4 < (a5.length : Int)) then
    (let v8 : Bool := ((nthI a5 a4 df1).1 != a3)
    (bif v8 then
    (e2_0 a3 (-1))
    else
    (let v9 : Int := (IntKind.wrap .i64 (a3 + 1))
    (bif decide ((0 : Int) ≤ a4 ∧ a4 < (a5.length : Int)) then
    (let v10 : Bool := ((nthI a5 a4 df1).2.1 != v9)
    (bif v10 then
    (e2_0 v9 (-1))
    else
    (let v11 : Int := (IntKind.wrap .i64 (v9 + 1))
    (bif decide ((0 : Int) ≤ a4 ∧ a4 < (a5.length : Int)) then
    (let v12 : Bool := ((nthI a5 a4 df1).2.2.1 != v11)
    (bif v12 then
    (e2_0 v11 (-1))
    else
    (let v13 : Int := (IntKind.wrap .i64 (v11 + 1))
    (bif decide ((0 : Int) ≤ a4 ∧ a4 < (a5.length : Int)) then
    (let v14 : Bool := ((nthI a5 a4 df1).2.2.2.1 != v13)
    (bif v14 then
    (e2_0 v13 (-1))
    else
    (let v15 : Int := (IntKind.wrap .i64 (v13 + 1))
    (bif decide ((0 : Int) ≤ a4 ∧ a4 < (a5.length : Int)) then
    (let v16 : Bool := ((nthI a5 a4 df1).2.2.2.2.1 != v15)
    (bif v16 then
    (e2_0 v15 (-1))
    else
    (let v17 : Int := (IntKind.wrap .i64 (v15 + 1))
    (bif decide ((0 : Int) ≤ a4 ∧ a4 < (a5.length : Int)) then
    (let v18 : Bool := ((nthI a5 a4 df1).2.2.2.2.2.1 != v17)
    (bif v18 then
    (e2_0 v17 (-1))
    else
    (bif decide ((0 : Int) ≤ a4 ∧ a4 < (a5.length : Int)) then
    (Option.bind (L.heldIntS (IntKind.wrap .i64 (v17 + 1)) ((nthI a5 a4 df1).2.2.2.2.2.2.1)) fun r20 =>
    (bif (decide (r20 < 0)) then
    (e2_0 r20 (-1))
    else
    (bif decide ((0 : Int) ≤ a4 ∧ a4 < (a5.length : Int)) then
    (bif decide (3 = 0) then
    none
    else
    (let v23 : Bool := (!((nthI a5 a4 df1).2.2.2.2.2.2.2 == ((Int.tmod r20 3) == 0)))
    (bif v23 then
    (e2_0 r20 (-1))
    else
    (L.heldPaneS_l0 m e2_0 e2_1 (IntKind.wrap .i64 (r20 + 1)) (IntKind.wrap .i64 (a4 + 1)) a5))))
    else
    none)))
    else
    none)))
    else
    none))))
    else
    none))))
    else
    none))))
    else
    none))))
    else
    none))))
    else
    none)
    else
    (e2_1 a3))
noncomputable def L.heldPaneS (a1 : Int) (a2 : List ty2) : Option Int :=
(L.heldPaneS_l0 fu (fun y26 y27 =>
(some y27)) (fun y28 =>
(some y28)) a1 0 a2)
noncomputable def H10_2 : LoopH := ⟨⟨((.one (.sl 0)) :: hh :: (hu 3 (hh :: (hu 81 [])))), [], [(35, sh1, .ro)]⟩, ([2, 3, 4] ++ rg 6 81), [], ([0, 2, 3] ++ rg 5 82), [], []⟩
noncomputable def k10_2 : List PK := (ki 2 [.row sh1])
noncomputable def W10_2 (m : Nat) (k : Kont Int) : Cur k10_2 (Option Int) := L.heldPaneS_l0 m (exF k .ret ⟨((.one (.unk)) :: hh :: (hu 2 (hh :: (hu 82 [])))), [], []⟩ (ki 2 [])) (exF k (.exit 0) ⟨((.one (.unk)) :: hh :: (hu 85 [])), [], []⟩ [.int .i64])
noncomputable def E10_2 (m : Nat) : List Prm → Kont Int → Option Int := eL k10_2 (W10_2 m)
theorem ev10_2 (m : Nat) (k : Kont Int) (a : Args k10_2) : evL Try.prog G10 loopNil c10_2 (turn Try.prog (0, 0) H10_2 (E10_2 m) k) (H10_2.sk.fl (encP k10_2 a)) = unc k10_2 (W10_2 (m + 1) k) a := by kernel_rfl
theorem ok10_2 (m : Nat) : LoopOk Try.prog (0, 0) c10_2 (enter Try.prog (0, 0) H10_2 (E10_2 m)) := loop_gen (Fl := W10_2) (G := G10) (L := loopNil) (envCons_good good20 envNil_good) (no_loops (c := c10_2) (by kernel_rfl)) (fun _ _ => by kernel_rfl) ev10_2 m
noncomputable def L10 : LEnv Int := (loopCons 2 (enter Try.prog (0, 0) H10_2 (E10_2 fu)) loopNil)
theorem lq10 : loopsOf c10 = [c10_2] := by kernel_rfl
theorem fr10_2 : firstReg c10_2 = some 2 := by kernel_rfl
theorem le10_2 : L10 2 = enter Try.prog (0, 0) H10_2 (E10_2 fu) := by kernel_rfl
theorem lm10 : ∀ x ∈ [c10_2], ∀ id, firstReg x = some id → LoopOk Try.prog (0, 0) x (L10 id) := (loops_cons fr10_2 le10_2 (ok10_2 fu) loops_nil)
theorem lp10 : ∀ x ∈ loopsOf c10, ∀ id, firstReg x = some id → LoopOk Try.prog (0, 0) x (L10 id) := loops_eq lq10 lm10
noncomputable def sg10 : Sg := ⟨⟨[.one (.sl 0), hh], [], [(35, sh1, .ro)]⟩, [.int .i64, .row sh1], ⟨[hh], [], []⟩, [.int .i64]⟩
noncomputable def E10 : Fun2 := eOf sg10 L.heldPaneS
theorem ev10 (a : Args sg10.ks) : evS Try.prog G10 L10 (0, 0) [] Try.f10 c10 (kOf sg10) (sg10.sk.fl (encP sg10.ks a)) = unc sg10.ks L.heldPaneS a := by kernel_rfl
theorem good10 : Vm.Good Try.prog 10 E10 := good_gen (G := G10) (L := L10) (c := c10) (rn := []) (N := (0, 0)) (envCons_good good20 envNil_good) lp10 Try.func10 (by kernel_rfl) (by kernel_rfl) (fun _ => by kernel_rfl) ev10
noncomputable def G3 : Env := (envCons 4 [] E4 (envCons 6 [] E6 (envCons 5 [] E5 (envCons 7 [] E7 (envCons 8 [] E8 (envCons 9 [0] E9 (envCons 10 [] E10 envNil)))))))
noncomputable def c3 : Code := bodyOf Try.f3
noncomputable def L.FnExactPanesSort (a1 : List ty2) : Option Bool :=
(Option.bind (L.szPaneS 1048576 a1) fun r2 =>
(bif (decide (r2 < 0)) then
(some true)
else
(Option.bind (L.toPaneS a1) fun r4 =>
(Option.bind (S.PanesSort r4) fun r5 =>
(Option.bind (L.toPaneS a1) fun r6 =>
(Option.bind (I.PanesSort r6) fun r7 =>
(Option.bind (L.eqPaneS r7 r5) fun r8 =>
(bif (!r8) then
(some false)
else
(Option.bind (L.toPaneS a1) fun r9 =>
(Option.bind (L.eqPaneS r6 r9) fun r10 =>
(bif (!r10) then
(some false)
else
(Option.bind (L.markPaneS 1 r6) fun r11 =>
(bif (decide (r11.1 < 0)) then
(some false)
else
(Option.bind (L.eqPaneS r7 r5) fun r13 =>
(bif (!r13) then
(some false)
else
(Option.bind (L.markPaneS 1 r7) fun r14 =>
(Option.bind (L.heldPaneS 1 r14.2) fun r15 =>
(bif (decide (r15 < 0)) then
(some false)
else
(bif (r15 != r14.1) then
(some false)
else
(Option.bind (L.toPaneS a1) fun r17 =>
(Option.bind (I.PanesSort r17) fun r18 =>
(Option.bind (L.eqPaneS r18 r5) fun r19 =>
(bif (!r19) then
(some false)
else
(Option.bind (L.heldPaneS 1 r14.2) fun r20 =>
(bif (decide (r20 < 0)) then
(some false)
else
(bif (r20 != r14.1) then
(some false)
else
(some true)))))))))))))))))))))))))))
noncomputable def sg3 : Sg := ⟨⟨[.one (.sl 0)], [], [(33, sh1, .ro)]⟩, [.row sh1], ⟨[hh], [], []⟩, [.bool]⟩
noncomputable def E3 : Fun2 := eOf sg3 L.FnExactPanesSort
theorem ev3 (a : Args sg3.ks) : evS Try.prog G3 loopNil (0, 0) [] Try.f3 c3 (kOf sg3) (sg3.sk.fl (encP sg3.ks a)) = unc sg3.ks L.FnExactPanesSort a := by kernel_rfl
theorem good3 : Vm.Good Try.prog 3 E3 := good_gen (G := G3) (L := loopNil) (c := c3) (rn := []) (N := (0, 0)) (envCons_good good4 (envCons_good good6 (envCons_good good5 (envCons_good good7 (envCons_good good8 (envCons_good good9 (envCons_good good10 envNil_good))))))) (no_loops (c := c3) (by kernel_rfl)) Try.func3 (by kernel_rfl) (by kernel_rfl) (fun _ => by kernel_rfl) ev3
end Go.Proofs.Ytipipipngmenoaa.Run
