import Derived.Test.YtidojhgkpgomcaaGreatVmU
import Derived.Test.YtidojhgkpgomcaaGreatProg
namespace Go.Proofs.YtidojhgkpgomcaaGreat.Run
open Go Go.RowKit Go.Proofs.YtidojhgkpgomcaaGreatW.PrintWords Go.Proofs.YtidojhgkpgomcaaGreat.Vm
set_option linter.unusedVariables false
set_option maxRecDepth 100000
set_option maxHeartbeats 4000000

noncomputable abbrev sh1 : Sh := (.pair (.int .i64) (.int .i64))
noncomputable abbrev sh2 : Sh := (.pair (.sl 289 (.pair (.int .i64) (.int .i64))) (.pair (.sl 289 (.pair (.int .i64) (.int .i64))) (.pair (.pair (.int .i64) (.pair (.int .i64) (.int .i64))) (.pair (.int .i64) (.int .i64)))))
noncomputable abbrev sh3 : Sh := (.pair (.int .i64) (.pair (.int .i64) (.int .i64)))
noncomputable abbrev sh4 : Sh := (.pair (.int .i64) (.pair (.int .i64) (.pair (.int .i64) (.pair (.int .i64) (.int .i64)))))
noncomputable abbrev sh5 : Sh := (.pair (.int .i64) (.pair (.int .i64) (.pair (.int .i64) (.int .i64))))
noncomputable abbrev sh6 : Sh := (.pair (.int .i64) .bool)
noncomputable abbrev sh7 : Sh := (.pair (.int .i64) (.pair (.int .i64) (.pair (.int .i64) (.pair (.int .i64) (.pair (.int .i64) (.pair (.int .i64) (.pair (.pair (.int .i64) (.int .u64)) (.pair (.int .i64) (.pair (.int .i64) (.sl 3 (.int .i64)))))))))))
noncomputable abbrev sh8 : Sh := (.pair (.int .i64) (.pair (.int .i64) (.pair (.int .i64) (.pair (.int .i64) (.pair (.int .i64) (.pair (.int .i64) (.pair (.int .i64) (.pair (.int .i64) (.pair (.sl 3 (.int .i64)) .bool)))))))))
noncomputable abbrev sh9 : Sh := (.pair (.int .i64) (.pair (.int .i64) (.pair (.int .i64) (.pair (.int .i64) (.pair (.sl 307 (.pair (.int .i64) (.pair (.int .i64) (.pair (.int .i64) (.pair (.int .i64) (.pair (.int .i64) (.pair (.int .i64) (.pair (.int .i64) (.pair (.int .i64) (.pair (.sl 3 (.int .i64)) .bool)))))))))) (.sl 310 (.pair (.int .i64) (.pair (.int .i64) (.int .i64)))))))))
noncomputable abbrev sh10 : Sh := (.pair (.sl 255 (.pair (.int .i64) (.int .i64))) (.pair (.sl 255 (.pair (.int .i64) (.int .i64))) (.pair (.pair (.int .i64) (.pair (.int .i64) (.int .i64))) (.pair (.int .i64) (.int .i64)))))
noncomputable abbrev sh11 : Sh := (.pair (.int .i64) (.pair (.int .i64) (.pair (.int .i64) (.pair (.int .i64) (.pair (.sl 230 (.pair (.int .i64) (.pair (.int .i64) (.pair (.int .i64) (.pair (.int .i64) (.pair (.int .i64) (.pair (.int .i64) (.pair (.int .i64) (.pair (.int .i64) (.pair (.sl 3 (.int .i64)) .bool)))))))))) (.sl 233 (.pair (.int .i64) (.pair (.int .i64) (.int .i64)))))))))
noncomputable abbrev ty1 : Type := ((Int × List Int) × Int × Int × List (List (Int × Int) × List (Int × Int) × (Int × Int × Int) × Int × Int) × List (Int × Int × Int) × List (Int × Int × Int × Int × Int)) × List (Int × Int × Int × Int) × (Int × List (Int × Bool)) × List (Int × Int × Int × Int × Int × Int × (Int × Int) × Int × Int × List Int) × List Int × List Int × List (Int × Int × Int × Int × List (Int × Int × Int × Int × Int × Int × Int × Int × List Int × Bool) × List (Int × Int × Int))
noncomputable abbrev ty3 : Type := Int × Int × Int × Int × List (Int × Int × Int × Int × Int × Int × Int × Int × List Int × Bool) × List (Int × Int × Int)
noncomputable abbrev ty5 : Type := Int × Int × Int × Int × Int × Int × (Int × Int) × Int × Int × List Int
noncomputable abbrev ty6 : Type := List (Int × Int) × List (Int × Int) × (Int × Int × Int) × Int × Int
noncomputable abbrev ty7 : Type := Int × Int × Int × Int × Int × Int × Int × Int × List Int × Bool
noncomputable abbrev ty10 : Type := Int × Int × Int × Int × Int
noncomputable abbrev df1 : Int × Int × Int := ((0 : Int), ((0 : Int), (0 : Int)))
noncomputable abbrev df2 : Int × Int := ((0 : Int), (0 : Int))
noncomputable abbrev df3 : Int × Int × Int × Int × Int × Int × (Int × Int) × Int × Int × List Int := ((0 : Int), ((0 : Int), ((0 : Int), ((0 : Int), ((0 : Int), ((0 : Int), (((0 : Int), (0 : Int)), ((0 : Int), ((0 : Int), [])))))))))
noncomputable abbrev df4 : Int × Int × Int × Int × Int × Int × Int × Int × List Int × Bool := ((0 : Int), ((0 : Int), ((0 : Int), ((0 : Int), ((0 : Int), ((0 : Int), ((0 : Int), ((0 : Int), ([], false)))))))))
noncomputable abbrev df5 : Int × Int × Int × Int × List (Int × Int × Int × Int × Int × Int × Int × Int × List Int × Bool) × List (Int × Int × Int) := ((0 : Int), ((0 : Int), ((0 : Int), ((0 : Int), ([], [])))))
noncomputable abbrev df6 : Int × Int × Int × Int × Int := ((0 : Int), ((0 : Int), ((0 : Int), ((0 : Int), (0 : Int)))))
noncomputable abbrev df7 : Int × Int × Int × Int := ((0 : Int), ((0 : Int), ((0 : Int), (0 : Int))))
noncomputable abbrev df8 : Int × Bool := ((0 : Int), false)
noncomputable def G83 : Env := envNil
noncomputable def c83 : Code := bodyOf Tryz.f83
noncomputable def L.szUint64S (a1 : Int) (a2 : List Int) : Option Int :=
(let v4 : Int := (IntKind.wrap .i64 (a1 - (a2.length : Int)))
(bif (decide (v4 < 0)) then
(some (-1))
else
(some v4)))
noncomputable def sg83 : Sg := ⟨⟨[.one (.sl 0), hh], [], [(87, (.int .u64), .ro)]⟩, [.int .i64, .row (.int .u64)], ⟨[hh], [], []⟩, [.int .i64]⟩
noncomputable def E83 : Fun2 := eOf sg83 L.szUint64S
theorem ev83 (a : Args sg83.ks) : evS Tryz.prog G83 loopNil (0, 0) [] Tryz.f83 c83 (kOf sg83) (sg83.sk.fl (encP sg83.ks a)) = unc sg83.ks L.szUint64S a := by kernel_rfl
theorem good83 : Vm.Good Tryz.prog 83 E83 := good_gen (G := G83) (L := loopNil) (c := c83) (rn := []) (N := (0, 0)) envNil_good (no_loops (c := c83) (by kernel_rfl)) Tryz.func83 (by kernel_rfl) (by kernel_rfl) (fun _ => by kernel_rfl) ev83
noncomputable def G25 : Env := (envCons 83 [] E83 envNil)
noncomputable def c25 : Code := bodyOf Tryz.f25
noncomputable def L.szLat (a1 a2 : Int) (a3 : List Int) : Option Int :=
(Option.bind (L.szUint64S a2 a3) fun r4 =>
(bif (decide (r4 < 0)) then
(some (-1))
else
(some r4)))
noncomputable def sg25 : Sg := ⟨⟨[.agg [.hole, .sl 0], hh], [], [(87, (.int .u64), .ro)]⟩, (ki 2 [.row (.int .u64)]), ⟨[hh], [], []⟩, [.int .i64]⟩
noncomputable def E25 : Fun2 := eOf sg25 L.szLat
theorem ev25 (a : Args sg25.ks) : evS Tryz.prog G25 loopNil (0, 0) [] Tryz.f25 c25 (kOf sg25) (sg25.sk.fl (encP sg25.ks a)) = unc sg25.ks L.szLat a := by kernel_rfl
theorem good25 : Vm.Good Tryz.prog 25 E25 := good_gen (G := G25) (L := loopNil) (c := c25) (rn := []) (N := (0, 0)) (envCons_good good83 envNil_good) (no_loops (c := c25) (by kernel_rfl)) Tryz.func25 (by kernel_rfl) (by kernel_rfl) (fun _ => by kernel_rfl) ev25
noncomputable def G218 : Env := envNil
noncomputable def c218 : Code := bodyOf Tryz.f218
noncomputable def L.szTokS (a1 : Int) (a2 : List (Int × Int)) : Option Int :=
(let v4 : Int := (IntKind.wrap .i64 (a1 - (a2.length : Int)))
(bif (decide (v4 < 0)) then
(some (-1))
else
(some v4)))
noncomputable def sg218 : Sg := ⟨⟨[.one (.sl 0), hh], [], [(289, sh1, .ro)]⟩, [.int .i64, .row sh1], ⟨[hh], [], []⟩, [.int .i64]⟩
noncomputable def E218 : Fun2 := eOf sg218 L.szTokS
theorem ev218 (a : Args sg218.ks) : evS Tryz.prog G218 loopNil (0, 0) [] Tryz.f218 c218 (kOf sg218) (sg218.sk.fl (encP sg218.ks a)) = unc sg218.ks L.szTokS a := by kernel_rfl
theorem good218 : Vm.Good Tryz.prog 218 E218 := good_gen (G := G218) (L := loopNil) (c := c218) (rn := []) (N := (0, 0)) envNil_good (no_loops (c := c218) (by kernel_rfl)) Tryz.func218 (by kernel_rfl) (by kernel_rfl) (fun _ => by kernel_rfl) ev218
noncomputable def G137 : Env := (envCons 218 [] E218 envNil)
noncomputable def c137 : Code := bodyOf Tryz.f137
noncomputable def L.szQuery (a1 a2 a3 a4 a5 a6 : Int) (a7 a8 : List (Int × Int)) : Option Int :=
(Option.bind (L.szTokS a6 a7) fun r9 =>
(bif (decide (r9 < 0)) then
(some (-1))
else
(Option.bind (L.szTokS r9 a8) fun r11 =>
(bif (decide (r11 < 0)) then
(some (-1))
else
(some r11)))))
noncomputable def sg137 : Sg := ⟨⟨[.agg ((.sl 0) :: (.sl 1) :: (ho 5 [])), hh], [], [(289, sh1, .ro), (289, sh1, .ro)]⟩, (ki 6 [.row sh1, .row sh1]), ⟨[hh], [], []⟩, [.int .i64]⟩
noncomputable def E137 : Fun2 := eOf sg137 L.szQuery
theorem ev137 (a : Args sg137.ks) : evS Tryz.prog G137 loopNil (0, 0) [] Tryz.f137 c137 (kOf sg137) (sg137.sk.fl (encP sg137.ks a)) = unc sg137.ks L.szQuery a := by kernel_rfl
theorem good137 : Vm.Good Tryz.prog 137 E137 := good_gen (G := G137) (L := loopNil) (c := c137) (rn := []) (N := (0, 0)) (envCons_good good218 envNil_good) (no_loops (c := c137) (by kernel_rfl)) Tryz.func137 (by kernel_rfl) (by kernel_rfl) (fun _ => by kernel_rfl) ev137
noncomputable def G55 : Env := (envCons 137 [] E137 envNil)
noncomputable def c55 : Code := bodyOf Tryz.f55
noncomputable def c55_5 : Code := (loopsOf c55).getD 0 .skip
noncomputable def L.szQueryS_l0 : Nat → (Int → Int → Option Int) → (Int → Option Int) → Int → Int → (List ty6) → Option Int
  | 0, _, _, _, _, _ => none
  | m + 1, e5_0, e5_1, a6, a7, a8 =>
    (bif (decide (a7 < (a8.length : Int))) then
    (bif decide ((0 : Int) ≤ a7 ∧ a7 < (a8.length : Int)) then
    (Option.bind (L.szQuery ((nthI a8 a7 ([], ([], (df1, df2)))).2.2.1.1) ((nthI a8 a7 ([], ([], (df1, df2)))).2.2.1.2.1) ((nthI a8 a7 ([], ([], (df1, df2)))).2.2.1.2.2) ((nthI a8 a7 ([], ([], (df1, df2)))).2.2.2.1) ((nthI a8 a7 ([], ([], (df1, df2)))).2.2.2.2) a6 ((nthI a8 a7 ([], ([], (df1, df2)))).1) ((nthI a8 a7 ([], ([], (df1, df2)))).2.1)) fun r11 =>
    (bif (decide (r11 < 0)) then
    (e5_0 r11 (-1))
    else
    (L.szQueryS_l0 m e5_0 e5_1 r11 (IntKind.wrap .i64 (a7 + 1)) a8)))
    else
    none)
    else
    (e5_1 a6))
noncomputable def L.szQueryS (a1 : Int) (a2 : List ty6) : Option Int :=
(let v4 : Int := (IntKind.wrap .i64 (a1 - (a2.length : Int)))
(bif (decide (v4 < 0)) then
(some (-1))
else
(L.szQueryS_l0 fu (fun y14 y15 =>
(some y15)) (fun y16 =>
(some y16)) v4 0 a2)))
noncomputable def H55_5 : LoopH := ⟨⟨((.one (.sl 0)) :: hh :: (hu 3 (hh :: (hu 21 [])))), [], [(185, sh2, .ro)]⟩, ([2, 3, 4] ++ rg 6 21), [], ([0, 2, 3] ++ rg 5 22), [], []⟩
noncomputable def k55_5 : List PK := (ki 2 [.row sh2])
noncomputable def W55_5 (m : Nat) (k : Kont Int) : Cur k55_5 (Option Int) := L.szQueryS_l0 m (exF k .ret ⟨((.one (.unk)) :: hh :: (hu 2 (hh :: (hu 22 [])))), [], []⟩ (ki 2 [])) (exF k (.exit 0) ⟨((.one (.unk)) :: hh :: (hu 25 [])), [], []⟩ [.int .i64])
noncomputable def E55_5 (m : Nat) : List Prm → Kont Int → Option Int := eL k55_5 (W55_5 m)
theorem ev55_5 (m : Nat) (k : Kont Int) (a : Args k55_5) : evL Tryz.prog G55 loopNil c55_5 (turn Tryz.prog (0, 0) H55_5 (E55_5 m) k) (H55_5.sk.fl (encP k55_5 a)) = unc k55_5 (W55_5 (m + 1) k) a := by kernel_rfl
theorem ok55_5 (m : Nat) : LoopOk Tryz.prog (0, 0) c55_5 (enter Tryz.prog (0, 0) H55_5 (E55_5 m)) := loop_gen (Fl := W55_5) (G := G55) (L := loopNil) (envCons_good good137 envNil_good) (no_loops (c := c55_5) (by kernel_rfl)) (fun _ _ => by kernel_rfl) ev55_5 m
noncomputable def L55 : LEnv Int := (loopCons 5 (enter Tryz.prog (0, 0) H55_5 (E55_5 fu)) loopNil)
theorem lq55 : loopsOf c55 = [c55_5] := by kernel_rfl
theorem fr55_5 : firstReg c55_5 = some 5 := by kernel_rfl
theorem le55_5 : L55 5 = enter Tryz.prog (0, 0) H55_5 (E55_5 fu) := by kernel_rfl
theorem lm55 : ∀ x ∈ [c55_5], ∀ id, firstReg x = some id → LoopOk Tryz.prog (0, 0) x (L55 id) := (loops_cons fr55_5 le55_5 (ok55_5 fu) loops_nil)
theorem lp55 : ∀ x ∈ loopsOf c55, ∀ id, firstReg x = some id → LoopOk Tryz.prog (0, 0) x (L55 id) := loops_eq lq55 lm55
noncomputable def sg55 : Sg := ⟨⟨[.one (.sl 0), hh], [], [(185, sh2, .ro)]⟩, [.int .i64, .row sh2], ⟨[hh], [], []⟩, [.int .i64]⟩
noncomputable def E55 : Fun2 := eOf sg55 L.szQueryS
theorem ev55 (a : Args sg55.ks) : evS Tryz.prog G55 L55 (0, 0) [] Tryz.f55 c55 (kOf sg55) (sg55.sk.fl (encP sg55.ks a)) = unc sg55.ks L.szQueryS a := by kernel_rfl
theorem good55 : Vm.Good Tryz.prog 55 E55 := good_gen (G := G55) (L := L55) (c := c55) (rn := []) (N := (0, 0)) (envCons_good good137 envNil_good) lp55 Tryz.func55 (by kernel_rfl) (by kernel_rfl) (fun _ => by kernel_rfl) ev55
noncomputable def G56 : Env := envNil
noncomputable def c56 : Code := bodyOf Tryz.f56
noncomputable def L.szSubS (a1 : Int) (a2 : List (Int × Int × Int)) : Option Int :=
(let v4 : Int := (IntKind.wrap .i64 (a1 - (a2.length : Int)))
(bif (decide (v4 < 0)) then
(some (-1))
else
(some v4)))
noncomputable def sg56 : Sg := ⟨⟨[.one (.sl 0), hh], [], [(194, sh3, .ro)]⟩, [.int .i64, .row sh3], ⟨[hh], [], []⟩, [.int .i64]⟩
noncomputable def E56 : Fun2 := eOf sg56 L.szSubS
theorem ev56 (a : Args sg56.ks) : evS Tryz.prog G56 loopNil (0, 0) [] Tryz.f56 c56 (kOf sg56) (sg56.sk.fl (encP sg56.ks a)) = unc sg56.ks L.szSubS a := by kernel_rfl
theorem good56 : Vm.Good Tryz.prog 56 E56 := good_gen (G := G56) (L := loopNil) (c := c56) (rn := []) (N := (0, 0)) envNil_good (no_loops (c := c56) (by kernel_rfl)) Tryz.func56 (by kernel_rfl) (by kernel_rfl) (fun _ => by kernel_rfl) ev56
noncomputable def G57 : Env := envNil
noncomputable def c57 : Code := bodyOf Tryz.f57
noncomputable def L.szRuleS (a1 : Int) (a2 : List ty10) : Option Int :=
(let v4 : Int := (IntKind.wrap .i64 (a1 - (a2.length : Int)))
(bif (decide (v4 < 0)) then
(some (-1))
else
(some v4)))
noncomputable def sg57 : Sg := ⟨⟨[.one (.sl 0), hh], [], [(196, sh4, .ro)]⟩, [.int .i64, .row sh4], ⟨[hh], [], []⟩, [.int .i64]⟩
noncomputable def E57 : Fun2 := eOf sg57 L.szRuleS
theorem ev57 (a : Args sg57.ks) : evS Tryz.prog G57 loopNil (0, 0) [] Tryz.f57 c57 (kOf sg57) (sg57.sk.fl (encP sg57.ks a)) = unc sg57.ks L.szRuleS a := by kernel_rfl
theorem good57 : Vm.Good Tryz.prog 57 E57 := good_gen (G := G57) (L := loopNil) (c := c57) (rn := []) (N := (0, 0)) envNil_good (no_loops (c := c57) (by kernel_rfl)) Tryz.func57 (by kernel_rfl) (by kernel_rfl) (fun _ => by kernel_rfl) ev57
noncomputable def G16 : Env := (envCons 25 [] E25 (envCons 55 [] E55 (envCons 56 [] E56 (envCons 57 [] E57 envNil))))
noncomputable def c16 : Code := bodyOf Tryz.f16
noncomputable def L.szConf (a1 a2 a3 a4 : Int) (a5 : List Int) (a6 : List ty6) (a7 : List (Int × Int × Int)) (a8 : List ty10) : Option Int :=
(Option.bind (L.szLat a1 a4 a5) fun r9 =>
(bif (decide (r9 < 0)) then
(some (-1))
else
(Option.bind (L.szQueryS r9 a6) fun r11 =>
(bif (decide (r11 < 0)) then
(some (-1))
else
(Option.bind (L.szSubS r11 a7) fun r13 =>
(bif (decide (r13 < 0)) then
(some (-1))
else
(Option.bind (L.szRuleS r13 a8) fun r15 =>
(bif (decide (r15 < 0)) then
(some (-1))
else
(some r15)))))))))
noncomputable def sg16 : Sg := ⟨⟨[.agg ((.hole) :: (.sl 0) :: (ho 2 [.sl 1, .sl 2, .sl 3])), hh], [], [(87, (.int .u64), .ro), (185, sh2, .ro), (194, sh3, .ro), (196, sh4, .ro)]⟩, (ki 4 [.row (.int .u64), .row sh2, .row sh3, .row sh4]), ⟨[hh], [], []⟩, [.int .i64]⟩
noncomputable def E16 : Fun2 := eOf sg16 L.szConf
theorem ev16 (a : Args sg16.ks) : evS Tryz.prog G16 loopNil (0, 0) [] Tryz.f16 c16 (kOf sg16) (sg16.sk.fl (encP sg16.ks a)) = unc sg16.ks L.szConf a := by kernel_rfl
theorem good16 : Vm.Good Tryz.prog 16 E16 := good_gen (G := G16) (L := loopNil) (c := c16) (rn := []) (N := (0, 0)) (envCons_good good25 (envCons_good good55 (envCons_good good56 (envCons_good good57 envNil_good)))) (no_loops (c := c16) (by kernel_rfl)) Tryz.func16 (by kernel_rfl) (by kernel_rfl) (fun _ => by kernel_rfl) ev16
noncomputable def G94 : Env := envNil
noncomputable def c94 : Code := bodyOf Tryz.f94
noncomputable def L.szPunctS (a1 : Int) (a2 : List (Int × Int × Int × Int)) : Option Int :=
(let v4 : Int := (IntKind.wrap .i64 (a1 - (a2.length : Int)))
(bif (decide (v4 < 0)) then
(some (-1))
else
(some v4)))
noncomputable def sg94 : Sg := ⟨⟨[.one (.sl 0), hh], [], [(235, sh5, .ro)]⟩, [.int .i64, .row sh5], ⟨[hh], [], []⟩, [.int .i64]⟩
noncomputable def E94 : Fun2 := eOf sg94 L.szPunctS
theorem ev94 (a : Args sg94.ks) : evS Tryz.prog G94 loopNil (0, 0) [] Tryz.f94 c94 (kOf sg94) (sg94.sk.fl (encP sg94.ks a)) = unc sg94.ks L.szPunctS a := by kernel_rfl
theorem good94 : Vm.Good Tryz.prog 94 E94 := good_gen (G := G94) (L := loopNil) (c := c94) (rn := []) (N := (0, 0)) envNil_good (no_loops (c := c94) (by kernel_rfl)) Tryz.func94 (by kernel_rfl) (by kernel_rfl) (fun _ => by kernel_rfl) ev94
noncomputable def G182 : Env := envNil
noncomputable def c182 : Code := bodyOf Tryz.f182
noncomputable def L.szMarkS (a1 : Int) (a2 : List (Int × Bool)) : Option Int :=
(let v4 : Int := (IntKind.wrap .i64 (a1 - (a2.length : Int)))
(bif (decide (v4 < 0)) then
(some (-1))
else
(some v4)))
noncomputable def sg182 : Sg := ⟨⟨[.one (.sl 0), hh], [], [(272, sh6, .ro)]⟩, [.int .i64, .row sh6], ⟨[hh], [], []⟩, [.int .i64]⟩
noncomputable def E182 : Fun2 := eOf sg182 L.szMarkS
theorem ev182 (a : Args sg182.ks) : evS Tryz.prog G182 loopNil (0, 0) [] Tryz.f182 c182 (kOf sg182) (sg182.sk.fl (encP sg182.ks a)) = unc sg182.ks L.szMarkS a := by kernel_rfl
theorem good182 : Vm.Good Tryz.prog 182 E182 := good_gen (G := G182) (L := loopNil) (c := c182) (rn := []) (N := (0, 0)) envNil_good (no_loops (c := c182) (by kernel_rfl)) Tryz.func182 (by kernel_rfl) (by kernel_rfl) (fun _ => by kernel_rfl) ev182
noncomputable def G95 : Env := (envCons 182 [] E182 envNil)
noncomputable def c95 : Code := bodyOf Tryz.f95
noncomputable def L.szMarks (a1 a2 : Int) (a3 : List (Int × Bool)) : Option Int :=
(Option.bind (L.szMarkS a2 a3) fun r4 =>
(bif (decide (r4 < 0)) then
(some (-1))
else
(some r4)))
noncomputable def sg95 : Sg := ⟨⟨[.agg [.hole, .sl 0], hh], [], [(272, sh6, .ro)]⟩, (ki 2 [.row sh6]), ⟨[hh], [], []⟩, [.int .i64]⟩
noncomputable def E95 : Fun2 := eOf sg95 L.szMarks
theorem ev95 (a : Args sg95.ks) : evS Tryz.prog G95 loopNil (0, 0) [] Tryz.f95 c95 (kOf sg95) (sg95.sk.fl (encP sg95.ks a)) = unc sg95.ks L.szMarks a := by kernel_rfl
theorem good95 : Vm.Good Tryz.prog 95 E95 := good_gen (G := G95) (L := loopNil) (c := c95) (rn := []) (N := (0, 0)) (envCons_good good182 envNil_good) (no_loops (c := c95) (by kernel_rfl)) Tryz.func95 (by kernel_rfl) (by kernel_rfl) (fun _ => by kernel_rfl) ev95
noncomputable def G96 : Env := envNil
noncomputable def c96 : Code := bodyOf Tryz.f96
noncomputable def L.szIntS (a1 : Int) (a2 : List Int) : Option Int :=
(let v4 : Int := (IntKind.wrap .i64 (a1 - (a2.length : Int)))
(bif (decide (v4 < 0)) then
(some (-1))
else
(some v4)))
noncomputable def sg96 : Sg := ⟨⟨[.one (.sl 0), hh], [], [(3, (.int .i64), .ro)]⟩, [.int .i64, .row (.int .i64)], ⟨[hh], [], []⟩, [.int .i64]⟩
noncomputable def E96 : Fun2 := eOf sg96 L.szIntS
theorem ev96 (a : Args sg96.ks) : evS Tryz.prog G96 loopNil (0, 0) [] Tryz.f96 c96 (kOf sg96) (sg96.sk.fl (encP sg96.ks a)) = unc sg96.ks L.szIntS a := by kernel_rfl
theorem good96 : Vm.Good Tryz.prog 96 E96 := good_gen (G := G96) (L := loopNil) (c := c96) (rn := []) (N := (0, 0)) envNil_good (no_loops (c := c96) (by kernel_rfl)) Tryz.func96 (by kernel_rfl) (by kernel_rfl) (fun _ => by kernel_rfl) ev96
noncomputable def G108 : Env := (envCons 96 [] E96 envNil)
noncomputable def c108 : Code := bodyOf Tryz.f108
noncomputable def L.szAgg (a1 a2 a3 a4 a5 a6 : Int) (a7 : List Int) : Option Int :=
(Option.bind (L.szIntS a6 a7) fun r8 =>
(bif (decide (r8 < 0)) then
(some (-1))
else
(some r8)))
noncomputable def sg108 : Sg := ⟨⟨[.agg (ho 5 [.sl 0]), hh], [], [(3, (.int .i64), .ro)]⟩, (ki 2 ((.int .u64) :: (ki 3 [.row (.int .i64)]))), ⟨[hh], [], []⟩, [.int .i64]⟩
noncomputable def E108 : Fun2 := eOf sg108 L.szAgg
theorem ev108 (a : Args sg108.ks) : evS Tryz.prog G108 loopNil (0, 0) [] Tryz.f108 c108 (kOf sg108) (sg108.sk.fl (encP sg108.ks a)) = unc sg108.ks L.szAgg a := by kernel_rfl
theorem good108 : Vm.Good Tryz.prog 108 E108 := good_gen (G := G108) (L := loopNil) (c := c108) (rn := []) (N := (0, 0)) (envCons_good good96 envNil_good) (no_loops (c := c108) (by kernel_rfl)) Tryz.func108 (by kernel_rfl) (by kernel_rfl) (fun _ => by kernel_rfl) ev108
noncomputable def G40 : Env := (envCons 108 [] E108 envNil)
noncomputable def c40 : Code := bodyOf Tryz.f40
noncomputable def L.szCell (a1 a2 a3 a4 a5 a6 a7 a8 a9 a10 a11 : Int) (a12 : List Int) : Option Int :=
(Option.bind (L.szAgg a6 a7 a8 a9 a10 a11 a12) fun r13 =>
(bif (decide (r13 < 0)) then
(some (-1))
else
(some r13)))
noncomputable def sg40 : Sg := ⟨⟨[.agg (ho 10 [.sl 0]), hh], [], [(3, (.int .i64), .ro)]⟩, (ki 7 ((.int .u64) :: (ki 3 [.row (.int .i64)]))), ⟨[hh], [], []⟩, [.int .i64]⟩
noncomputable def E40 : Fun2 := eOf sg40 L.szCell
theorem ev40 (a : Args sg40.ks) : evS Tryz.prog G40 loopNil (0, 0) [] Tryz.f40 c40 (kOf sg40) (sg40.sk.fl (encP sg40.ks a)) = unc sg40.ks L.szCell a := by kernel_rfl
theorem good40 : Vm.Good Tryz.prog 40 E40 := good_gen (G := G40) (L := loopNil) (c := c40) (rn := []) (N := (0, 0)) (envCons_good good108 envNil_good) (no_loops (c := c40) (by kernel_rfl)) Tryz.func40 (by kernel_rfl) (by kernel_rfl) (fun _ => by kernel_rfl) ev40
noncomputable def G8 : Env := (envCons 40 [] E40 envNil)
noncomputable def c8 : Code := bodyOf Tryz.f8
noncomputable def c8_5 : Code := (loopsOf c8).getD 0 .skip
noncomputable def L.szCellS_l0 : Nat → (Int → Int → Option Int) → (Int → Option Int) → Int → Int → (List ty5) → Option Int
  | 0, _, _, _, _, _ => none
  | m + 1, e5_0, e5_1, a6, a7, a8 =>
    (bif (decide (a7 < (a8.length : Int))) then
    (bif decide ((0 : Int) ≤ a7 ∧ a7 < (a8.length : Int)) then
    (Option.bind (L.szCell ((nthI a8 a7 df3).1) ((nthI a8 a7 df3).2.1) ((nthI a8 a7 df3).2.2.1) ((nthI a8 a7 df3).2.2.2.1) ((nthI a8 a7 df3).2.2.2.2.1) ((nthI a8 a7 df3).2.2.2.2.2.1) ((nthI a8 a7 df3).2.2.2.2.2.2.1.1) ((nthI a8 a7 df3).2.2.2.2.2.2.1.2) ((nthI a8 a7 df3).2.2.2.2.2.2.2.1) ((nthI a8 a7 df3).2.2.2.2.2.2.2.2.1) a6 ((nthI a8 a7 df3).2.2.2.2.2.2.2.2.2)) fun r11 =>
    (bif (decide (r11 < 0)) then
    (e5_0 r11 (-1))
    else
    (L.szCellS_l0 m e5_0 e5_1 r11 (IntKind.wrap .i64 (a7 + 1)) a8)))
    else
    none)
    else
    (e5_1 a6))
noncomputable def L.szCellS (a1 : Int) (a2 : List ty5) : Option Int :=
(let v4 : Int := (IntKind.wrap .i64 (a1 - (a2.length : Int)))
(bif (decide (v4 < 0)) then
(some (-1))
else
(L.szCellS_l0 fu (fun y14 y15 =>
(some y15)) (fun y16 =>
(some y16)) v4 0 a2)))
noncomputable def H8_5 : LoopH := ⟨⟨((.one (.sl 0)) :: hh :: (hu 3 (hh :: (hu 21 [])))), [], [(93, sh7, .ro)]⟩, ([2, 3, 4] ++ rg 6 21), [], ([0, 2, 3] ++ rg 5 22), [], []⟩
noncomputable def k8_5 : List PK := (ki 2 [.row sh7])
noncomputable def W8_5 (m : Nat) (k : Kont Int) : Cur k8_5 (Option Int) := L.szCellS_l0 m (exF k .ret ⟨((.one (.unk)) :: hh :: (hu 2 (hh :: (hu 22 [])))), [], []⟩ (ki 2 [])) (exF k (.exit 0) ⟨((.one (.unk)) :: hh :: (hu 25 [])), [], []⟩ [.int .i64])
noncomputable def E8_5 (m : Nat) : List Prm → Kont Int → Option Int := eL k8_5 (W8_5 m)
theorem ev8_5 (m : Nat) (k : Kont Int) (a : Args k8_5) : evL Tryz.prog G8 loopNil c8_5 (turn Tryz.prog (0, 0) H8_5 (E8_5 m) k) (H8_5.sk.fl (encP k8_5 a)) = unc k8_5 (W8_5 (m + 1) k) a := by kernel_rfl
theorem ok8_5 (m : Nat) : LoopOk Tryz.prog (0, 0) c8_5 (enter Tryz.prog (0, 0) H8_5 (E8_5 m)) := loop_gen (Fl := W8_5) (G := G8) (L := loopNil) (envCons_good good40 envNil_good) (no_loops (c := c8_5) (by kernel_rfl)) (fun _ _ => by kernel_rfl) ev8_5 m
noncomputable def L8 : LEnv Int := (loopCons 5 (enter Tryz.prog (0, 0) H8_5 (E8_5 fu)) loopNil)
theorem lq8 : loopsOf c8 = [c8_5] := by kernel_rfl
theorem fr8_5 : firstReg c8_5 = some 5 := by kernel_rfl
theorem le8_5 : L8 5 = enter Tryz.prog (0, 0) H8_5 (E8_5 fu) := by kernel_rfl
theorem lm8 : ∀ x ∈ [c8_5], ∀ id, firstReg x = some id → LoopOk Tryz.prog (0, 0) x (L8 id) := (loops_cons fr8_5 le8_5 (ok8_5 fu) loops_nil)
theorem lp8 : ∀ x ∈ loopsOf c8, ∀ id, firstReg x = some id → LoopOk Tryz.prog (0, 0) x (L8 id) := loops_eq lq8 lm8
noncomputable def sg8 : Sg := ⟨⟨[.one (.sl 0), hh], [], [(93, sh7, .ro)]⟩, [.int .i64, .row sh7], ⟨[hh], [], []⟩, [.int .i64]⟩
noncomputable def E8 : Fun2 := eOf sg8 L.szCellS
theorem ev8 (a : Args sg8.ks) : evS Tryz.prog G8 L8 (0, 0) [] Tryz.f8 c8 (kOf sg8) (sg8.sk.fl (encP sg8.ks a)) = unc sg8.ks L.szCellS a := by kernel_rfl
theorem good8 : Vm.Good Tryz.prog 8 E8 := good_gen (G := G8) (L := L8) (c := c8) (rn := []) (N := (0, 0)) (envCons_good good40 envNil_good) lp8 Tryz.func8 (by kernel_rfl) (by kernel_rfl) (fun _ => by kernel_rfl) ev8
noncomputable def G308 : Env := (envCons 96 [] E96 envNil)
noncomputable def c308 : Code := bodyOf Tryz.f308
noncomputable def L.szPane (a1 a2 a3 a4 a5 a6 : Int) (a7 : Bool) (a8 : Int) (a9 : List Int) : Option Int :=
(Option.bind (L.szIntS a8 a9) fun r10 =>
(bif (decide (r10 < 0)) then
(some (-1))
else
(some r10)))
noncomputable def sg308 : Sg := ⟨⟨[.agg (ho 6 [.sl 0, .hole]), hh], [], [(3, (.int .i64), .ro)]⟩, (ki 6 [.bool, .int .i64, .row (.int .i64)]), ⟨[hh], [], []⟩, [.int .i64]⟩
noncomputable def E308 : Fun2 := eOf sg308 L.szPane
theorem ev308 (a : Args sg308.ks) : evS Tryz.prog G308 loopNil (0, 0) [] Tryz.f308 c308 (kOf sg308) (sg308.sk.fl (encP sg308.ks a)) = unc sg308.ks L.szPane a := by kernel_rfl
theorem good308 : Vm.Good Tryz.prog 308 E308 := good_gen (G := G308) (L := loopNil) (c := c308) (rn := []) (N := (0, 0)) (envCons_good good96 envNil_good) (no_loops (c := c308) (by kernel_rfl)) Tryz.func308 (by kernel_rfl) (by kernel_rfl) (fun _ => by kernel_rfl) ev308
noncomputable def G287 : Env := (envCons 308 [] E308 envNil)
noncomputable def c287 : Code := bodyOf Tryz.f287
noncomputable def L.szItem (a1 a2 a3 a4 a5 a6 a7 a8 : Int) (a9 : Bool) (a10 : Int) (a11 : List Int) : Option Int :=
(Option.bind (L.szPane a3 a4 a5 a6 a7 a8 a9 a10 a11) fun r12 =>
(bif (decide (r12 < 0)) then
(some (-1))
else
(some r12)))
noncomputable def sg287 : Sg := ⟨⟨[.agg (ho 8 [.sl 0, .hole]), hh], [], [(3, (.int .i64), .ro)]⟩, (ki 8 [.bool, .int .i64, .row (.int .i64)]), ⟨[hh], [], []⟩, [.int .i64]⟩
noncomputable def E287 : Fun2 := eOf sg287 L.szItem
theorem ev287 (a : Args sg287.ks) : evS Tryz.prog G287 loopNil (0, 0) [] Tryz.f287 c287 (kOf sg287) (sg287.sk.fl (encP sg287.ks a)) = unc sg287.ks L.szItem a := by kernel_rfl
theorem good287 : Vm.Good Tryz.prog 287 E287 := good_gen (G := G287) (L := loopNil) (c := c287) (rn := []) (N := (0, 0)) (envCons_good good308 envNil_good) (no_loops (c := c287) (by kernel_rfl)) Tryz.func287 (by kernel_rfl) (by kernel_rfl) (fun _ => by kernel_rfl) ev287
noncomputable def G244 : Env := (envCons 287 [] E287 envNil)
noncomputable def c244 : Code := bodyOf Tryz.f244
noncomputable def c244_5 : Code := (loopsOf c244).getD 0 .skip
noncomputable def L.szItemS_l0 : Nat → (Int → Int → Option Int) → (Int → Option Int) → Int → Int → (List ty7) → Option Int
  | 0, _, _, _, _, _ => none
  | m + 1, e5_0, e5_1, a6, a7, a8 =>
    (bif (decide (a7 < (a8.length : Int))) then
    (bif decide ((0 : Int) ≤ a7 ∧ a7 < (a8.length : Int)) then
    (Option.bind (L.szItem ((nthI a8 a7 df4).1) ((nthI a8 a7 df4).2.1) ((nthI a8 a7 df4).2.2.1) ((nthI a8 a7 df4).2.2.2.1) ((nthI a8 a7 df4).2.2.2.2.1) ((nthI a8 a7 df4).2.2.2.2.2.1) ((nthI a8 a7 df4).2.2.2.2.2.2.1) ((nthI a8 a7 df4).2.2.2.2.2.2.2.1) ((nthI a8 a7 df4).2.2.2.2.2.2.2.2.2) a6 ((nthI a8 a7 df4).2.2.2.2.2.2.2.2.1)) fun r11 =>
    (bif (decide (r11 < 0)) then
    (e5_0 r11 (-1))
    else
    (L.szItemS_l0 m e5_0 e5_1 r11 (IntKind.wrap .i64 (a7 + 1)) a8)))
    else
    none)
    else
    (e5_1 a6))
noncomputable def L.szItemS (a1 : Int) (a2 : List ty7) : Option Int :=
(let v4 : Int := (IntKind.wrap .i64 (a1 - (a2.length : Int)))
(bif (decide (v4 < 0)) then
(some (-1))
else
(L.szItemS_l0 fu (fun y14 y15 =>
(some y15)) (fun y16 =>
(some y16)) v4 0 a2)))
noncomputable def H244_5 : LoopH := ⟨⟨((.one (.sl 0)) :: hh :: (hu 3 (hh :: (hu 21 [])))), [], [(307, sh8, .ro)]⟩, ([2, 3, 4] ++ rg 6 21), [], ([0, 2, 3] ++ rg 5 22), [], []⟩
noncomputable def k244_5 : List PK := (ki 2 [.row sh8])
noncomputable def W244_5 (m : Nat) (k : Kont Int) : Cur k244_5 (Option Int) := L.szItemS_l0 m (exF k .ret ⟨((.one (.unk)) :: hh :: (hu 2 (hh :: (hu 22 [])))), [], []⟩ (ki 2 [])) (exF k (.exit 0) ⟨((.one (.unk)) :: hh :: (hu 25 [])), [], []⟩ [.int .i64])
noncomputable def E244_5 (m : Nat) : List Prm → Kont Int → Option Int := eL k244_5 (W244_5 m)
theorem ev244_5 (m : Nat) (k : Kont Int) (a : Args k244_5) : evL Tryz.prog G244 loopNil c244_5 (turn Tryz.prog (0, 0) H244_5 (E244_5 m) k) (H244_5.sk.fl (encP k244_5 a)) = unc k244_5 (W244_5 (m + 1) k) a := by kernel_rfl
theorem ok244_5 (m : Nat) : LoopOk Tryz.prog (0, 0) c244_5 (enter Tryz.prog (0, 0) H244_5 (E244_5 m)) := loop_gen (Fl := W244_5) (G := G244) (L := loopNil) (envCons_good good287 envNil_good) (no_loops (c := c244_5) (by kernel_rfl)) (fun _ _ => by kernel_rfl) ev244_5 m
noncomputable def L244 : LEnv Int := (loopCons 5 (enter Tryz.prog (0, 0) H244_5 (E244_5 fu)) loopNil)
theorem lq244 : loopsOf c244 = [c244_5] := by kernel_rfl
theorem fr244_5 : firstReg c244_5 = some 5 := by kernel_rfl
theorem le244_5 : L244 5 = enter Tryz.prog (0, 0) H244_5 (E244_5 fu) := by kernel_rfl
theorem lm244 : ∀ x ∈ [c244_5], ∀ id, firstReg x = some id → LoopOk Tryz.prog (0, 0) x (L244 id) := (loops_cons fr244_5 le244_5 (ok244_5 fu) loops_nil)
theorem lp244 : ∀ x ∈ loopsOf c244, ∀ id, firstReg x = some id → LoopOk Tryz.prog (0, 0) x (L244 id) := loops_eq lq244 lm244
noncomputable def sg244 : Sg := ⟨⟨[.one (.sl 0), hh], [], [(307, sh8, .ro)]⟩, [.int .i64, .row sh8], ⟨[hh], [], []⟩, [.int .i64]⟩
noncomputable def E244 : Fun2 := eOf sg244 L.szItemS
theorem ev244 (a : Args sg244.ks) : evS Tryz.prog G244 L244 (0, 0) [] Tryz.f244 c244 (kOf sg244) (sg244.sk.fl (encP sg244.ks a)) = unc sg244.ks L.szItemS a := by kernel_rfl
theorem good244 : Vm.Good Tryz.prog 244 E244 := good_gen (G := G244) (L := L244) (c := c244) (rn := []) (N := (0, 0)) (envCons_good good287 envNil_good) lp244 Tryz.func244 (by kernel_rfl) (by kernel_rfl) (fun _ => by kernel_rfl) ev244
noncomputable def G245 : Env := envNil
noncomputable def c245 : Code := bodyOf Tryz.f245
noncomputable def L.szRecS (a1 : Int) (a2 : List (Int × Int × Int)) : Option Int :=
(let v4 : Int := (IntKind.wrap .i64 (a1 - (a2.length : Int)))
(bif (decide (v4 < 0)) then
(some (-1))
else
(some v4)))
noncomputable def sg245 : Sg := ⟨⟨[.one (.sl 0), hh], [], [(310, sh3, .ro)]⟩, [.int .i64, .row sh3], ⟨[hh], [], []⟩, [.int .i64]⟩
noncomputable def E245 : Fun2 := eOf sg245 L.szRecS
theorem ev245 (a : Args sg245.ks) : evS Tryz.prog G245 loopNil (0, 0) [] Tryz.f245 c245 (kOf sg245) (sg245.sk.fl (encP sg245.ks a)) = unc sg245.ks L.szRecS a := by kernel_rfl
theorem good245 : Vm.Good Tryz.prog 245 E245 := good_gen (G := G245) (L := loopNil) (c := c245) (rn := []) (N := (0, 0)) envNil_good (no_loops (c := c245) (by kernel_rfl)) Tryz.func245 (by kernel_rfl) (by kernel_rfl) (fun _ => by kernel_rfl) ev245
noncomputable def G183 : Env := (envCons 244 [] E244 (envCons 245 [] E245 envNil))
noncomputable def c183 : Code := bodyOf Tryz.f183
noncomputable def L.szBox (a1 a2 a3 a4 a5 : Int) (a6 : List ty7) (a7 : List (Int × Int × Int)) : Option Int :=
(Option.bind (L.szItemS a5 a6) fun r8 =>
(bif (decide (r8 < 0)) then
(some (-1))
else
(Option.bind (L.szRecS r8 a7) fun r10 =>
(bif (decide (r10 < 0)) then
(some (-1))
else
(some r10)))))
noncomputable def sg183 : Sg := ⟨⟨[.agg (ho 4 [.sl 0, .sl 1]), hh], [], [(307, sh8, .ro), (310, sh3, .ro)]⟩, (ki 5 [.row sh8, .row sh3]), ⟨[hh], [], []⟩, [.int .i64]⟩
noncomputable def E183 : Fun2 := eOf sg183 L.szBox
theorem ev183 (a : Args sg183.ks) : evS Tryz.prog G183 loopNil (0, 0) [] Tryz.f183 c183 (kOf sg183) (sg183.sk.fl (encP sg183.ks a)) = unc sg183.ks L.szBox a := by kernel_rfl
theorem good183 : Vm.Good Tryz.prog 183 E183 := good_gen (G := G183) (L := loopNil) (c := c183) (rn := []) (N := (0, 0)) (envCons_good good244 (envCons_good good245 envNil_good)) (no_loops (c := c183) (by kernel_rfl)) Tryz.func183 (by kernel_rfl) (by kernel_rfl) (fun _ => by kernel_rfl) ev183
noncomputable def G97 : Env := (envCons 183 [] E183 envNil)
noncomputable def c97 : Code := bodyOf Tryz.f97
noncomputable def c97_5 : Code := (loopsOf c97).getD 0 .skip
noncomputable def L.szBoxS_l0 : Nat → (Int → Int → Option Int) → (Int → Option Int) → Int → Int → (List ty3) → Option Int
  | 0, _, _, _, _, _ => none
  | m + 1, e5_0, e5_1, a6, a7, a8 =>
    (bif (decide (a7 < (a8.length : Int))) then
    (bif decide ((0 : Int) ≤ a7 ∧ a7 < (a8.length : Int)) then
    (Option.bind (L.szBox ((nthI a8 a7 df5).1) ((nthI a8 a7 df5).2.1) ((nthI a8 a7 df5).2.2.1) ((nthI a8 a7 df5).2.2.2.1) a6 ((nthI a8 a7 df5).2.2.2.2.1) ((nthI a8 a7 df5).2.2.2.2.2)) fun r11 =>
    (bif (decide (r11 < 0)) then
    (e5_0 r11 (-1))
    else
    (L.szBoxS_l0 m e5_0 e5_1 r11 (IntKind.wrap .i64 (a7 + 1)) a8)))
    else
    none)
    else
    (e5_1 a6))
noncomputable def L.szBoxS (a1 : Int) (a2 : List ty3) : Option Int :=
(let v4 : Int := (IntKind.wrap .i64 (a1 - (a2.length : Int)))
(bif (decide (v4 < 0)) then
(some (-1))
else
(L.szBoxS_l0 fu (fun y14 y15 =>
(some y15)) (fun y16 =>
(some y16)) v4 0 a2)))
noncomputable def H97_5 : LoopH := ⟨⟨((.one (.sl 0)) :: hh :: (hu 3 (hh :: (hu 21 [])))), [], [(222, sh9, .ro)]⟩, ([2, 3, 4] ++ rg 6 21), [], ([0, 2, 3] ++ rg 5 22), [], []⟩
noncomputable def k97_5 : List PK := (ki 2 [.row sh9])
noncomputable def W97_5 (m : Nat) (k : Kont Int) : Cur k97_5 (Option Int) := L.szBoxS_l0 m (exF k .ret ⟨((.one (.unk)) :: hh :: (hu 2 (hh :: (hu 22 [])))), [], []⟩ (ki 2 [])) (exF k (.exit 0) ⟨((.one (.unk)) :: hh :: (hu 25 [])), [], []⟩ [.int .i64])
noncomputable def E97_5 (m : Nat) : List Prm → Kont Int → Option Int := eL k97_5 (W97_5 m)
theorem ev97_5 (m : Nat) (k : Kont Int) (a : Args k97_5) : evL Tryz.prog G97 loopNil c97_5 (turn Tryz.prog (0, 0) H97_5 (E97_5 m) k) (H97_5.sk.fl (encP k97_5 a)) = unc k97_5 (W97_5 (m + 1) k) a := by kernel_rfl
theorem ok97_5 (m : Nat) : LoopOk Tryz.prog (0, 0) c97_5 (enter Tryz.prog (0, 0) H97_5 (E97_5 m)) := loop_gen (Fl := W97_5) (G := G97) (L := loopNil) (envCons_good good183 envNil_good) (no_loops (c := c97_5) (by kernel_rfl)) (fun _ _ => by kernel_rfl) ev97_5 m
noncomputable def L97 : LEnv Int := (loopCons 5 (enter Tryz.prog (0, 0) H97_5 (E97_5 fu)) loopNil)
theorem lq97 : loopsOf c97 = [c97_5] := by kernel_rfl
theorem fr97_5 : firstReg c97_5 = some 5 := by kernel_rfl
theorem le97_5 : L97 5 = enter Tryz.prog (0, 0) H97_5 (E97_5 fu) := by kernel_rfl
theorem lm97 : ∀ x ∈ [c97_5], ∀ id, firstReg x = some id → LoopOk Tryz.prog (0, 0) x (L97 id) := (loops_cons fr97_5 le97_5 (ok97_5 fu) loops_nil)
theorem lp97 : ∀ x ∈ loopsOf c97, ∀ id, firstReg x = some id → LoopOk Tryz.prog (0, 0) x (L97 id) := loops_eq lq97 lm97
noncomputable def sg97 : Sg := ⟨⟨[.one (.sl 0), hh], [], [(222, sh9, .ro)]⟩, [.int .i64, .row sh9], ⟨[hh], [], []⟩, [.int .i64]⟩
noncomputable def E97 : Fun2 := eOf sg97 L.szBoxS
theorem ev97 (a : Args sg97.ks) : evS Tryz.prog G97 L97 (0, 0) [] Tryz.f97 c97 (kOf sg97) (sg97.sk.fl (encP sg97.ks a)) = unc sg97.ks L.szBoxS a := by kernel_rfl
theorem good97 : Vm.Good Tryz.prog 97 E97 := good_gen (G := G97) (L := L97) (c := c97) (rn := []) (N := (0, 0)) (envCons_good good183 envNil_good) lp97 Tryz.func97 (by kernel_rfl) (by kernel_rfl) (fun _ => by kernel_rfl) ev97
noncomputable def G34 : Env := (envCons 16 [] E16 (envCons 94 [] E94 (envCons 95 [] E95 (envCons 8 [] E8 (envCons 96 [] E96 (envCons 97 [] E97 envNil))))))
noncomputable def c34 : Code := bodyOf Tryz.f34
noncomputable def L.szEng (a1 a2 a3 a4 a5 : Int) (a6 : List Int) (a7 : List ty6) (a8 : List (Int × Int × Int)) (a9 : List ty10) (a10 : List (Int × Int × Int × Int)) (a11 : List (Int × Bool)) (a12 : List ty5) (a13 a14 : List Int) (a15 : List ty3) : Option Int :=
(Option.bind (L.szConf a1 a2 a3 a5 a6 a7 a8 a9) fun r16 =>
(bif (decide (r16 < 0)) then
(some (-1))
else
(Option.bind (L.szPunctS r16 a10) fun r18 =>
(bif (decide (r18 < 0)) then
(some (-1))
else
(Option.bind (L.szMarks a4 r18 a11) fun r20 =>
(bif (decide (r20 < 0)) then
(some (-1))
else
(Option.bind (L.szCellS r20 a12) fun r22 =>
(bif (decide (r22 < 0)) then
(some (-1))
else
(Option.bind (L.szIntS r22 a13) fun r24 =>
(bif (decide (r24 < 0)) then
(some (-1))
else
(Option.bind (L.szIntS r24 a14) fun r26 =>
(bif (decide (r26 < 0)) then
(some (-1))
else
(Option.bind (L.szBoxS r26 a15) fun r28 =>
(bif (decide (r28 < 0)) then
(some (-1))
else
(some r28)))))))))))))))
noncomputable def sg34 : Sg := ⟨⟨[.agg ((.hole) :: (.sl 0) :: (ho 2 [.sl 1, .sl 2, .sl 3, .sl 4, .hole, .sl 5, .sl 6, .sl 7, .sl 8, .sl 9])), hh], [], [(87, (.int .u64), .ro), (185, sh2, .ro), (194, sh3, .ro), (196, sh4, .ro), (235, sh5, .ro), (272, sh6, .ro), (93, sh7, .ro), (3, (.int .i64), .ro), (3, (.int .i64), .ro), (222, sh9, .ro)]⟩, (ki 5 [.row (.int .u64), .row sh2, .row sh3, .row sh4, .row sh5, .row sh6, .row sh7, .row (.int .i64), .row (.int .i64), .row sh9]), ⟨[hh], [], []⟩, [.int .i64]⟩
noncomputable def E34 : Fun2 := eOf sg34 L.szEng
theorem ev34 (a : Args sg34.ks) : evS Tryz.prog G34 loopNil (0, 0) [] Tryz.f34 c34 (kOf sg34) (sg34.sk.fl (encP sg34.ks a)) = unc sg34.ks L.szEng a := by kernel_rfl
theorem good34 : Vm.Good Tryz.prog 34 E34 := good_gen (G := G34) (L := loopNil) (c := c34) (rn := []) (N := (0, 0)) (envCons_good good16 (envCons_good good94 (envCons_good good95 (envCons_good good8 (envCons_good good96 (envCons_good good97 envNil_good)))))) (no_loops (c := c34) (by kernel_rfl)) Tryz.func34 (by kernel_rfl) (by kernel_rfl) (fun _ => by kernel_rfl) ev34
noncomputable def G88 : Env := envNil
noncomputable def c88 : Code := bodyOf Tryz.f88
noncomputable def c88_3 : Code := (loopsOf c88).getD 0 .skip
noncomputable def L.toUint64S_l0 : Nat → (List Int → Option (List Int)) → Int → List Int → List Int → Option (List Int)
  | 0, _, _, _, _ => none
  | m + 1, e3_0, a4, a5, a6 =>
    (bif (decide (a4 < (a5.length : Int))) then
    (bif decide ((0 : Int) ≤ a4 ∧ a4 < (a5.length : Int)) then
    (bif decide ((0 : Int) ≤ a4 ∧ a4 < (a6.length : Int)) then
    (L.toUint64S_l0 m e3_0 (IntKind.wrap .i64 (a4 + 1)) a5 (a6.set (Int.toNat a4) (nthI a5 a4 (0 : Int))))
    else
    none)
    else
    none)
    else
    (e3_0 a6))
noncomputable def L.toUint64S (a1 : List Int) : Option (List Int) :=
(let v2 : Int := (a1.length : Int)
(bif decide ((0 : Int) ≤ v2 ∧ v2 ≤ v2 ∧ (8 : Int) * v2 ≤ 281474976710656 ∧ v2 ≤ 9223372036854775807) then
(L.toUint64S_l0 fu (fun y11 =>
(some y11)) 0 a1 (List.replicate (Int.toNat v2) (0 : Int)))
else
none))
noncomputable def H88_3 : LoopH := ⟨⟨((.one (.sl 0)) :: (hu 2 ((.one (.sl 1)) :: hh :: (hu 17 [])))), [], [(87, (.int .u64), .ro), (87, (.int .u64), .own)]⟩, ([1, 2] ++ rg 5 17), [], ([0, 1] ++ rg 4 18), [], []⟩
noncomputable def k88_3 : List PK := [.int .i64, .row (.int .u64), .row (.int .u64)]
noncomputable def W88_3 (m : Nat) (k : Kont (List Int)) : Cur k88_3 (Option (List Int)) := L.toUint64S_l0 m (exF k (.exit 0) ⟨(hu 3 ((.one (.sl 0)) :: (hu 18 []))), [], [(87, (.int .u64), .own)]⟩ [.row (.int .u64)])
noncomputable def E88_3 (m : Nat) : List Prm → Kont (List Int) → Option (List Int) := eL k88_3 (W88_3 m)
theorem ev88_3 (m : Nat) (k : Kont (List Int)) (a : Args k88_3) : evL Tryz.prog G88 loopNil c88_3 (turn Tryz.prog (0, 0) H88_3 (E88_3 m) k) (H88_3.sk.fl (encP k88_3 a)) = unc k88_3 (W88_3 (m + 1) k) a := by kernel_rfl
theorem ok88_3 (m : Nat) : LoopOk Tryz.prog (0, 0) c88_3 (enter Tryz.prog (0, 0) H88_3 (E88_3 m)) := loop_gen (Fl := W88_3) (G := G88) (L := loopNil) envNil_good (no_loops (c := c88_3) (by kernel_rfl)) (fun _ _ => by kernel_rfl) ev88_3 m
noncomputable def L88 : LEnv (List Int) := (loopCons 3 (enter Tryz.prog (0, 0) H88_3 (E88_3 fu)) loopNil)
theorem lq88 : loopsOf c88 = [c88_3] := by kernel_rfl
theorem fr88_3 : firstReg c88_3 = some 3 := by kernel_rfl
theorem le88_3 : L88 3 = enter Tryz.prog (0, 0) H88_3 (E88_3 fu) := by kernel_rfl
theorem lm88 : ∀ x ∈ [c88_3], ∀ id, firstReg x = some id → LoopOk Tryz.prog (0, 0) x (L88 id) := (loops_cons fr88_3 le88_3 (ok88_3 fu) loops_nil)
theorem lp88 : ∀ x ∈ loopsOf c88, ∀ id, firstReg x = some id → LoopOk Tryz.prog (0, 0) x (L88 id) := loops_eq lq88 lm88
noncomputable def sg88 : Sg := ⟨⟨[.one (.sl 0)], [], [(87, (.int .u64), .ro)]⟩, [.row (.int .u64)], ⟨[.one (.sl 0)], [], [(87, (.int .u64), .own)]⟩, [.row (.int .u64)]⟩
noncomputable def E88 : Fun2 := eOf sg88 L.toUint64S
theorem ev88 (a : Args sg88.ks) : evS Tryz.prog G88 L88 (0, 0) [] Tryz.f88 c88 (kOf sg88) (sg88.sk.fl (encP sg88.ks a)) = unc sg88.ks L.toUint64S a := by kernel_rfl
theorem good88 : Vm.Good Tryz.prog 88 E88 := good_gen (G := G88) (L := L88) (c := c88) (rn := []) (N := (0, 0)) envNil_good lp88 Tryz.func88 (by kernel_rfl) (by kernel_rfl) (fun _ => by kernel_rfl) ev88
noncomputable def G27 : Env := (envCons 88 [] E88 envNil)
noncomputable def c27 : Code := bodyOf Tryz.f27
noncomputable def L.toLat (a1 : Int) (a2 : List Int) : Option (Int × List Int) :=
(Option.bind (L.toUint64S a2) fun r3 =>
(some (a1, r3)))
noncomputable def sg27 : Sg := ⟨⟨[.agg [.hole, .sl 0]], [], [(87, (.int .u64), .ro)]⟩, [.int .i64, .row (.int .u64)], ⟨[.agg [.hole, .sl 0]], [], [(87, (.int .u64), .own)]⟩, [.int .i64, .row (.int .u64)]⟩
noncomputable def E27 : Fun2 := eOf sg27 L.toLat
theorem ev27 (a : Args sg27.ks) : evS Tryz.prog G27 loopNil (0, 0) [] Tryz.f27 c27 (kOf sg27) (sg27.sk.fl (encP sg27.ks a)) = unc sg27.ks L.toLat a := by kernel_rfl
theorem good27 : Vm.Good Tryz.prog 27 E27 := good_gen (G := G27) (L := loopNil) (c := c27) (rn := []) (N := (0, 0)) (envCons_good good88 envNil_good) (no_loops (c := c27) (by kernel_rfl)) Tryz.func27 (by kernel_rfl) (by kernel_rfl) (fun _ => by kernel_rfl) ev27
noncomputable def G270 : Env := envNil
noncomputable def c270 : Code := bodyOf Tryz.f270
noncomputable def L.toTok (a1 a2 : Int) : Option (Int × Int) :=
(some (a1, a2))
noncomputable def sg270 : Sg := ⟨⟨[.agg (ho 2 [])], [], []⟩, (ki 2 []), ⟨[.agg (ho 2 [])], [], []⟩, (ki 2 [])⟩
noncomputable def E270 : Fun2 := eOf sg270 L.toTok
theorem ev270 (a : Args sg270.ks) : evS Tryz.prog G270 loopNil (0, 0) [] Tryz.f270 c270 (kOf sg270) (sg270.sk.fl (encP sg270.ks a)) = unc sg270.ks L.toTok a := by kernel_rfl
theorem good270 : Vm.Good Tryz.prog 270 E270 := good_gen (G := G270) (L := loopNil) (c := c270) (rn := []) (N := (0, 0)) envNil_good (no_loops (c := c270) (by kernel_rfl)) Tryz.func270 (by kernel_rfl) (by kernel_rfl) (fun _ => by kernel_rfl) ev270
noncomputable def G222 : Env := (envCons 270 [] E270 envNil)
noncomputable def c222 : Code := bodyOf Tryz.f222
noncomputable def c222_3 : Code := (loopsOf c222).getD 0 .skip
noncomputable def L.toTokS_l0 : Nat → ((List (Int × Int)) → Option ((List (Int × Int)))) → Int → (List (Int × Int)) → (List (Int × Int)) → Option ((List (Int × Int)))
  | 0, _, _, _, _ => none
  | m + 1, e3_0, a4, a5, a6 =>
    (bif (decide (a4 < (a5.length : Int))) then
    (bif decide ((0 : Int) ≤ a4 ∧ a4 < (a5.length : Int)) then
    (Option.bind (L.toTok ((nthI a5 a4 df2).1) ((nthI a5 a4 df2).2)) fun r9 =>
    (bif decide ((0 : Int) ≤ a4 ∧ a4 < (a6.length : Int)) then
    (L.toTokS_l0 m e3_0 (IntKind.wrap .i64 (a4 + 1)) a5 (a6.set (Int.toNat a4) (r9.1, r9.2)))
    else
    none))
    else
    none)
    else
    (e3_0 a6))
noncomputable def L.toTokS (a1 : List (Int × Int)) : Option ((List (Int × Int))) :=
(let v2 : Int := (a1.length : Int)
(bif decide ((0 : Int) ≤ v2 ∧ v2 ≤ v2 ∧ (16 : Int) * v2 ≤ 281474976710656 ∧ v2 ≤ 9223372036854775807) then
(L.toTokS_l0 fu (fun y12 =>
(some y12)) 0 a1 (List.replicate (Int.toNat v2) (0, 0)))
else
none))
noncomputable def H222_3 : LoopH := ⟨⟨((.one (.sl 0)) :: (hu 2 ((.one (.sl 1)) :: hh :: (hu 18 [])))), [], [(289, sh1, .ro), (255, sh1, .own)]⟩, ([1, 2] ++ rg 5 18), [], ([0, 1] ++ rg 4 19), [], []⟩
noncomputable def k222_3 : List PK := [.int .i64, .row sh1, .row sh1]
noncomputable def W222_3 (m : Nat) (k : Kont ((List (Int × Int)))) : Cur k222_3 (Option ((List (Int × Int)))) := L.toTokS_l0 m (exF k (.exit 0) ⟨(hu 3 ((.one (.sl 0)) :: (hu 19 []))), [], [(255, sh1, .own)]⟩ [.row sh1])
noncomputable def E222_3 (m : Nat) : List Prm → Kont ((List (Int × Int))) → Option ((List (Int × Int))) := eL k222_3 (W222_3 m)
theorem ev222_3 (m : Nat) (k : Kont ((List (Int × Int)))) (a : Args k222_3) : evL Tryz.prog G222 loopNil c222_3 (turn Tryz.prog (0, 0) H222_3 (E222_3 m) k) (H222_3.sk.fl (encP k222_3 a)) = unc k222_3 (W222_3 (m + 1) k) a := by kernel_rfl
theorem ok222_3 (m : Nat) : LoopOk Tryz.prog (0, 0) c222_3 (enter Tryz.prog (0, 0) H222_3 (E222_3 m)) := loop_gen (Fl := W222_3) (G := G222) (L := loopNil) (envCons_good good270 envNil_good) (no_loops (c := c222_3) (by kernel_rfl)) (fun _ _ => by kernel_rfl) ev222_3 m
noncomputable def L222 : LEnv ((List (Int × Int))) := (loopCons 3 (enter Tryz.prog (0, 0) H222_3 (E222_3 fu)) loopNil)
theorem lq222 : loopsOf c222 = [c222_3] := by kernel_rfl
theorem fr222_3 : firstReg c222_3 = some 3 := by kernel_rfl
theorem le222_3 : L222 3 = enter Tryz.prog (0, 0) H222_3 (E222_3 fu) := by kernel_rfl
theorem lm222 : ∀ x ∈ [c222_3], ∀ id, firstReg x = some id → LoopOk Tryz.prog (0, 0) x (L222 id) := (loops_cons fr222_3 le222_3 (ok222_3 fu) loops_nil)
theorem lp222 : ∀ x ∈ loopsOf c222, ∀ id, firstReg x = some id → LoopOk Tryz.prog (0, 0) x (L222 id) := loops_eq lq222 lm222
noncomputable def sg222 : Sg := ⟨⟨[.one (.sl 0)], [], [(289, sh1, .ro)]⟩, [.row sh1], ⟨[.one (.sl 0)], [], [(255, sh1, .own)]⟩, [.row sh1]⟩
noncomputable def E222 : Fun2 := eOf sg222 L.toTokS
theorem ev222 (a : Args sg222.ks) : evS Tryz.prog G222 L222 (0, 0) [] Tryz.f222 c222 (kOf sg222) (sg222.sk.fl (encP sg222.ks a)) = unc sg222.ks L.toTokS a := by kernel_rfl
theorem good222 : Vm.Good Tryz.prog 222 E222 := good_gen (G := G222) (L := L222) (c := c222) (rn := []) (N := (0, 0)) (envCons_good good270 envNil_good) lp222 Tryz.func222 (by kernel_rfl) (by kernel_rfl) (fun _ => by kernel_rfl) ev222
noncomputable def G11 : Env := envNil
noncomputable def c11 : Code := bodyOf Tryz.f11
noncomputable def L.toWinDef (a1 a2 a3 : Int) : Option (Int × Int × Int) :=
(some (a1, a2, a3))
noncomputable def sg11 : Sg := ⟨⟨[.agg (ho 3 [])], [], []⟩, (ki 3 []), ⟨[.agg (ho 3 [])], [], []⟩, (ki 3 [])⟩
noncomputable def E11 : Fun2 := eOf sg11 L.toWinDef
theorem ev11 (a : Args sg11.ks) : evS Tryz.prog G11 loopNil (0, 0) [] Tryz.f11 c11 (kOf sg11) (sg11.sk.fl (encP sg11.ks a)) = unc sg11.ks L.toWinDef a := by kernel_rfl
theorem good11 : Vm.Good Tryz.prog 11 E11 := good_gen (G := G11) (L := loopNil) (c := c11) (rn := []) (N := (0, 0)) envNil_good (no_loops (c := c11) (by kernel_rfl)) Tryz.func11 (by kernel_rfl) (by kernel_rfl) (fun _ => by kernel_rfl) ev11
noncomputable def G142 : Env := (envCons 222 [] E222 (envCons 11 [] E11 envNil))
noncomputable def c142 : Code := bodyOf Tryz.f142
noncomputable def L.toQuery (a1 a2 a3 a4 a5 : Int) (a6 a7 : List (Int × Int)) : Option (Int × Int × Int × Int × Int × (List (Int × Int)) × (List (Int × Int))) :=
(Option.bind (L.toTokS a6) fun r8 =>
(Option.bind (L.toTokS a7) fun r9 =>
(Option.bind (L.toWinDef a1 a2 a3) fun r10 =>
(some (r10.1, r10.2.1, r10.2.2, a4, a5, r8, r9)))))
noncomputable def sg142 : Sg := ⟨⟨[.agg ((.sl 0) :: (.sl 1) :: (ho 5 []))], [], [(289, sh1, .ro), (289, sh1, .ro)]⟩, (ki 5 [.row sh1, .row sh1]), ⟨[.agg ((.sl 0) :: (.sl 1) :: (ho 5 []))], [], [(255, sh1, .own), (255, sh1, .own)]⟩, (ki 5 [.row sh1, .row sh1])⟩
noncomputable def E142 : Fun2 := eOf sg142 L.toQuery
theorem ev142 (a : Args sg142.ks) : evS Tryz.prog G142 loopNil (0, 0) [] Tryz.f142 c142 (kOf sg142) (sg142.sk.fl (encP sg142.ks a)) = unc sg142.ks L.toQuery a := by kernel_rfl
theorem good142 : Vm.Good Tryz.prog 142 E142 := good_gen (G := G142) (L := loopNil) (c := c142) (rn := []) (N := (0, 0)) (envCons_good good222 (envCons_good good11 envNil_good)) (no_loops (c := c142) (by kernel_rfl)) Tryz.func142 (by kernel_rfl) (by kernel_rfl) (fun _ => by kernel_rfl) ev142
noncomputable def G62 : Env := (envCons 142 [] E142 envNil)
noncomputable def c62 : Code := bodyOf Tryz.f62
noncomputable def c62_3 : Code := (loopsOf c62).getD 0 .skip
noncomputable def L.toQueryS_l0 : Nat → ((List ty6) → Option ((List ty6))) → Int → (List ty6) → (List ty6) → Option ((List ty6))
  | 0, _, _, _, _ => none
  | m + 1, e3_0, a4, a5, a6 =>
    (bif (decide (a4 < (a5.length : Int))) then
    (bif decide ((0 : Int) ≤ a4 ∧ a4 < (a5.length : Int)) then
    (Option.bind (L.toQuery ((nthI a5 a4 ([], ([], (df1, df2)))).2.2.1.1) ((nthI a5 a4 ([], ([], (df1, df2)))).2.2.1.2.1) ((nthI a5 a4 ([], ([], (df1, df2)))).2.2.1.2.2) ((nthI a5 a4 ([], ([], (df1, df2)))).2.2.2.1) ((nthI a5 a4 ([], ([], (df1, df2)))).2.2.2.2) ((nthI a5 a4 ([], ([], (df1, df2)))).1) ((nthI a5 a4 ([], ([], (df1, df2)))).2.1)) fun r9 =>
    (bif decide ((0 : Int) ≤ a4 ∧ a4 < (a6.length : Int)) then
    (let v10 : List ty6 := (a6.set (Int.toNat a4) (r9.2.2.2.2.2.1, (r9.2.2.2.2.2.2, ((r9.1, (r9.2.1, r9.2.2.1)), (r9.2.2.2.1, r9.2.2.2.2.1)))))
    (L.toQueryS_l0 m e3_0 (IntKind.wrap .i64 (a4 + 1)) a5 v10))
    else
    none))
    else
    none)
    else
    (e3_0 a6))
noncomputable def L.toQueryS (a1 : List ty6) : Option ((List ty6)) :=
(let v2 : Int := (a1.length : Int)
(bif decide ((0 : Int) ≤ v2 ∧ v2 ≤ v2 ∧ (88 : Int) * v2 ≤ 281474976710656 ∧ v2 ≤ 9223372036854775807) then
(let v3 : List ty6 := (List.replicate (Int.toNat v2) ([], ([], ((0, (0, 0)), (0, 0)))))
(L.toQueryS_l0 fu (fun y12 =>
(some y12)) 0 a1 v3))
else
none))
noncomputable def H62_3 : LoopH := ⟨⟨((.one (.sl 0)) :: (hu 2 ((.one (.sl 1)) :: hh :: (hu 18 [])))), [], [(185, sh2, .ro), (190, sh10, .own)]⟩, ([1, 2] ++ rg 5 18), [], ([0, 1] ++ rg 4 19), [], []⟩
noncomputable def k62_3 : List PK := [.int .i64, .row sh2, .row sh10]
noncomputable def W62_3 (m : Nat) (k : Kont ((List ty6))) : Cur k62_3 (Option ((List ty6))) := L.toQueryS_l0 m (exF k (.exit 0) ⟨(hu 3 ((.one (.sl 0)) :: (hu 19 []))), [], [(190, sh10, .own)]⟩ [.row sh10])
noncomputable def E62_3 (m : Nat) : List Prm → Kont ((List ty6)) → Option ((List ty6)) := eL k62_3 (W62_3 m)
theorem ev62_3 (m : Nat) (k : Kont ((List ty6))) (a : Args k62_3) : evL Tryz.prog G62 loopNil c62_3 (turn Tryz.prog (0, 0) H62_3 (E62_3 m) k) (H62_3.sk.fl (encP k62_3 a)) = unc k62_3 (W62_3 (m + 1) k) a := by kernel_rfl
theorem ok62_3 (m : Nat) : LoopOk Tryz.prog (0, 0) c62_3 (enter Tryz.prog (0, 0) H62_3 (E62_3 m)) := loop_gen (Fl := W62_3) (G := G62) (L := loopNil) (envCons_good good142 envNil_good) (no_loops (c := c62_3) (by kernel_rfl)) (fun _ _ => by kernel_rfl) ev62_3 m
noncomputable def L62 : LEnv ((List ty6)) := (loopCons 3 (enter Tryz.prog (0, 0) H62_3 (E62_3 fu)) loopNil)
theorem lq62 : loopsOf c62 = [c62_3] := by kernel_rfl
theorem fr62_3 : firstReg c62_3 = some 3 := by kernel_rfl
theorem le62_3 : L62 3 = enter Tryz.prog (0, 0) H62_3 (E62_3 fu) := by kernel_rfl
theorem lm62 : ∀ x ∈ [c62_3], ∀ id, firstReg x = some id → LoopOk Tryz.prog (0, 0) x (L62 id) := (loops_cons fr62_3 le62_3 (ok62_3 fu) loops_nil)
theorem lp62 : ∀ x ∈ loopsOf c62, ∀ id, firstReg x = some id → LoopOk Tryz.prog (0, 0) x (L62 id) := loops_eq lq62 lm62
noncomputable def sg62 : Sg := ⟨⟨[.one (.sl 0)], [], [(185, sh2, .ro)]⟩, [.row sh2], ⟨[.one (.sl 0)], [], [(190, sh10, .own)]⟩, [.row sh10]⟩
noncomputable def E62 : Fun2 := eOf sg62 L.toQueryS
theorem ev62 (a : Args sg62.ks) : evS Tryz.prog G62 L62 (0, 0) [] Tryz.f62 c62 (kOf sg62) (sg62.sk.fl (encP sg62.ks a)) = unc sg62.ks L.toQueryS a := by kernel_rfl
theorem good62 : Vm.Good Tryz.prog 62 E62 := good_gen (G := G62) (L := L62) (c := c62) (rn := []) (N := (0, 0)) (envCons_good good142 envNil_good) lp62 Tryz.func62 (by kernel_rfl) (by kernel_rfl) (fun _ => by kernel_rfl) ev62
noncomputable def G143 : Env := envNil
noncomputable def c143 : Code := bodyOf Tryz.f143
noncomputable def L.toSub (a1 a2 a3 : Int) : Option (Int × Int × Int) :=
(some (a1, a2, a3))
noncomputable def sg143 : Sg := ⟨⟨[.agg (ho 3 [])], [], []⟩, (ki 3 []), ⟨[.agg (ho 3 [])], [], []⟩, (ki 3 [])⟩
noncomputable def E143 : Fun2 := eOf sg143 L.toSub
theorem ev143 (a : Args sg143.ks) : evS Tryz.prog G143 loopNil (0, 0) [] Tryz.f143 c143 (kOf sg143) (sg143.sk.fl (encP sg143.ks a)) = unc sg143.ks L.toSub a := by kernel_rfl
theorem good143 : Vm.Good Tryz.prog 143 E143 := good_gen (G := G143) (L := loopNil) (c := c143) (rn := []) (N := (0, 0)) envNil_good (no_loops (c := c143) (by kernel_rfl)) Tryz.func143 (by kernel_rfl) (by kernel_rfl) (fun _ => by kernel_rfl) ev143
noncomputable def G63 : Env := (envCons 143 [] E143 envNil)
noncomputable def c63 : Code := bodyOf Tryz.f63
noncomputable def c63_3 : Code := (loopsOf c63).getD 0 .skip
noncomputable def L.toSubS_l0 : Nat → ((List (Int × Int × Int)) → Option ((List (Int × Int × Int)))) → Int → (List (Int × Int × Int)) → (List (Int × Int × Int)) → Option ((List (Int × Int × Int)))
  | 0, _, _, _, _ => none
  | m + 1, e3_0, a4, a5, a6 =>
    (bif (decide (a4 < (a5.length : Int))) then
    (bif decide ((0 : Int) ≤ a4 ∧ a4 < (a5.length : Int)) then
    (Option.bind (L.toSub ((nthI a5 a4 df1).1) ((nthI a5 a4 df1).2.1) ((nthI a5 a4 df1).2.2)) fun r9 =>
    (bif decide ((0 : Int) ≤ a4 ∧ a4 < (a6.length : Int)) then
    (L.toSubS_l0 m e3_0 (IntKind.wrap .i64 (a4 + 1)) a5 (a6.set (Int.toNat a4) (r9.1, (r9.2.1, r9.2.2))))
    else
    none))
    else
    none)
    else
    (e3_0 a6))
noncomputable def L.toSubS (a1 : List (Int × Int × Int)) : Option ((List (Int × Int × Int))) :=
(let v2 : Int := (a1.length : Int)
(bif decide ((0 : Int) ≤ v2 ∧ v2 ≤ v2 ∧ (24 : Int) * v2 ≤ 281474976710656 ∧ v2 ≤ 9223372036854775807) then
(L.toSubS_l0 fu (fun y12 =>
(some y12)) 0 a1 (List.replicate (Int.toNat v2) (0, (0, 0))))
else
none))
noncomputable def H63_3 : LoopH := ⟨⟨((.one (.sl 0)) :: (hu 2 ((.one (.sl 1)) :: hh :: (hu 18 [])))), [], [(194, sh3, .ro), (126, sh3, .own)]⟩, ([1, 2] ++ rg 5 18), [], ([0, 1] ++ rg 4 19), [], []⟩
noncomputable def k63_3 : List PK := [.int .i64, .row sh3, .row sh3]
noncomputable def W63_3 (m : Nat) (k : Kont ((List (Int × Int × Int)))) : Cur k63_3 (Option ((List (Int × Int × Int)))) := L.toSubS_l0 m (exF k (.exit 0) ⟨(hu 3 ((.one (.sl 0)) :: (hu 19 []))), [], [(126, sh3, .own)]⟩ [.row sh3])
noncomputable def E63_3 (m : Nat) : List Prm → Kont ((List (Int × Int × Int))) → Option ((List (Int × Int × Int))) := eL k63_3 (W63_3 m)
theorem ev63_3 (m : Nat) (k : Kont ((List (Int × Int × Int)))) (a : Args k63_3) : evL Tryz.prog G63 loopNil c63_3 (turn Tryz.prog (0, 0) H63_3 (E63_3 m) k) (H63_3.sk.fl (encP k63_3 a)) = unc k63_3 (W63_3 (m + 1) k) a := by kernel_rfl
theorem ok63_3 (m : Nat) : LoopOk Tryz.prog (0, 0) c63_3 (enter Tryz.prog (0, 0) H63_3 (E63_3 m)) := loop_gen (Fl := W63_3) (G := G63) (L := loopNil) (envCons_good good143 envNil_good) (no_loops (c := c63_3) (by kernel_rfl)) (fun _ _ => by kernel_rfl) ev63_3 m
noncomputable def L63 : LEnv ((List (Int × Int × Int))) := (loopCons 3 (enter Tryz.prog (0, 0) H63_3 (E63_3 fu)) loopNil)
theorem lq63 : loopsOf c63 = [c63_3] := by kernel_rfl
theorem fr63_3 : firstReg c63_3 = some 3 := by kernel_rfl
theorem le63_3 : L63 3 = enter Tryz.prog (0, 0) H63_3 (E63_3 fu) := by kernel_rfl
theorem lm63 : ∀ x ∈ [c63_3], ∀ id, firstReg x = some id → LoopOk Tryz.prog (0, 0) x (L63 id) := (loops_cons fr63_3 le63_3 (ok63_3 fu) loops_nil)
theorem lp63 : ∀ x ∈ loopsOf c63, ∀ id, firstReg x = some id → LoopOk Tryz.prog (0, 0) x (L63 id) := loops_eq lq63 lm63
noncomputable def sg63 : Sg := ⟨⟨[.one (.sl 0)], [], [(194, sh3, .ro)]⟩, [.row sh3], ⟨[.one (.sl 0)], [], [(126, sh3, .own)]⟩, [.row sh3]⟩
noncomputable def E63 : Fun2 := eOf sg63 L.toSubS
theorem ev63 (a : Args sg63.ks) : evS Tryz.prog G63 L63 (0, 0) [] Tryz.f63 c63 (kOf sg63) (sg63.sk.fl (encP sg63.ks a)) = unc sg63.ks L.toSubS a := by kernel_rfl
theorem good63 : Vm.Good Tryz.prog 63 E63 := good_gen (G := G63) (L := L63) (c := c63) (rn := []) (N := (0, 0)) (envCons_good good143 envNil_good) lp63 Tryz.func63 (by kernel_rfl) (by kernel_rfl) (fun _ => by kernel_rfl) ev63
noncomputable def G144 : Env := envNil
noncomputable def c144 : Code := bodyOf Tryz.f144
noncomputable def L.toRule (a1 a2 a3 a4 a5 : Int) : Option (Int × Int × Int × Int × Int) :=
(some (a1, a2, a3, a4, a5))
noncomputable def sg144 : Sg := ⟨⟨[.agg (ho 5 [])], [], []⟩, (ki 5 []), ⟨[.agg (ho 5 [])], [], []⟩, (ki 5 [])⟩
noncomputable def E144 : Fun2 := eOf sg144 L.toRule
theorem ev144 (a : Args sg144.ks) : evS Tryz.prog G144 loopNil (0, 0) [] Tryz.f144 c144 (kOf sg144) (sg144.sk.fl (encP sg144.ks a)) = unc sg144.ks L.toRule a := by kernel_rfl
theorem good144 : Vm.Good Tryz.prog 144 E144 := good_gen (G := G144) (L := loopNil) (c := c144) (rn := []) (N := (0, 0)) envNil_good (no_loops (c := c144) (by kernel_rfl)) Tryz.func144 (by kernel_rfl) (by kernel_rfl) (fun _ => by kernel_rfl) ev144
noncomputable def G64 : Env := (envCons 144 [] E144 envNil)
noncomputable def c64 : Code := bodyOf Tryz.f64
noncomputable def c64_3 : Code := (loopsOf c64).getD 0 .skip
noncomputable def L.toRuleS_l0 : Nat → ((List ty10) → Option ((List ty10))) → Int → (List ty10) → (List ty10) → Option ((List ty10))
  | 0, _, _, _, _ => none
  | m + 1, e3_0, a4, a5, a6 =>
    (bif (decide (a4 < (a5.length : Int))) then
    (bif decide ((0 : Int) ≤ a4 ∧ a4 < (a5.length : Int)) then
    (Option.bind (L.toRule ((nthI a5 a4 df6).1) ((nthI a5 a4 df6).2.1) ((nthI a5 a4 df6).2.2.1) ((nthI a5 a4 df6).2.2.2.1) ((nthI a5 a4 df6).2.2.2.2)) fun r9 =>
    (bif decide ((0 : Int) ≤ a4 ∧ a4 < (a6.length : Int)) then
    (let v10 : List ty10 := (a6.set (Int.toNat a4) (r9.1, (r9.2.1, (r9.2.2.1, (r9.2.2.2.1, r9.2.2.2.2)))))
    (L.toRuleS_l0 m e3_0 (IntKind.wrap .i64 (a4 + 1)) a5 v10))
    else
    none))
    else
    none)
    else
    (e3_0 a6))
noncomputable def L.toRuleS (a1 : List ty10) : Option ((List ty10)) :=
(let v2 : Int := (a1.length : Int)
(bif decide ((0 : Int) ≤ v2 ∧ v2 ≤ v2 ∧ (40 : Int) * v2 ≤ 281474976710656 ∧ v2 ≤ 9223372036854775807) then
(L.toRuleS_l0 fu (fun y12 =>
(some y12)) 0 a1 (List.replicate (Int.toNat v2) (0, (0, (0, (0, 0))))))
else
none))
noncomputable def H64_3 : LoopH := ⟨⟨((.one (.sl 0)) :: (hu 2 ((.one (.sl 1)) :: hh :: (hu 18 [])))), [], [(196, sh4, .ro), (159, sh4, .own)]⟩, ([1, 2] ++ rg 5 18), [], ([0, 1] ++ rg 4 19), [], []⟩
noncomputable def k64_3 : List PK := [.int .i64, .row sh4, .row sh4]
noncomputable def W64_3 (m : Nat) (k : Kont ((List ty10))) : Cur k64_3 (Option ((List ty10))) := L.toRuleS_l0 m (exF k (.exit 0) ⟨(hu 3 ((.one (.sl 0)) :: (hu 19 []))), [], [(159, sh4, .own)]⟩ [.row sh4])
noncomputable def E64_3 (m : Nat) : List Prm → Kont ((List ty10)) → Option ((List ty10)) := eL k64_3 (W64_3 m)
theorem ev64_3 (m : Nat) (k : Kont ((List ty10))) (a : Args k64_3) : evL Tryz.prog G64 loopNil c64_3 (turn Tryz.prog (0, 0) H64_3 (E64_3 m) k) (H64_3.sk.fl (encP k64_3 a)) = unc k64_3 (W64_3 (m + 1) k) a := by kernel_rfl
theorem ok64_3 (m : Nat) : LoopOk Tryz.prog (0, 0) c64_3 (enter Tryz.prog (0, 0) H64_3 (E64_3 m)) := loop_gen (Fl := W64_3) (G := G64) (L := loopNil) (envCons_good good144 envNil_good) (no_loops (c := c64_3) (by kernel_rfl)) (fun _ _ => by kernel_rfl) ev64_3 m
noncomputable def L64 : LEnv ((List ty10)) := (loopCons 3 (enter Tryz.prog (0, 0) H64_3 (E64_3 fu)) loopNil)
theorem lq64 : loopsOf c64 = [c64_3] := by kernel_rfl
theorem fr64_3 : firstReg c64_3 = some 3 := by kernel_rfl
theorem le64_3 : L64 3 = enter Tryz.prog (0, 0) H64_3 (E64_3 fu) := by kernel_rfl
theorem lm64 : ∀ x ∈ [c64_3], ∀ id, firstReg x = some id → LoopOk Tryz.prog (0, 0) x (L64 id) := (loops_cons fr64_3 le64_3 (ok64_3 fu) loops_nil)
theorem lp64 : ∀ x ∈ loopsOf c64, ∀ id, firstReg x = some id → LoopOk Tryz.prog (0, 0) x (L64 id) := loops_eq lq64 lm64
noncomputable def sg64 : Sg := ⟨⟨[.one (.sl 0)], [], [(196, sh4, .ro)]⟩, [.row sh4], ⟨[.one (.sl 0)], [], [(159, sh4, .own)]⟩, [.row sh4]⟩
noncomputable def E64 : Fun2 := eOf sg64 L.toRuleS
theorem ev64 (a : Args sg64.ks) : evS Tryz.prog G64 L64 (0, 0) [] Tryz.f64 c64 (kOf sg64) (sg64.sk.fl (encP sg64.ks a)) = unc sg64.ks L.toRuleS a := by kernel_rfl
theorem good64 : Vm.Good Tryz.prog 64 E64 := good_gen (G := G64) (L := L64) (c := c64) (rn := []) (N := (0, 0)) (envCons_good good144 envNil_good) lp64 Tryz.func64 (by kernel_rfl) (by kernel_rfl) (fun _ => by kernel_rfl) ev64
noncomputable def G18 : Env := (envCons 27 [] E27 (envCons 62 [] E62 (envCons 63 [] E63 (envCons 64 [] E64 envNil))))
noncomputable def c18 : Code := bodyOf Tryz.f18
noncomputable def L.toConf (a1 a2 a3 : Int) (a4 : List Int) (a5 : List ty6) (a6 : List (Int × Int × Int)) (a7 : List ty10) : Option (Int × Int × Int × List Int × (List ty6) × (List (Int × Int × Int)) × (List ty10)) :=
(Option.bind (L.toLat a1 a4) fun r8 =>
(Option.bind (L.toQueryS a5) fun r9 =>
(Option.bind (L.toSubS a6) fun r10 =>
(Option.bind (L.toRuleS a7) fun r11 =>
(some (r8.1, a2, a3, r8.2, r9, r10, r11))))))
noncomputable def sg18 : Sg := ⟨⟨[.agg ((.hole) :: (.sl 0) :: (ho 2 [.sl 1, .sl 2, .sl 3]))], [], [(87, (.int .u64), .ro), (185, sh2, .ro), (194, sh3, .ro), (196, sh4, .ro)]⟩, (ki 3 [.row (.int .u64), .row sh2, .row sh3, .row sh4]), ⟨[.agg ((.hole) :: (.sl 0) :: (ho 2 [.sl 1, .sl 2, .sl 3]))], [], [(87, (.int .u64), .own), (190, sh10, .own), (126, sh3, .own), (159, sh4, .own)]⟩, (ki 3 [.row (.int .u64), .row sh10, .row sh3, .row sh4])⟩
noncomputable def E18 : Fun2 := eOf sg18 L.toConf
theorem ev18 (a : Args sg18.ks) : evS Tryz.prog G18 loopNil (0, 0) [] Tryz.f18 c18 (kOf sg18) (sg18.sk.fl (encP sg18.ks a)) = unc sg18.ks L.toConf a := by kernel_rfl
theorem good18 : Vm.Good Tryz.prog 18 E18 := good_gen (G := G18) (L := loopNil) (c := c18) (rn := []) (N := (0, 0)) (envCons_good good27 (envCons_good good62 (envCons_good good63 (envCons_good good64 envNil_good)))) (no_loops (c := c18) (by kernel_rfl)) Tryz.func18 (by kernel_rfl) (by kernel_rfl) (fun _ => by kernel_rfl) ev18
noncomputable def G190 : Env := envNil
noncomputable def c190 : Code := bodyOf Tryz.f190
noncomputable def L.toPunct (a1 a2 a3 a4 : Int) : Option (Int × Int × Int × Int) :=
(some (a1, a2, a3, a4))
noncomputable def sg190 : Sg := ⟨⟨[.agg (ho 4 [])], [], []⟩, (ki 4 []), ⟨[.agg (ho 4 [])], [], []⟩, (ki 4 [])⟩
noncomputable def E190 : Fun2 := eOf sg190 L.toPunct
theorem ev190 (a : Args sg190.ks) : evS Tryz.prog G190 loopNil (0, 0) [] Tryz.f190 c190 (kOf sg190) (sg190.sk.fl (encP sg190.ks a)) = unc sg190.ks L.toPunct a := by kernel_rfl
theorem good190 : Vm.Good Tryz.prog 190 E190 := good_gen (G := G190) (L := loopNil) (c := c190) (rn := []) (N := (0, 0)) envNil_good (no_loops (c := c190) (by kernel_rfl)) Tryz.func190 (by kernel_rfl) (by kernel_rfl) (fun _ => by kernel_rfl) ev190
noncomputable def G102 : Env := (envCons 190 [] E190 envNil)
noncomputable def c102 : Code := bodyOf Tryz.f102
noncomputable def c102_3 : Code := (loopsOf c102).getD 0 .skip
noncomputable def L.toPunctS_l0 : Nat → ((List (Int × Int × Int × Int)) → Option ((List (Int × Int × Int × Int)))) → Int → (List (Int × Int × Int × Int)) → (List (Int × Int × Int × Int)) → Option ((List (Int × Int × Int × Int)))
  | 0, _, _, _, _ => none
  | m + 1, e3_0, a4, a5, a6 =>
    (bif (decide (a4 < (a5.length : Int))) then
    (bif decide ((0 : Int) ≤ a4 ∧ a4 < (a5.length : Int)) then
    (Option.bind (L.toPunct ((nthI a5 a4 df7).1) ((nthI a5 a4 df7).2.1) ((nthI a5 a4 df7).2.2.1) ((nthI a5 a4 df7).2.2.2)) fun r9 =>
    (bif decide ((0 : Int) ≤ a4 ∧ a4 < (a6.length : Int)) then
    (let v10 : List (Int × Int × Int × Int) := (a6.set (Int.toNat a4) (r9.1, (r9.2.1, (r9.2.2.1, r9.2.2.2))))
    (L.toPunctS_l0 m e3_0 (IntKind.wrap .i64 (a4 + 1)) a5 v10))
    else
    none))
    else
    none)
    else
    (e3_0 a6))
noncomputable def L.toPunctS (a1 : List (Int × Int × Int × Int)) : Option ((List (Int × Int × Int × Int))) :=
(let v2 : Int := (a1.length : Int)
(bif decide ((0 : Int) ≤ v2 ∧ v2 ≤ v2 ∧ (32 : Int) * v2 ≤ 281474976710656 ∧ v2 ≤ 9223372036854775807) then
(L.toPunctS_l0 fu (fun y12 =>
(some y12)) 0 a1 (List.replicate (Int.toNat v2) (0, (0, (0, 0)))))
else
none))
noncomputable def H102_3 : LoopH := ⟨⟨((.one (.sl 0)) :: (hu 2 ((.one (.sl 1)) :: hh :: (hu 18 [])))), [], [(235, sh5, .ro), (156, sh5, .own)]⟩, ([1, 2] ++ rg 5 18), [], ([0, 1] ++ rg 4 19), [], []⟩
noncomputable def k102_3 : List PK := [.int .i64, .row sh5, .row sh5]
noncomputable def W102_3 (m : Nat) (k : Kont ((List (Int × Int × Int × Int)))) : Cur k102_3 (Option ((List (Int × Int × Int × Int)))) := L.toPunctS_l0 m (exF k (.exit 0) ⟨(hu 3 ((.one (.sl 0)) :: (hu 19 []))), [], [(156, sh5, .own)]⟩ [.row sh5])
noncomputable def E102_3 (m : Nat) : List Prm → Kont ((List (Int × Int × Int × Int))) → Option ((List (Int × Int × Int × Int))) := eL k102_3 (W102_3 m)
theorem ev102_3 (m : Nat) (k : Kont ((List (Int × Int × Int × Int)))) (a : Args k102_3) : evL Tryz.prog G102 loopNil c102_3 (turn Tryz.prog (0, 0) H102_3 (E102_3 m) k) (H102_3.sk.fl (encP k102_3 a)) = unc k102_3 (W102_3 (m + 1) k) a := by kernel_rfl
theorem ok102_3 (m : Nat) : LoopOk Tryz.prog (0, 0) c102_3 (enter Tryz.prog (0, 0) H102_3 (E102_3 m)) := loop_gen (Fl := W102_3) (G := G102) (L := loopNil) (envCons_good good190 envNil_good) (no_loops (c := c102_3) (by kernel_rfl)) (fun _ _ => by kernel_rfl) ev102_3 m
noncomputable def L102 : LEnv ((List (Int × Int × Int × Int))) := (loopCons 3 (enter Tryz.prog (0, 0) H102_3 (E102_3 fu)) loopNil)
theorem lq102 : loopsOf c102 = [c102_3] := by kernel_rfl
theorem fr102_3 : firstReg c102_3 = some 3 := by kernel_rfl
theorem le102_3 : L102 3 = enter Tryz.prog (0, 0) H102_3 (E102_3 fu) := by kernel_rfl
theorem lm102 : ∀ x ∈ [c102_3], ∀ id, firstReg x = some id → LoopOk Tryz.prog (0, 0) x (L102 id) := (loops_cons fr102_3 le102_3 (ok102_3 fu) loops_nil)
theorem lp102 : ∀ x ∈ loopsOf c102, ∀ id, firstReg x = some id → LoopOk Tryz.prog (0, 0) x (L102 id) := loops_eq lq102 lm102
noncomputable def sg102 : Sg := ⟨⟨[.one (.sl 0)], [], [(235, sh5, .ro)]⟩, [.row sh5], ⟨[.one (.sl 0)], [], [(156, sh5, .own)]⟩, [.row sh5]⟩
noncomputable def E102 : Fun2 := eOf sg102 L.toPunctS
theorem ev102 (a : Args sg102.ks) : evS Tryz.prog G102 L102 (0, 0) [] Tryz.f102 c102 (kOf sg102) (sg102.sk.fl (encP sg102.ks a)) = unc sg102.ks L.toPunctS a := by kernel_rfl
theorem good102 : Vm.Good Tryz.prog 102 E102 := good_gen (G := G102) (L := L102) (c := c102) (rn := []) (N := (0, 0)) (envCons_good good190 envNil_good) lp102 Tryz.func102 (by kernel_rfl) (by kernel_rfl) (fun _ => by kernel_rfl) ev102
noncomputable def G249 : Env := envNil
noncomputable def c249 : Code := bodyOf Tryz.f249
noncomputable def L.toMark (a1 : Int) (a2 : Bool) : Option (Int × Bool) :=
(some (a1, a2))
noncomputable def sg249 : Sg := ⟨⟨[.agg (ho 2 [])], [], []⟩, [.int .i64, .bool], ⟨[.agg (ho 2 [])], [], []⟩, [.int .i64, .bool]⟩
noncomputable def E249 : Fun2 := eOf sg249 L.toMark
theorem ev249 (a : Args sg249.ks) : evS Tryz.prog G249 loopNil (0, 0) [] Tryz.f249 c249 (kOf sg249) (sg249.sk.fl (encP sg249.ks a)) = unc sg249.ks L.toMark a := by kernel_rfl
theorem good249 : Vm.Good Tryz.prog 249 E249 := good_gen (G := G249) (L := loopNil) (c := c249) (rn := []) (N := (0, 0)) envNil_good (no_loops (c := c249) (by kernel_rfl)) Tryz.func249 (by kernel_rfl) (by kernel_rfl) (fun _ => by kernel_rfl) ev249
noncomputable def G191 : Env := (envCons 249 [] E249 envNil)
noncomputable def c191 : Code := bodyOf Tryz.f191
noncomputable def c191_3 : Code := (loopsOf c191).getD 0 .skip
noncomputable def L.toMarkS_l0 : Nat → ((List (Int × Bool)) → Option ((List (Int × Bool)))) → Int → (List (Int × Bool)) → (List (Int × Bool)) → Option ((List (Int × Bool)))
  | 0, _, _, _, _ => none
  | m + 1, e3_0, a4, a5, a6 =>
    (bif (decide (a4 < (a5.length : Int))) then
    (bif decide ((0 : Int) ≤ a4 ∧ a4 < (a5.length : Int)) then
    (Option.bind (L.toMark ((nthI a5 a4 df8).1) ((nthI a5 a4 df8).2)) fun r9 =>
    (bif decide ((0 : Int) ≤ a4 ∧ a4 < (a6.length : Int)) then
    (L.toMarkS_l0 m e3_0 (IntKind.wrap .i64 (a4 + 1)) a5 (a6.set (Int.toNat a4) (r9.1, r9.2)))
    else
    none))
    else
    none)
    else
    (e3_0 a6))
noncomputable def L.toMarkS (a1 : List (Int × Bool)) : Option ((List (Int × Bool))) :=
(let v2 : Int := (a1.length : Int)
(bif decide ((0 : Int) ≤ v2 ∧ v2 ≤ v2 ∧ (16 : Int) * v2 ≤ 281474976710656 ∧ v2 ≤ 9223372036854775807) then
(L.toMarkS_l0 fu (fun y12 =>
(some y12)) 0 a1 (List.replicate (Int.toNat v2) (0, false)))
else
none))
noncomputable def H191_3 : LoopH := ⟨⟨((.one (.sl 0)) :: (hu 2 ((.one (.sl 1)) :: hh :: (hu 18 [])))), [], [(272, sh6, .ro), (225, sh6, .own)]⟩, ([1, 2] ++ rg 5 18), [], ([0, 1] ++ rg 4 19), [], []⟩
noncomputable def k191_3 : List PK := [.int .i64, .row sh6, .row sh6]
noncomputable def W191_3 (m : Nat) (k : Kont ((List (Int × Bool)))) : Cur k191_3 (Option ((List (Int × Bool)))) := L.toMarkS_l0 m (exF k (.exit 0) ⟨(hu 3 ((.one (.sl 0)) :: (hu 19 []))), [], [(225, sh6, .own)]⟩ [.row sh6])
noncomputable def E191_3 (m : Nat) : List Prm → Kont ((List (Int × Bool))) → Option ((List (Int × Bool))) := eL k191_3 (W191_3 m)
theorem ev191_3 (m : Nat) (k : Kont ((List (Int × Bool)))) (a : Args k191_3) : evL Tryz.prog G191 loopNil c191_3 (turn Tryz.prog (0, 0) H191_3 (E191_3 m) k) (H191_3.sk.fl (encP k191_3 a)) = unc k191_3 (W191_3 (m + 1) k) a := by kernel_rfl
theorem ok191_3 (m : Nat) : LoopOk Tryz.prog (0, 0) c191_3 (enter Tryz.prog (0, 0) H191_3 (E191_3 m)) := loop_gen (Fl := W191_3) (G := G191) (L := loopNil) (envCons_good good249 envNil_good) (no_loops (c := c191_3) (by kernel_rfl)) (fun _ _ => by kernel_rfl) ev191_3 m
noncomputable def L191 : LEnv ((List (Int × Bool))) := (loopCons 3 (enter Tryz.prog (0, 0) H191_3 (E191_3 fu)) loopNil)
theorem lq191 : loopsOf c191 = [c191_3] := by kernel_rfl
theorem fr191_3 : firstReg c191_3 = some 3 := by kernel_rfl
theorem le191_3 : L191 3 = enter Tryz.prog (0, 0) H191_3 (E191_3 fu) := by kernel_rfl
theorem lm191 : ∀ x ∈ [c191_3], ∀ id, firstReg x = some id → LoopOk Tryz.prog (0, 0) x (L191 id) := (loops_cons fr191_3 le191_3 (ok191_3 fu) loops_nil)
theorem lp191 : ∀ x ∈ loopsOf c191, ∀ id, firstReg x = some id → LoopOk Tryz.prog (0, 0) x (L191 id) := loops_eq lq191 lm191
noncomputable def sg191 : Sg := ⟨⟨[.one (.sl 0)], [], [(272, sh6, .ro)]⟩, [.row sh6], ⟨[.one (.sl 0)], [], [(225, sh6, .own)]⟩, [.row sh6]⟩
noncomputable def E191 : Fun2 := eOf sg191 L.toMarkS
theorem ev191 (a : Args sg191.ks) : evS Tryz.prog G191 L191 (0, 0) [] Tryz.f191 c191 (kOf sg191) (sg191.sk.fl (encP sg191.ks a)) = unc sg191.ks L.toMarkS a := by kernel_rfl
theorem good191 : Vm.Good Tryz.prog 191 E191 := good_gen (G := G191) (L := L191) (c := c191) (rn := []) (N := (0, 0)) (envCons_good good249 envNil_good) lp191 Tryz.func191 (by kernel_rfl) (by kernel_rfl) (fun _ => by kernel_rfl) ev191
noncomputable def G103 : Env := (envCons 191 [] E191 envNil)
noncomputable def c103 : Code := bodyOf Tryz.f103
noncomputable def L.toMarks (a1 : Int) (a2 : List (Int × Bool)) : Option (Int × (List (Int × Bool))) :=
(Option.bind (L.toMarkS a2) fun r3 =>
(some (a1, r3)))
noncomputable def sg103 : Sg := ⟨⟨[.agg [.hole, .sl 0]], [], [(272, sh6, .ro)]⟩, [.int .i64, .row sh6], ⟨[.agg [.hole, .sl 0]], [], [(225, sh6, .own)]⟩, [.int .i64, .row sh6]⟩
noncomputable def E103 : Fun2 := eOf sg103 L.toMarks
theorem ev103 (a : Args sg103.ks) : evS Tryz.prog G103 loopNil (0, 0) [] Tryz.f103 c103 (kOf sg103) (sg103.sk.fl (encP sg103.ks a)) = unc sg103.ks L.toMarks a := by kernel_rfl
theorem good103 : Vm.Good Tryz.prog 103 E103 := good_gen (G := G103) (L := loopNil) (c := c103) (rn := []) (N := (0, 0)) (envCons_good good191 envNil_good) (no_loops (c := c103) (by kernel_rfl)) Tryz.func103 (by kernel_rfl) (by kernel_rfl) (fun _ => by kernel_rfl) ev103
noncomputable def G203 : Env := envNil
noncomputable def c203 : Code := bodyOf Tryz.f203
noncomputable def L.toWide (a1 a2 : Int) : Option (Int × Int) :=
(some (a1, a2))
noncomputable def sg203 : Sg := ⟨⟨[.agg (ho 2 [])], [], []⟩, [.int .i64, .int .u64], ⟨[.agg (ho 2 [])], [], []⟩, [.int .i64, .int .u64]⟩
noncomputable def E203 : Fun2 := eOf sg203 L.toWide
theorem ev203 (a : Args sg203.ks) : evS Tryz.prog G203 loopNil (0, 0) [] Tryz.f203 c203 (kOf sg203) (sg203.sk.fl (encP sg203.ks a)) = unc sg203.ks L.toWide a := by kernel_rfl
theorem good203 : Vm.Good Tryz.prog 203 E203 := good_gen (G := G203) (L := loopNil) (c := c203) (rn := []) (N := (0, 0)) envNil_good (no_loops (c := c203) (by kernel_rfl)) Tryz.func203 (by kernel_rfl) (by kernel_rfl) (fun _ => by kernel_rfl) ev203
noncomputable def G28 : Env := envNil
noncomputable def c28 : Code := bodyOf Tryz.f28
noncomputable def c28_3 : Code := (loopsOf c28).getD 0 .skip
noncomputable def L.toIntS_l0 : Nat → (List Int → Option (List Int)) → Int → List Int → List Int → Option (List Int)
  | 0, _, _, _, _ => none
  | m + 1, e3_0, a4, a5, a6 =>
    (bif (decide (a4 < (a5.length : Int))) then
    (bif decide ((0 : Int) ≤ a4 ∧ a4 < (a5.length : Int)) then
    (bif decide ((0 : Int) ≤ a4 ∧ a4 < (a6.length : Int)) then
    (L.toIntS_l0 m e3_0 (IntKind.wrap .i64 (a4 + 1)) a5 (a6.set (Int.toNat a4) (nthI a5 a4 (0 : Int))))
    else
    none)
    else
    none)
    else
    (e3_0 a6))
noncomputable def L.toIntS (a1 : List Int) : Option (List Int) :=
(let v2 : Int := (a1.length : Int)
(bif decide ((0 : Int) ≤ v2 ∧ v2 ≤ v2 ∧ (8 : Int) * v2 ≤ 281474976710656 ∧ v2 ≤ 9223372036854775807) then
(L.toIntS_l0 fu (fun y11 =>
(some y11)) 0 a1 (List.replicate (Int.toNat v2) (0 : Int)))
else
none))
noncomputable def H28_3 : LoopH := ⟨⟨((.one (.sl 0)) :: (hu 2 ((.one (.sl 1)) :: hh :: (hu 17 [])))), [], [(3, (.int .i64), .ro), (3, (.int .i64), .own)]⟩, ([1, 2] ++ rg 5 17), [], ([0, 1] ++ rg 4 18), [], []⟩
noncomputable def k28_3 : List PK := [.int .i64, .row (.int .i64), .row (.int .i64)]
noncomputable def W28_3 (m : Nat) (k : Kont (List Int)) : Cur k28_3 (Option (List Int)) := L.toIntS_l0 m (exF k (.exit 0) ⟨(hu 3 ((.one (.sl 0)) :: (hu 18 []))), [], [(3, (.int .i64), .own)]⟩ [.row (.int .i64)])
noncomputable def E28_3 (m : Nat) : List Prm → Kont (List Int) → Option (List Int) := eL k28_3 (W28_3 m)
theorem ev28_3 (m : Nat) (k : Kont (List Int)) (a : Args k28_3) : evL Tryz.prog G28 loopNil c28_3 (turn Tryz.prog (0, 0) H28_3 (E28_3 m) k) (H28_3.sk.fl (encP k28_3 a)) = unc k28_3 (W28_3 (m + 1) k) a := by kernel_rfl
theorem ok28_3 (m : Nat) : LoopOk Tryz.prog (0, 0) c28_3 (enter Tryz.prog (0, 0) H28_3 (E28_3 m)) := loop_gen (Fl := W28_3) (G := G28) (L := loopNil) envNil_good (no_loops (c := c28_3) (by kernel_rfl)) (fun _ _ => by kernel_rfl) ev28_3 m
noncomputable def L28 : LEnv (List Int) := (loopCons 3 (enter Tryz.prog (0, 0) H28_3 (E28_3 fu)) loopNil)
theorem lq28 : loopsOf c28 = [c28_3] := by kernel_rfl
theorem fr28_3 : firstReg c28_3 = some 3 := by kernel_rfl
theorem le28_3 : L28 3 = enter Tryz.prog (0, 0) H28_3 (E28_3 fu) := by kernel_rfl
theorem lm28 : ∀ x ∈ [c28_3], ∀ id, firstReg x = some id → LoopOk Tryz.prog (0, 0) x (L28 id) := (loops_cons fr28_3 le28_3 (ok28_3 fu) loops_nil)
theorem lp28 : ∀ x ∈ loopsOf c28, ∀ id, firstReg x = some id → LoopOk Tryz.prog (0, 0) x (L28 id) := loops_eq lq28 lm28
noncomputable def sg28 : Sg := ⟨⟨[.one (.sl 0)], [], [(3, (.int .i64), .ro)]⟩, [.row (.int .i64)], ⟨[.one (.sl 0)], [], [(3, (.int .i64), .own)]⟩, [.row (.int .i64)]⟩
noncomputable def E28 : Fun2 := eOf sg28 L.toIntS
theorem ev28 (a : Args sg28.ks) : evS Tryz.prog G28 L28 (0, 0) [] Tryz.f28 c28 (kOf sg28) (sg28.sk.fl (encP sg28.ks a)) = unc sg28.ks L.toIntS a := by kernel_rfl
theorem good28 : Vm.Good Tryz.prog 28 E28 := good_gen (G := G28) (L := L28) (c := c28) (rn := []) (N := (0, 0)) envNil_good lp28 Tryz.func28 (by kernel_rfl) (by kernel_rfl) (fun _ => by kernel_rfl) ev28
noncomputable def G124 : Env := (envCons 203 [] E203 (envCons 28 [] E28 envNil))
noncomputable def c124 : Code := bodyOf Tryz.f124
noncomputable def L.toAgg (a1 a2 a3 a4 a5 : Int) (a6 : List Int) : Option (Int × Int × Int × Int × Int × List Int) :=
(Option.bind (L.toWide a2 a3) fun r7 =>
(Option.bind (L.toIntS a6) fun r8 =>
(some (a1, r7.1, r7.2, a4, a5, r8))))
noncomputable def sg124 : Sg := ⟨⟨[.agg (ho 5 [.sl 0])], [], [(3, (.int .i64), .ro)]⟩, (ki 2 ((.int .u64) :: (ki 2 [.row (.int .i64)]))), ⟨[.agg (ho 5 [.sl 0])], [], [(3, (.int .i64), .own)]⟩, (ki 2 ((.int .u64) :: (ki 2 [.row (.int .i64)])))⟩
noncomputable def E124 : Fun2 := eOf sg124 L.toAgg
theorem ev124 (a : Args sg124.ks) : evS Tryz.prog G124 loopNil (0, 0) [] Tryz.f124 c124 (kOf sg124) (sg124.sk.fl (encP sg124.ks a)) = unc sg124.ks L.toAgg a := by kernel_rfl
theorem good124 : Vm.Good Tryz.prog 124 E124 := good_gen (G := G124) (L := loopNil) (c := c124) (rn := []) (N := (0, 0)) (envCons_good good203 (envCons_good good28 envNil_good)) (no_loops (c := c124) (by kernel_rfl)) Tryz.func124 (by kernel_rfl) (by kernel_rfl) (fun _ => by kernel_rfl) ev124
noncomputable def G47 : Env := (envCons 124 [] E124 envNil)
noncomputable def c47 : Code := bodyOf Tryz.f47
noncomputable def L.toCell (a1 a2 a3 a4 a5 a6 a7 a8 a9 a10 : Int) (a11 : List Int) : Option (Int × Int × Int × Int × Int × Int × Int × Int × Int × Int × List Int) :=
(Option.bind (L.toAgg a6 a7 a8 a9 a10 a11) fun r12 =>
(some (a1, a2, a3, a4, a5, r12.1, r12.2.1, r12.2.2.1, r12.2.2.2.1, r12.2.2.2.2.1, r12.2.2.2.2.2)))
noncomputable def sg47 : Sg := ⟨⟨[.agg (ho 10 [.sl 0])], [], [(3, (.int .i64), .ro)]⟩, (ki 7 ((.int .u64) :: (ki 2 [.row (.int .i64)]))), ⟨[.agg (ho 10 [.sl 0])], [], [(3, (.int .i64), .own)]⟩, (ki 7 ((.int .u64) :: (ki 2 [.row (.int .i64)])))⟩
noncomputable def E47 : Fun2 := eOf sg47 L.toCell
theorem ev47 (a : Args sg47.ks) : evS Tryz.prog G47 loopNil (0, 0) [] Tryz.f47 c47 (kOf sg47) (sg47.sk.fl (encP sg47.ks a)) = unc sg47.ks L.toCell a := by kernel_rfl
theorem good47 : Vm.Good Tryz.prog 47 E47 := good_gen (G := G47) (L := loopNil) (c := c47) (rn := []) (N := (0, 0)) (envCons_good good124 envNil_good) (no_loops (c := c47) (by kernel_rfl)) Tryz.func47 (by kernel_rfl) (by kernel_rfl) (fun _ => by kernel_rfl) ev47
noncomputable def G10 : Env := (envCons 47 [] E47 envNil)
noncomputable def c10 : Code := bodyOf Tryz.f10
noncomputable def c10_3 : Code := (loopsOf c10).getD 0 .skip
noncomputable def L.toCellS_l0 : Nat → ((List ty5) → Option ((List ty5))) → Int → (List ty5) → (List ty5) → Option ((List ty5))
  | 0, _, _, _, _ => none
  | m + 1, e3_0, a4, a5, a6 =>
    (bif (decide (a4 < (a5.length : Int))) then
    (bif decide ((0 : Int) ≤ a4 ∧ a4 < (a5.length : Int)) then
    (Option.bind (L.toCell ((nthI a5 a4 df3).1) ((nthI a5 a4 df3).2.1) ((nthI a5 a4 df3).2.2.1) ((nthI a5 a4 df3).2.2.2.1) ((nthI a5 a4 df3).2.2.2.2.1) ((nthI a5 a4 df3).2.2.2.2.2.1) ((nthI a5 a4 df3).2.2.2.2.2.2.1.1) ((nthI a5 a4 df3).2.2.2.2.2.2.1.2) ((nthI a5 a4 df3).2.2.2.2.2.2.2.1) ((nthI a5 a4 df3).2.2.2.2.2.2.2.2.1) ((nthI a5 a4 df3).2.2.2.2.2.2.2.2.2)) fun r9 =>
    (bif decide ((0 : Int) ≤ a4 ∧ a4 < (a6.length : Int)) then
    (let v10 : List ty5 := (a6.set (Int.toNat a4) (r9.1, (r9.2.1, (r9.2.2.1, (r9.2.2.2.1, (r9.2.2.2.2.1, (r9.2.2.2.2.2.1, ((r9.2.2.2.2.2.2.1, r9.2.2.2.2.2.2.2.1), (r9.2.2.2.2.2.2.2.2.1, (r9.2.2.2.2.2.2.2.2.2.1, r9.2.2.2.2.2.2.2.2.2.2))))))))))
    (L.toCellS_l0 m e3_0 (IntKind.wrap .i64 (a4 + 1)) a5 v10))
    else
    none))
    else
    none)
    else
    (e3_0 a6))
noncomputable def L.toCellS (a1 : List ty5) : Option ((List ty5)) :=
(let v2 : Int := (a1.length : Int)
(bif decide ((0 : Int) ≤ v2 ∧ v2 ≤ v2 ∧ (104 : Int) * v2 ≤ 281474976710656 ∧ v2 ≤ 9223372036854775807) then
(let v3 : List ty5 := (List.replicate (Int.toNat v2) (0, (0, (0, (0, (0, (0, ((0, 0), (0, (0, []))))))))))
(L.toCellS_l0 fu (fun y12 =>
(some y12)) 0 a1 v3))
else
none))
noncomputable def H10_3 : LoopH := ⟨⟨((.one (.sl 0)) :: (hu 2 ((.one (.sl 1)) :: hh :: (hu 18 [])))), [], [(93, sh7, .ro), (105, sh7, .own)]⟩, ([1, 2] ++ rg 5 18), [], ([0, 1] ++ rg 4 19), [], []⟩
noncomputable def k10_3 : List PK := [.int .i64, .row sh7, .row sh7]
noncomputable def W10_3 (m : Nat) (k : Kont ((List ty5))) : Cur k10_3 (Option ((List ty5))) := L.toCellS_l0 m (exF k (.exit 0) ⟨(hu 3 ((.one (.sl 0)) :: (hu 19 []))), [], [(105, sh7, .own)]⟩ [.row sh7])
noncomputable def E10_3 (m : Nat) : List Prm → Kont ((List ty5)) → Option ((List ty5)) := eL k10_3 (W10_3 m)
theorem ev10_3 (m : Nat) (k : Kont ((List ty5))) (a : Args k10_3) : evL Tryz.prog G10 loopNil c10_3 (turn Tryz.prog (0, 0) H10_3 (E10_3 m) k) (H10_3.sk.fl (encP k10_3 a)) = unc k10_3 (W10_3 (m + 1) k) a := by kernel_rfl
theorem ok10_3 (m : Nat) : LoopOk Tryz.prog (0, 0) c10_3 (enter Tryz.prog (0, 0) H10_3 (E10_3 m)) := loop_gen (Fl := W10_3) (G := G10) (L := loopNil) (envCons_good good47 envNil_good) (no_loops (c := c10_3) (by kernel_rfl)) (fun _ _ => by kernel_rfl) ev10_3 m
noncomputable def L10 : LEnv ((List ty5)) := (loopCons 3 (enter Tryz.prog (0, 0) H10_3 (E10_3 fu)) loopNil)
theorem lq10 : loopsOf c10 = [c10_3] := by kernel_rfl
theorem fr10_3 : firstReg c10_3 = some 3 := by kernel_rfl
theorem le10_3 : L10 3 = enter Tryz.prog (0, 0) H10_3 (E10_3 fu) := by kernel_rfl
theorem lm10 : ∀ x ∈ [c10_3], ∀ id, firstReg x = some id → LoopOk Tryz.prog (0, 0) x (L10 id) := (loops_cons fr10_3 le10_3 (ok10_3 fu) loops_nil)
theorem lp10 : ∀ x ∈ loopsOf c10, ∀ id, firstReg x = some id → LoopOk Tryz.prog (0, 0) x (L10 id) := loops_eq lq10 lm10
noncomputable def sg10 : Sg := ⟨⟨[.one (.sl 0)], [], [(93, sh7, .ro)]⟩, [.row sh7], ⟨[.one (.sl 0)], [], [(105, sh7, .own)]⟩, [.row sh7]⟩
noncomputable def E10 : Fun2 := eOf sg10 L.toCellS
theorem ev10 (a : Args sg10.ks) : evS Tryz.prog G10 L10 (0, 0) [] Tryz.f10 c10 (kOf sg10) (sg10.sk.fl (encP sg10.ks a)) = unc sg10.ks L.toCellS a := by kernel_rfl
theorem good10 : Vm.Good Tryz.prog 10 E10 := good_gen (G := G10) (L := L10) (c := c10) (rn := []) (N := (0, 0)) (envCons_good good47 envNil_good) lp10 Tryz.func10 (by kernel_rfl) (by kernel_rfl) (fun _ => by kernel_rfl) ev10
noncomputable def G309 : Env := (envCons 28 [] E28 envNil)
noncomputable def c309 : Code := bodyOf Tryz.f309
noncomputable def L.toPane (a1 a2 a3 a4 a5 a6 : Int) (a7 : Bool) (a8 : List Int) : Option (Int × Int × Int × Int × Int × Int × Bool × List Int) :=
(Option.bind (L.toIntS a8) fun r9 =>
(some (a1, a2, a3, a4, a5, a6, a7, r9)))
noncomputable def sg309 : Sg := ⟨⟨[.agg (ho 6 [.sl 0, .hole])], [], [(3, (.int .i64), .ro)]⟩, (ki 6 [.bool, .row (.int .i64)]), ⟨[.agg (ho 6 [.sl 0, .hole])], [], [(3, (.int .i64), .own)]⟩, (ki 6 [.bool, .row (.int .i64)])⟩
noncomputable def E309 : Fun2 := eOf sg309 L.toPane
theorem ev309 (a : Args sg309.ks) : evS Tryz.prog G309 loopNil (0, 0) [] Tryz.f309 c309 (kOf sg309) (sg309.sk.fl (encP sg309.ks a)) = unc sg309.ks L.toPane a := by kernel_rfl
theorem good309 : Vm.Good Tryz.prog 309 E309 := good_gen (G := G309) (L := loopNil) (c := c309) (rn := []) (N := (0, 0)) (envCons_good good28 envNil_good) (no_loops (c := c309) (by kernel_rfl)) Tryz.func309 (by kernel_rfl) (by kernel_rfl) (fun _ => by kernel_rfl) ev309
noncomputable def G288 : Env := (envCons 309 [] E309 envNil)
noncomputable def c288 : Code := bodyOf Tryz.f288
noncomputable def L.toItem (a1 a2 a3 a4 a5 a6 a7 a8 : Int) (a9 : Bool) (a10 : List Int) : Option (Int × Int × Int × Int × Int × Int × Int × Int × Bool × List Int) :=
(Option.bind (L.toPane a3 a4 a5 a6 a7 a8 a9 a10) fun r11 =>
(some (a1, a2, r11.1, r11.2.1, r11.2.2.1, r11.2.2.2.1, r11.2.2.2.2.1, r11.2.2.2.2.2.1, r11.2.2.2.2.2.2.1, r11.2.2.2.2.2.2.2)))
noncomputable def sg288 : Sg := ⟨⟨[.agg (ho 8 [.sl 0, .hole])], [], [(3, (.int .i64), .ro)]⟩, (ki 8 [.bool, .row (.int .i64)]), ⟨[.agg (ho 8 [.sl 0, .hole])], [], [(3, (.int .i64), .own)]⟩, (ki 8 [.bool, .row (.int .i64)])⟩
noncomputable def E288 : Fun2 := eOf sg288 L.toItem
theorem ev288 (a : Args sg288.ks) : evS Tryz.prog G288 loopNil (0, 0) [] Tryz.f288 c288 (kOf sg288) (sg288.sk.fl (encP sg288.ks a)) = unc sg288.ks L.toItem a := by kernel_rfl
theorem good288 : Vm.Good Tryz.prog 288 E288 := good_gen (G := G288) (L := loopNil) (c := c288) (rn := []) (N := (0, 0)) (envCons_good good309 envNil_good) (no_loops (c := c288) (by kernel_rfl)) Tryz.func288 (by kernel_rfl) (by kernel_rfl) (fun _ => by kernel_rfl) ev288
noncomputable def G250 : Env := (envCons 288 [] E288 envNil)
noncomputable def c250 : Code := bodyOf Tryz.f250
noncomputable def c250_3 : Code := (loopsOf c250).getD 0 .skip
noncomputable def L.toItemS_l0 : Nat → ((List ty7) → Option ((List ty7))) → Int → (List ty7) → (List ty7) → Option ((List ty7))
  | 0, _, _, _, _ => none
  | m + 1, e3_0, a4, a5, a6 =>
    (bif (decide (a4 < (a5.length : Int))) then
    (bif decide ((0 : Int) ≤ a4 ∧ a4 < (a5.length : Int)) then
    (Option.bind (L.toItem ((nthI a5 a4 df4).1) ((nthI a5 a4 df4).2.1) ((nthI a5 a4 df4).2.2.1) ((nthI a5 a4 df4).2.2.2.1) ((nthI a5 a4 df4).2.2.2.2.1) ((nthI a5 a4 df4).2.2.2.2.2.1) ((nthI a5 a4 df4).2.2.2.2.2.2.1) ((nthI a5 a4 df4).2.2.2.2.2.2.2.1) ((nthI a5 a4 df4).2.2.2.2.2.2.2.2.2) ((nthI a5 a4 df4).2.2.2.2.2.2.2.2.1)) fun r9 =>
    (bif decide ((0 : Int) ≤ a4 ∧ a4 < (a6.length : Int)) then
    (let v10 : List ty7 := (a6.set (Int.toNat a4) (r9.1, (r9.2.1, (r9.2.2.1, (r9.2.2.2.1, (r9.2.2.2.2.1, (r9.2.2.2.2.2.1, (r9.2.2.2.2.2.2.1, (r9.2.2.2.2.2.2.2.1, (r9.2.2.2.2.2.2.2.2.2, r9.2.2.2.2.2.2.2.2.1))))))))))
    (L.toItemS_l0 m e3_0 (IntKind.wrap .i64 (a4 + 1)) a5 v10))
    else
    none))
    else
    none)
    else
    (e3_0 a6))
noncomputable def L.toItemS (a1 : List ty7) : Option ((List ty7)) :=
(let v2 : Int := (a1.length : Int)
(bif decide ((0 : Int) ≤ v2 ∧ v2 ≤ v2 ∧ (96 : Int) * v2 ≤ 281474976710656 ∧ v2 ≤ 9223372036854775807) then
(let v3 : List ty7 := (List.replicate (Int.toNat v2) (0, (0, (0, (0, (0, (0, (0, (0, ([], false))))))))))
(L.toItemS_l0 fu (fun y12 =>
(some y12)) 0 a1 v3))
else
none))
noncomputable def H250_3 : LoopH := ⟨⟨((.one (.sl 0)) :: (hu 2 ((.one (.sl 1)) :: hh :: (hu 18 [])))), [], [(307, sh8, .ro), (230, sh8, .own)]⟩, ([1, 2] ++ rg 5 18), [], ([0, 1] ++ rg 4 19), [], []⟩
noncomputable def k250_3 : List PK := [.int .i64, .row sh8, .row sh8]
noncomputable def W250_3 (m : Nat) (k : Kont ((List ty7))) : Cur k250_3 (Option ((List ty7))) := L.toItemS_l0 m (exF k (.exit 0) ⟨(hu 3 ((.one (.sl 0)) :: (hu 19 []))), [], [(230, sh8, .own)]⟩ [.row sh8])
noncomputable def E250_3 (m : Nat) : List Prm → Kont ((List ty7)) → Option ((List ty7)) := eL k250_3 (W250_3 m)
theorem ev250_3 (m : Nat) (k : Kont ((List ty7))) (a : Args k250_3) : evL Tryz.prog G250 loopNil c250_3 (turn Tryz.prog (0, 0) H250_3 (E250_3 m) k) (H250_3.sk.fl (encP k250_3 a)) = unc k250_3 (W250_3 (m + 1) k) a := by kernel_rfl
theorem ok250_3 (m : Nat) : LoopOk Tryz.prog (0, 0) c250_3 (enter Tryz.prog (0, 0) H250_3 (E250_3 m)) := loop_gen (Fl := W250_3) (G := G250) (L := loopNil) (envCons_good good288 envNil_good) (no_loops (c := c250_3) (by kernel_rfl)) (fun _ _ => by kernel_rfl) ev250_3 m
noncomputable def L250 : LEnv ((List ty7)) := (loopCons 3 (enter Tryz.prog (0, 0) H250_3 (E250_3 fu)) loopNil)
theorem lq250 : loopsOf c250 = [c250_3] := by kernel_rfl
theorem fr250_3 : firstReg c250_3 = some 3 := by kernel_rfl
theorem le250_3 : L250 3 = enter Tryz.prog (0, 0) H250_3 (E250_3 fu) := by kernel_rfl
theorem lm250 : ∀ x ∈ [c250_3], ∀ id, firstReg x = some id → LoopOk Tryz.prog (0, 0) x (L250 id) := (loops_cons fr250_3 le250_3 (ok250_3 fu) loops_nil)
theorem lp250 : ∀ x ∈ loopsOf c250, ∀ id, firstReg x = some id → LoopOk Tryz.prog (0, 0) x (L250 id) := loops_eq lq250 lm250
noncomputable def sg250 : Sg := ⟨⟨[.one (.sl 0)], [], [(307, sh8, .ro)]⟩, [.row sh8], ⟨[.one (.sl 0)], [], [(230, sh8, .own)]⟩, [.row sh8]⟩
noncomputable def E250 : Fun2 := eOf sg250 L.toItemS
theorem ev250 (a : Args sg250.ks) : evS Tryz.prog G250 L250 (0, 0) [] Tryz.f250 c250 (kOf sg250) (sg250.sk.fl (encP sg250.ks a)) = unc sg250.ks L.toItemS a := by kernel_rfl
theorem good250 : Vm.Good Tryz.prog 250 E250 := good_gen (G := G250) (L := L250) (c := c250) (rn := []) (N := (0, 0)) (envCons_good good288 envNil_good) lp250 Tryz.func250 (by kernel_rfl) (by kernel_rfl) (fun _ => by kernel_rfl) ev250
noncomputable def G289 : Env := envNil
noncomputable def c289 : Code := bodyOf Tryz.f289
noncomputable def L.toRec (a1 a2 a3 : Int) : Option (Int × Int × Int) :=
(some (a1, a2, a3))
noncomputable def sg289 : Sg := ⟨⟨[.agg (ho 3 [])], [], []⟩, (ki 3 []), ⟨[.agg (ho 3 [])], [], []⟩, (ki 3 [])⟩
noncomputable def E289 : Fun2 := eOf sg289 L.toRec
theorem ev289 (a : Args sg289.ks) : evS Tryz.prog G289 loopNil (0, 0) [] Tryz.f289 c289 (kOf sg289) (sg289.sk.fl (encP sg289.ks a)) = unc sg289.ks L.toRec a := by kernel_rfl
theorem good289 : Vm.Good Tryz.prog 289 E289 := good_gen (G := G289) (L := loopNil) (c := c289) (rn := []) (N := (0, 0)) envNil_good (no_loops (c := c289) (by kernel_rfl)) Tryz.func289 (by kernel_rfl) (by kernel_rfl) (fun _ => by kernel_rfl) ev289
noncomputable def G251 : Env := (envCons 289 [] E289 envNil)
noncomputable def c251 : Code := bodyOf Tryz.f251
noncomputable def c251_3 : Code := (loopsOf c251).getD 0 .skip
noncomputable def L.toRecS_l0 : Nat → ((List (Int × Int × Int)) → Option ((List (Int × Int × Int)))) → Int → (List (Int × Int × Int)) → (List (Int × Int × Int)) → Option ((List (Int × Int × Int)))
  | 0, _, _, _, _ => none
  | m + 1, e3_0, a4, a5, a6 =>
    (bif (decide (a4 < (a5.length : Int))) then
    (bif decide ((0 : Int) ≤ a4 ∧ a4 < (a5.length : Int)) then
    (Option.bind (L.toRec ((nthI a5 a4 df1).1) ((nthI a5 a4 df1).2.1) ((nthI a5 a4 df1).2.2)) fun r9 =>
    (bif decide ((0 : Int) ≤ a4 ∧ a4 < (a6.length : Int)) then
    (L.toRecS_l0 m e3_0 (IntKind.wrap .i64 (a4 + 1)) a5 (a6.set (Int.toNat a4) (r9.1, (r9.2.1, r9.2.2))))
    else
    none))
    else
    none)
    else
    (e3_0 a6))
noncomputable def L.toRecS (a1 : List (Int × Int × Int)) : Option ((List (Int × Int × Int))) :=
(let v2 : Int := (a1.length : Int)
(bif decide ((0 : Int) ≤ v2 ∧ v2 ≤ v2 ∧ (24 : Int) * v2 ≤ 281474976710656 ∧ v2 ≤ 9223372036854775807) then
(L.toRecS_l0 fu (fun y12 =>
(some y12)) 0 a1 (List.replicate (Int.toNat v2) (0, (0, 0))))
else
none))
noncomputable def H251_3 : LoopH := ⟨⟨((.one (.sl 0)) :: (hu 2 ((.one (.sl 1)) :: hh :: (hu 18 [])))), [], [(310, sh3, .ro), (233, sh3, .own)]⟩, ([1, 2] ++ rg 5 18), [], ([0, 1] ++ rg 4 19), [], []⟩
noncomputable def k251_3 : List PK := [.int .i64, .row sh3, .row sh3]
noncomputable def W251_3 (m : Nat) (k : Kont ((List (Int × Int × Int)))) : Cur k251_3 (Option ((List (Int × Int × Int)))) := L.toRecS_l0 m (exF k (.exit 0) ⟨(hu 3 ((.one (.sl 0)) :: (hu 19 []))), [], [(233, sh3, .own)]⟩ [.row sh3])
noncomputable def E251_3 (m : Nat) : List Prm → Kont ((List (Int × Int × Int))) → Option ((List (Int × Int × Int))) := eL k251_3 (W251_3 m)
theorem ev251_3 (m : Nat) (k : Kont ((List (Int × Int × Int)))) (a : Args k251_3) : evL Tryz.prog G251 loopNil c251_3 (turn Tryz.prog (0, 0) H251_3 (E251_3 m) k) (H251_3.sk.fl (encP k251_3 a)) = unc k251_3 (W251_3 (m + 1) k) a := by kernel_rfl
theorem ok251_3 (m : Nat) : LoopOk Tryz.prog (0, 0) c251_3 (enter Tryz.prog (0, 0) H251_3 (E251_3 m)) := loop_gen (Fl := W251_3) (G := G251) (L := loopNil) (envCons_good good289 envNil_good) (no_loops (c := c251_3) (by kernel_rfl)) (fun _ _ => by kernel_rfl) ev251_3 m
noncomputable def L251 : LEnv ((List (Int × Int × Int))) := (loopCons 3 (enter Tryz.prog (0, 0) H251_3 (E251_3 fu)) loopNil)
theorem lq251 : loopsOf c251 = [c251_3] := by kernel_rfl
theorem fr251_3 : firstReg c251_3 = some 3 := by kernel_rfl
theorem le251_3 : L251 3 = enter Tryz.prog (0, 0) H251_3 (E251_3 fu) := by kernel_rfl
theorem lm251 : ∀ x ∈ [c251_3], ∀ id, firstReg x = some id → LoopOk Tryz.prog (0, 0) x (L251 id) := (loops_cons fr251_3 le251_3 (ok251_3 fu) loops_nil)
theorem lp251 : ∀ x ∈ loopsOf c251, ∀ id, firstReg x = some id → LoopOk Tryz.prog (0, 0) x (L251 id) := loops_eq lq251 lm251
noncomputable def sg251 : Sg := ⟨⟨[.one (.sl 0)], [], [(310, sh3, .ro)]⟩, [.row sh3], ⟨[.one (.sl 0)], [], [(233, sh3, .own)]⟩, [.row sh3]⟩
noncomputable def E251 : Fun2 := eOf sg251 L.toRecS
theorem ev251 (a : Args sg251.ks) : evS Tryz.prog G251 L251 (0, 0) [] Tryz.f251 c251 (kOf sg251) (sg251.sk.fl (encP sg251.ks a)) = unc sg251.ks L.toRecS a := by kernel_rfl
theorem good251 : Vm.Good Tryz.prog 251 E251 := good_gen (G := G251) (L := L251) (c := c251) (rn := []) (N := (0, 0)) (envCons_good good289 envNil_good) lp251 Tryz.func251 (by kernel_rfl) (by kernel_rfl) (fun _ => by kernel_rfl) ev251
noncomputable def G192 : Env := (envCons 250 [] E250 (envCons 251 [] E251 envNil))
noncomputable def c192 : Code := bodyOf Tryz.f192
noncomputable def L.toBox (a1 a2 a3 a4 : Int) (a5 : List ty7) (a6 : List (Int × Int × Int)) : Option (Int × Int × Int × Int × (List ty7) × (List (Int × Int × Int))) :=
(Option.bind (L.toItemS a5) fun r7 =>
(Option.bind (L.toRecS a6) fun r8 =>
(some (a1, a2, a3, a4, r7, r8))))
noncomputable def sg192 : Sg := ⟨⟨[.agg (ho 4 [.sl 0, .sl 1])], [], [(307, sh8, .ro), (310, sh3, .ro)]⟩, (ki 4 [.row sh8, .row sh3]), ⟨[.agg (ho 4 [.sl 0, .sl 1])], [], [(230, sh8, .own), (233, sh3, .own)]⟩, (ki 4 [.row sh8, .row sh3])⟩
noncomputable def E192 : Fun2 := eOf sg192 L.toBox
theorem ev192 (a : Args sg192.ks) : evS Tryz.prog G192 loopNil (0, 0) [] Tryz.f192 c192 (kOf sg192) (sg192.sk.fl (encP sg192.ks a)) = unc sg192.ks L.toBox a := by kernel_rfl
theorem good192 : Vm.Good Tryz.prog 192 E192 := good_gen (G := G192) (L := loopNil) (c := c192) (rn := []) (N := (0, 0)) (envCons_good good250 (envCons_good good251 envNil_good)) (no_loops (c := c192) (by kernel_rfl)) Tryz.func192 (by kernel_rfl) (by kernel_rfl) (fun _ => by kernel_rfl) ev192
noncomputable def G104 : Env := (envCons 192 [] E192 envNil)
noncomputable def c104 : Code := bodyOf Tryz.f104
noncomputable def c104_3 : Code := (loopsOf c104).getD 0 .skip
noncomputable def L.toBoxS_l0 : Nat → ((List ty3) → Option ((List ty3))) → Int → (List ty3) → (List ty3) → Option ((List ty3))
  | 0, _, _, _, _ => none
  | m + 1, e3_0, a4, a5, a6 =>
    (bif (decide (a4 < (a5.length : Int))) then
    (bif decide ((0 : Int) ≤ a4 ∧ a4 < (a5.length : Int)) then
    (Option.bind (L.toBox ((nthI a5 a4 df5).1) ((nthI a5 a4 df5).2.1) ((nthI a5 a4 df5).2.2.1) ((nthI a5 a4 df5).2.2.2.1) ((nthI a5 a4 df5).2.2.2.2.1) ((nthI a5 a4 df5).2.2.2.2.2)) fun r9 =>
    (bif decide ((0 : Int) ≤ a4 ∧ a4 < (a6.length : Int)) then
    (let v10 : List ty3 := (a6.set (Int.toNat a4) (r9.1, (r9.2.1, (r9.2.2.1, (r9.2.2.2.1, (r9.2.2.2.2.1, r9.2.2.2.2.2))))))
    (L.toBoxS_l0 m e3_0 (IntKind.wrap .i64 (a4 + 1)) a5 v10))
    else
    none))
    else
    none)
    else
    (e3_0 a6))
noncomputable def L.toBoxS (a1 : List ty3) : Option ((List ty3)) :=
(let v2 : Int := (a1.length : Int)
(bif decide ((0 : Int) ≤ v2 ∧ v2 ≤ v2 ∧ (80 : Int) * v2 ≤ 281474976710656 ∧ v2 ≤ 9223372036854775807) then
(L.toBoxS_l0 fu (fun y12 =>
(some y12)) 0 a1 (List.replicate (Int.toNat v2) (0, (0, (0, (0, ([], [])))))))
else
none))
noncomputable def H104_3 : LoopH := ⟨⟨((.one (.sl 0)) :: (hu 2 ((.one (.sl 1)) :: hh :: (hu 18 [])))), [], [(222, sh9, .ro), (122, sh11, .own)]⟩, ([1, 2] ++ rg 5 18), [], ([0, 1] ++ rg 4 19), [], []⟩
noncomputable def k104_3 : List PK := [.int .i64, .row sh9, .row sh11]
noncomputable def W104_3 (m : Nat) (k : Kont ((List ty3))) : Cur k104_3 (Option ((List ty3))) := L.toBoxS_l0 m (exF k (.exit 0) ⟨(hu 3 ((.one (.sl 0)) :: (hu 19 []))), [], [(122, sh11, .own)]⟩ [.row sh11])
noncomputable def E104_3 (m : Nat) : List Prm → Kont ((List ty3)) → Option ((List ty3)) := eL k104_3 (W104_3 m)
theorem ev104_3 (m : Nat) (k : Kont ((List ty3))) (a : Args k104_3) : evL Tryz.prog G104 loopNil c104_3 (turn Tryz.prog (0, 0) H104_3 (E104_3 m) k) (H104_3.sk.fl (encP k104_3 a)) = unc k104_3 (W104_3 (m + 1) k) a := by kernel_rfl
theorem ok104_3 (m : Nat) : LoopOk Tryz.prog (0, 0) c104_3 (enter Tryz.prog (0, 0) H104_3 (E104_3 m)) := loop_gen (Fl := W104_3) (G := G104) (L := loopNil) (envCons_good good192 envNil_good) (no_loops (c := c104_3) (by kernel_rfl)) (fun _ _ => by kernel_rfl) ev104_3 m
noncomputable def L104 : LEnv ((List ty3)) := (loopCons 3 (enter Tryz.prog (0, 0) H104_3 (E104_3 fu)) loopNil)
theorem lq104 : loopsOf c104 = [c104_3] := by kernel_rfl
theorem fr104_3 : firstReg c104_3 = some 3 := by kernel_rfl
theorem le104_3 : L104 3 = enter Tryz.prog (0, 0) H104_3 (E104_3 fu) := by kernel_rfl
theorem lm104 : ∀ x ∈ [c104_3], ∀ id, firstReg x = some id → LoopOk Tryz.prog (0, 0) x (L104 id) := (loops_cons fr104_3 le104_3 (ok104_3 fu) loops_nil)
theorem lp104 : ∀ x ∈ loopsOf c104, ∀ id, firstReg x = some id → LoopOk Tryz.prog (0, 0) x (L104 id) := loops_eq lq104 lm104
noncomputable def sg104 : Sg := ⟨⟨[.one (.sl 0)], [], [(222, sh9, .ro)]⟩, [.row sh9], ⟨[.one (.sl 0)], [], [(122, sh11, .own)]⟩, [.row sh11]⟩
noncomputable def E104 : Fun2 := eOf sg104 L.toBoxS
theorem ev104 (a : Args sg104.ks) : evS Tryz.prog G104 L104 (0, 0) [] Tryz.f104 c104 (kOf sg104) (sg104.sk.fl (encP sg104.ks a)) = unc sg104.ks L.toBoxS a := by kernel_rfl
theorem good104 : Vm.Good Tryz.prog 104 E104 := good_gen (G := G104) (L := L104) (c := c104) (rn := []) (N := (0, 0)) (envCons_good good192 envNil_good) lp104 Tryz.func104 (by kernel_rfl) (by kernel_rfl) (fun _ => by kernel_rfl) ev104
noncomputable def G36 : Env := (envCons 18 [] E18 (envCons 102 [] E102 (envCons 103 [] E103 (envCons 10 [] E10 (envCons 28 [] E28 (envCons 104 [] E104 envNil))))))
noncomputable def c36 : Code := bodyOf Tryz.f36
noncomputable def L.toEng (a1 a2 a3 a4 : Int) (a5 : List Int) (a6 : List ty6) (a7 : List (Int × Int × Int)) (a8 : List ty10) (a9 : List (Int × Int × Int × Int)) (a10 : List (Int × Bool)) (a11 : List ty5) (a12 a13 : List Int) (a14 : List ty3) : Option (Int × Int × Int × Int × List Int × (List ty6) × (List (Int × Int × Int)) × (List ty10) × (List (Int × Int × Int × Int)) × (List (Int × Bool)) × (List ty5) × List Int × List Int × (List ty3)) :=
(Option.bind (L.toConf a1 a2 a3 a5 a6 a7 a8) fun r15 =>
(Option.bind (L.toPunctS a9) fun r16 =>
(Option.bind (L.toMarks a4 a10) fun r17 =>
(Option.bind (L.toCellS a11) fun r18 =>
(Option.bind (L.toIntS a12) fun r19 =>
(Option.bind (L.toIntS a13) fun r20 =>
(Option.bind (L.toBoxS a14) fun r21 =>
(some (r15.1, r15.2.1, r15.2.2.1, r17.1, r15.2.2.2.1, r15.2.2.2.2.1, r15.2.2.2.2.2.1, r15.2.2.2.2.2.2, r16, r17.2, r18, r19, r20, r21)))))))))
noncomputable def sg36 : Sg := ⟨⟨[.agg ((.hole) :: (.sl 0) :: (ho 2 [.sl 1, .sl 2, .sl 3, .sl 4, .hole, .sl 5, .sl 6, .sl 7, .sl 8, .sl 9]))], [], [(87, (.int .u64), .ro), (185, sh2, .ro), (194, sh3, .ro), (196, sh4, .ro), (235, sh5, .ro), (272, sh6, .ro), (93, sh7, .ro), (3, (.int .i64), .ro), (3, (.int .i64), .ro), (222, sh9, .ro)]⟩, (ki 4 [.row (.int .u64), .row sh2, .row sh3, .row sh4, .row sh5, .row sh6, .row sh7, .row (.int .i64), .row (.int .i64), .row sh9]), ⟨[.agg ((.hole) :: (.sl 0) :: (ho 2 [.sl 1, .sl 2, .sl 3, .sl 4, .hole, .sl 5, .sl 6, .sl 7, .sl 8, .sl 9]))], [], [(87, (.int .u64), .own), (190, sh10, .own), (126, sh3, .own), (159, sh4, .own), (156, sh5, .own), (225, sh6, .own), (105, sh7, .own), (3, (.int .i64), .own), (3, (.int .i64), .own), (122, sh11, .own)]⟩, (ki 4 [.row (.int .u64), .row sh10, .row sh3, .row sh4, .row sh5, .row sh6, .row sh7, .row (.int .i64), .row (.int .i64), .row sh11])⟩
noncomputable def E36 : Fun2 := eOf sg36 L.toEng
theorem ev36 (a : Args sg36.ks) : evS Tryz.prog G36 loopNil (0, 0) [] Tryz.f36 c36 (kOf sg36) (sg36.sk.fl (encP sg36.ks a)) = unc sg36.ks L.toEng a := by kernel_rfl
theorem good36 : Vm.Good Tryz.prog 36 E36 := good_gen (G := G36) (L := loopNil) (c := c36) (rn := []) (N := (0, 0)) (envCons_good good18 (envCons_good good102 (envCons_good good103 (envCons_good good10 (envCons_good good28 (envCons_good good104 envNil_good)))))) (no_loops (c := c36) (by kernel_rfl)) Tryz.func36 (by kernel_rfl) (by kernel_rfl) (fun _ => by kernel_rfl) ev36
noncomputable def G167 : Env := envNil
noncomputable def c167 : Code := bodyOf Tryz.f167
noncomputable def S.l01Bit (a1 a2 : Int) : Option Bool :=
(let v3 : Int := (IntKind.wrap .u64 a2)
(bif decide ((0 : Int) ≤ v3) then
(some ((Go.bits .and .u64 (Int.fdiv a1 (2 ^ min (Int.toNat v3) (IntKind.bits .u64))) 1) == 1))
else
none))
noncomputable def sg167 : Sg := ⟨⟨[hh, hh], [], []⟩, [.int .u64, .int .i64], ⟨[hh], [], []⟩, [.bool]⟩
noncomputable def E167 : Fun2 := eOf sg167 S.l01Bit
theorem ev167 (a : Args sg167.ks) : evS Tryz.prog G167 loopNil (0, 0) [] Tryz.f167 c167 (kOf sg167) (sg167.sk.fl (encP sg167.ks a)) = unc sg167.ks S.l01Bit a := by kernel_rfl
theorem good167 : Vm.Good Tryz.prog 167 E167 := good_gen (G := G167) (L := loopNil) (c := c167) (rn := []) (N := (0, 0)) envNil_good (no_loops (c := c167) (by kernel_rfl)) Tryz.func167 (by kernel_rfl) (by kernel_rfl) (fun _ => by kernel_rfl) ev167
noncomputable def G219 : Env := envNil
noncomputable def c219 : Code := bodyOf Tryz.f219
noncomputable def c219_2 : Code := (loopsOf c219).getD 0 .skip
noncomputable def S.l01Power_l0 : Nat → (Int → Option Int) → Int → Int → Option Int
  | 0, _, _, _ => none
  | m + 1, e2_0, a2, a3 =>
    (bif (decide (0 < a2)) then
    (S.l01Power_l0 m e2_0 (IntKind.wrap .i64 (a2 - 1)) (IntKind.wrap .u64 (2 * a3)))
    else
    (e2_0 a3))
noncomputable def S.l01Power (a1 : Int) : Option Int :=
(S.l01Power_l0 fu (fun y7 =>
(some y7)) a1 1)
noncomputable def H219_2 : LoopH := ⟨⟨(hh :: (hu 2 (hh :: (hu 7 [])))), [], []⟩, ([1, 2] ++ rg 4 7), [], ([0, 1] ++ rg 4 7), [], []⟩
noncomputable def k219_2 : List PK := [.int .i64, .int .u64]
noncomputable def W219_2 (m : Nat) (k : Kont Int) : Cur k219_2 (Option Int) := S.l01Power_l0 m (exF k (.exit 0) ⟨(hu 3 (hh :: (hu 7 []))), [], []⟩ [.int .u64])
noncomputable def E219_2 (m : Nat) : List Prm → Kont Int → Option Int := eL k219_2 (W219_2 m)
theorem ev219_2 (m : Nat) (k : Kont Int) (a : Args k219_2) : evL Tryz.prog G219 loopNil c219_2 (turn Tryz.prog (0, 0) H219_2 (E219_2 m) k) (H219_2.sk.fl (encP k219_2 a)) = unc k219_2 (W219_2 (m + 1) k) a := by kernel_rfl
theorem ok219_2 (m : Nat) : LoopOk Tryz.prog (0, 0) c219_2 (enter Tryz.prog (0, 0) H219_2 (E219_2 m)) := loop_gen (Fl := W219_2) (G := G219) (L := loopNil) envNil_good (no_loops (c := c219_2) (by kernel_rfl)) (fun _ _ => by kernel_rfl) ev219_2 m
noncomputable def L219 : LEnv Int := (loopCons 2 (enter Tryz.prog (0, 0) H219_2 (E219_2 fu)) loopNil)
theorem lq219 : loopsOf c219 = [c219_2] := by kernel_rfl
theorem fr219_2 : firstReg c219_2 = some 2 := by kernel_rfl
theorem le219_2 : L219 2 = enter Tryz.prog (0, 0) H219_2 (E219_2 fu) := by kernel_rfl
theorem lm219 : ∀ x ∈ [c219_2], ∀ id, firstReg x = some id → LoopOk Tryz.prog (0, 0) x (L219 id) := (loops_cons fr219_2 le219_2 (ok219_2 fu) loops_nil)
theorem lp219 : ∀ x ∈ loopsOf c219, ∀ id, firstReg x = some id → LoopOk Tryz.prog (0, 0) x (L219 id) := loops_eq lq219 lm219
noncomputable def sg219 : Sg := ⟨⟨[hh], [], []⟩, [.int .i64], ⟨[hh], [], []⟩, [.int .u64]⟩
noncomputable def E219 : Fun2 := eOf sg219 S.l01Power
theorem ev219 (a : Args sg219.ks) : evS Tryz.prog G219 L219 (0, 0) [] Tryz.f219 c219 (kOf sg219) (sg219.sk.fl (encP sg219.ks a)) = unc sg219.ks S.l01Power a := by kernel_rfl
theorem good219 : Vm.Good Tryz.prog 219 E219 := good_gen (G := G219) (L := L219) (c := c219) (rn := []) (N := (0, 0)) envNil_good lp219 Tryz.func219 (by kernel_rfl) (by kernel_rfl) (fun _ => by kernel_rfl) ev219
noncomputable def G202 : Env := (envCons 167 [] E167 envNil)
noncomputable def c202 : Code := bodyOf Tryz.f202
noncomputable def S.l01Side (a1 a2 a3 : Int) (a4 : Bool) (a5 : List Int) : Option Bool :=
(bif a4 then
(bif decide ((0 : Int) ≤ a2 ∧ a2 < (a5.length : Int)) then
(Option.bind (S.l01Bit (nthI a5 a2 (0 : Int)) a3) fun r6 =>
(some r6))
else
none)
else
(bif decide ((0 : Int) ≤ a3 ∧ a3 < (a5.length : Int)) then
(Option.bind (S.l01Bit (nthI a5 a3 (0 : Int)) a2) fun r7 =>
(some r7))
else
none))
noncomputable def sg202 : Sg := ⟨⟨[.agg [.hole, .sl 0], hh, hh, hh], [], [(87, (.int .u64), .ro)]⟩, (ki 3 [.bool, .row (.int .u64)]), ⟨[hh], [], []⟩, [.bool]⟩
noncomputable def E202 : Fun2 := eOf sg202 S.l01Side
theorem ev202 (a : Args sg202.ks) : evS Tryz.prog G202 loopNil (0, 0) [] Tryz.f202 c202 (kOf sg202) (sg202.sk.fl (encP sg202.ks a)) = unc sg202.ks S.l01Side a := by kernel_rfl
theorem good202 : Vm.Good Tryz.prog 202 E202 := good_gen (G := G202) (L := loopNil) (c := c202) (rn := []) (N := (0, 0)) (envCons_good good167 envNil_good) (no_loops (c := c202) (by kernel_rfl)) Tryz.func202 (by kernel_rfl) (by kernel_rfl) (fun _ => by kernel_rfl) ev202
noncomputable def G122 : Env := (envCons 202 [] E202 envNil)
noncomputable def c122 : Code := bodyOf Tryz.f122
noncomputable def c122_2 : Code := (loopsOf c122).getD 0 .skip
noncomputable def c122_6 : Code := (loopsOf c122_2).getD 0 .skip
noncomputable def S.l01Bound_l1 : Nat → (Int → Int → Bool → Int → Bool → Int → List Int → Option Int) → Int → Int → Bool → Int → Bool → Int → Int → List Int → Option Int
  | 0, _, _, _, _, _, _, _, _, _ => none
  | m + 1, e6_0, a15, a16, a17, a18, a19, a20, a21, a22 =>
    (bif (decide (a20 < a21)) then
    (bif a19 then
    (Option.bind (S.l01Side a21 a15 a20 a17 a22) fun r24 =>
    (bif r24 then
    (Option.bind (S.l01Side a21 a16 a20 a17 a22) fun r25 =>
    (bif r25 then
    (Option.bind (S.l01Side a21 a18 a20 a17 a22) fun r26 =>
    (bif (!r26) then
    (S.l01Bound_l1 m e6_0 a15 a16 a17 a18 false (IntKind.wrap .i64 (a20 + 1)) a21 a22)
    else
    (S.l01Bound_l1 m e6_0 a15 a16 a17 a18 a19 (IntKind.wrap .i64 (a20 + 1)) a21 a22)))
    else
    (S.l01Bound_l1 m e6_0 a15 a16 a17 a18 a19 (IntKind.wrap .i64 (a20 + 1)) a21 a22)))
    else
    (S.l01Bound_l1 m e6_0 a15 a16 a17 a18 a19 (IntKind.wrap .i64 (a20 + 1)) a21 a22)))
    else
    (e6_0 a15 a16 a17 a18 a19 a21 a22))
    else
    (e6_0 a15 a16 a17 a18 a19 a21 a22))
noncomputable def S.l01Bound_l0 : Nat → (Int → Option Int) → (Option Int) → Int → Int → Bool → Int → Int → List Int → Option Int
  | 0, _, _, _, _, _, _, _, _ => none
  | m + 1, e2_0, e2_1, a6, a7, a8, a9, a10, a11 =>
    (bif (decide (a9 < a10)) then
    (Option.bind (S.l01Side a10 a6 a9 a8 a11) fun r13 =>
    (bif r13 then
    (Option.bind (S.l01Side a10 a7 a9 a8 a11) fun r14 =>
    (S.l01Bound_l1 fu (fun y31 y32 y33 y34 y35 y36 y37 =>
    (bif y35 then
    (e2_0 y34)
    else
    (S.l01Bound_l0 m e2_0 e2_1 y31 y32 y33 (IntKind.wrap .i64 (y34 + 1)) y36 y37))) a6 a7 a8 a9 r14 0 a10 a11))
    else
    (S.l01Bound_l1 fu (fun y39 y40 y41 y42 y43 y44 y45 =>
    (bif y43 then
    (e2_0 y42)
    else
    (S.l01Bound_l0 m e2_0 e2_1 y39 y40 y41 (IntKind.wrap .i64 (y42 + 1)) y44 y45))) a6 a7 a8 a9 false 0 a10 a11)))
    else
    e2_1)
noncomputable def S.l01Bound (a1 a2 a3 : Int) (a4 : Bool) (a5 : List Int) : Option Int :=
(S.l01Bound_l0 fu (fun y47 =>
(some y47)) (some (-1)) a2 a3 a4 0 a1 a5)
noncomputable def H122_6 : LoopH := ⟨⟨((.one (.unk)) :: hh :: hh :: hh :: (.one (.ptr 0 0)) :: (hu 4 (hh :: hh :: hh :: (hu 49 [])))), [(44, [.hole, .sl 0])], [(87, (.int .u64), .ro)]⟩, ([0] ++ rg 5 4 ++ rg 12 49), [], ([0, 5, 6, 7] ++ rg 11 50), [], []⟩
noncomputable def k122_6 : List PK := (ki 2 ((.bool) :: (.int .i64) :: (.bool) :: (ki 2 [.row (.int .u64)])))
noncomputable def W122_6 (m : Nat) (k : Kont Int) : Cur k122_6 (Option Int) := S.l01Bound_l1 m (exF k (.exit 2) ⟨((.one (.unk)) :: hh :: hh :: hh :: (.one (.ptr 0 0)) :: (hu 4 (hh :: hh :: (hu 50 [])))), [(44, [.hole, .sl 0])], [(87, (.int .u64), .ro)]⟩ (ki 2 [.bool, .int .i64, .bool, .int .i64, .row (.int .u64)]))
noncomputable def E122_6 (m : Nat) : List Prm → Kont Int → Option Int := eL k122_6 (W122_6 m)
theorem ev122_6 (m : Nat) (k : Kont Int) (a : Args k122_6) : evL Tryz.prog G122 loopNil c122_6 (turn Tryz.prog (0, 0) H122_6 (E122_6 m) k) (H122_6.sk.fl (encP k122_6 a)) = unc k122_6 (W122_6 (m + 1) k) a := by kernel_rfl
theorem ok122_6 (m : Nat) : LoopOk Tryz.prog (0, 0) c122_6 (enter Tryz.prog (0, 0) H122_6 (E122_6 m)) := loop_gen (Fl := W122_6) (G := G122) (L := loopNil) (envCons_good good202 envNil_good) (no_loops (c := c122_6) (by kernel_rfl)) (fun _ _ => by kernel_rfl) ev122_6 m
noncomputable def L122_2 : LEnv Int := (loopCons 6 (enter Tryz.prog (0, 0) H122_6 (E122_6 fu)) loopNil)
theorem lq122_2 : loopsOf c122_2 = [c122_6] := by kernel_rfl
theorem fr122_6 : firstReg c122_6 = some 6 := by kernel_rfl
theorem le122_6 : L122_2 6 = enter Tryz.prog (0, 0) H122_6 (E122_6 fu) := by kernel_rfl
theorem lm122_2 : ∀ x ∈ [c122_6], ∀ id, firstReg x = some id → LoopOk Tryz.prog (0, 0) x (L122_2 id) := (loops_cons fr122_6 le122_6 (ok122_6 fu) loops_nil)
theorem lp122_2 : ∀ x ∈ loopsOf c122_2, ∀ id, firstReg x = some id → LoopOk Tryz.prog (0, 0) x (L122_2 id) := loops_eq lq122_2 lm122_2
noncomputable def H122_2 : LoopH := ⟨⟨((.one (.unk)) :: hh :: hh :: hh :: (.one (.ptr 0 0)) :: (hu 4 (hh :: (hu 51 [])))), [(44, [.hole, .sl 0])], [(87, (.int .u64), .ro)]⟩, ([0] ++ rg 5 4 ++ rg 10 51), [], (rg 0 8 ++ rg 9 52), [], []⟩
noncomputable def k122_2 : List PK := (ki 2 ((.bool) :: (ki 2 [.row (.int .u64)])))
noncomputable def W122_2 (m : Nat) (k : Kont Int) : Cur k122_2 (Option Int) := S.l01Bound_l0 m (exF k .ret ⟨(hu 8 (hh :: (hu 52 []))), [], []⟩ [.int .i64]) (exF k (.exit 0) ⟨(hu 61 []), [], []⟩ [])
noncomputable def E122_2 (m : Nat) : List Prm → Kont Int → Option Int := eL k122_2 (W122_2 m)
theorem ev122_2 (m : Nat) (k : Kont Int) (a : Args k122_2) : evL Tryz.prog G122 L122_2 c122_2 (turn Tryz.prog (0, 0) H122_2 (E122_2 m) k) (H122_2.sk.fl (encP k122_2 a)) = unc k122_2 (W122_2 (m + 1) k) a := by kernel_rfl
theorem ok122_2 (m : Nat) : LoopOk Tryz.prog (0, 0) c122_2 (enter Tryz.prog (0, 0) H122_2 (E122_2 m)) := loop_gen (Fl := W122_2) (G := G122) (L := L122_2) (envCons_good good202 envNil_good) lp122_2 (fun _ _ => by kernel_rfl) ev122_2 m
noncomputable def L122 : LEnv Int := (loopCons 2 (enter Tryz.prog (0, 0) H122_2 (E122_2 fu)) loopNil)
theorem lq122 : loopsOf c122 = [c122_2] := by kernel_rfl
theorem fr122_2 : firstReg c122_2 = some 2 := by kernel_rfl
theorem le122_2 : L122 2 = enter Tryz.prog (0, 0) H122_2 (E122_2 fu) := by kernel_rfl
theorem lm122 : ∀ x ∈ [c122_2], ∀ id, firstReg x = some id → LoopOk Tryz.prog (0, 0) x (L122 id) := (loops_cons fr122_2 le122_2 (ok122_2 fu) loops_nil)
theorem lp122 : ∀ x ∈ loopsOf c122, ∀ id, firstReg x = some id → LoopOk Tryz.prog (0, 0) x (L122 id) := loops_eq lq122 lm122
noncomputable def sg122 : Sg := ⟨⟨[.agg [.hole, .sl 0], hh, hh, hh], [], [(87, (.int .u64), .ro)]⟩, (ki 3 [.bool, .row (.int .u64)]), ⟨[hh], [], []⟩, [.int .i64]⟩
noncomputable def E122 : Fun2 := eOf sg122 S.l01Bound
theorem ev122 (a : Args sg122.ks) : evS Tryz.prog G122 L122 (0, 0) [] Tryz.f122 c122 (kOf sg122) (sg122.sk.fl (encP sg122.ks a)) = unc sg122.ks S.l01Bound a := by kernel_rfl
theorem good122 : Vm.Good Tryz.prog 122 E122 := good_gen (G := G122) (L := L122) (c := c122) (rn := []) (N := (0, 0)) (envCons_good good202 envNil_good) lp122 Tryz.func122 (by kernel_rfl) (by kernel_rfl) (fun _ => by kernel_rfl) ev122
noncomputable def G138 : Env := (envCons 167 [] E167 (envCons 219 [] E219 (envCons 122 [] E122 envNil)))
noncomputable def c138 : Code := bodyOf Tryz.f138
noncomputable def c138_4 : Code := (loopsOf c138).getD 0 .skip
noncomputable def c138_9 : Code := (loopsOf c138_4).getD 0 .skip
noncomputable def c138_14 : Code := (loopsOf c138_9).getD 0 .skip
noncomputable def c138_19 : Code := (loopsOf c138).getD 1 .skip
noncomputable def c138_22 : Code := (loopsOf c138_19).getD 0 .skip
noncomputable def S.LatOk_l2 : Nat → (Bool → Int → Int → Int → List Int → Option Bool) → (Int → Int → Int → List Int → Option Bool) → Int → Int → Int → Int → List Int → Option Bool
  | 0, _, _, _, _, _, _, _ => none
  | m + 1, e14_0, e14_1, a20, a21, a22, a23, a24 =>
    (bif (decide (a22 < a23)) then
    (bif decide ((0 : Int) ≤ a20 ∧ a20 < (a24.length : Int)) then
    (Option.bind (S.l01Bit (nthI a24 a20 (0 : Int)) a21) fun r26 =>
    (bif r26 then
    (bif decide ((0 : Int) ≤ a21 ∧ a21 < (a24.length : Int)) then
    (Option.bind (S.l01Bit (nthI a24 a21 (0 : Int)) a22) fun r27 =>
    (bif r27 then
    (bif decide ((0 : Int) ≤ a20 ∧ a20 < (a24.length : Int)) then
    (Option.bind (S.l01Bit (nthI a24 a20 (0 : Int)) a22) fun r28 =>
    (bif (!r28) then
    (e14_0 false a20 a21 a23 a24)
    else
    (S.LatOk_l2 m e14_0 e14_1 a20 a21 (IntKind.wrap .i64 (a22 + 1)) a23 a24)))
    else
    none)
    else
    (S.LatOk_l2 m e14_0 e14_1 a20 a21 (IntKind.wrap .i64 (a22 + 1)) a23 a24)))
    else
    none)
    else
    (S.LatOk_l2 m e14_0 e14_1 a20 a21 (IntKind.wrap .i64 (a22 + 1)) a23 a24)))
    else
    none)
    else
    (e14_1 a20 a21 a23 a24))
noncomputable def S.LatOk_l1 : Nat → (Bool → Int → Int → List Int → Option Bool) → (Int → Int → List Int → Option Bool) → Int → Int → Int → List Int → Option Bool
  | 0, _, _, _, _, _, _ => none
  | m + 1, e9_0, e9_1, a13, a14, a15, a16 =>
    (bif (decide (a14 < a15)) then
    (bif (a13 != a14) then
    (bif decide ((0 : Int) ≤ a13 ∧ a13 < (a16.length : Int)) then
    (Option.bind (S.l01Bit (nthI a16 a13 (0 : Int)) a14) fun r18 =>
    (bif r18 then
    (bif decide ((0 : Int) ≤ a14 ∧ a14 < (a16.length : Int)) then
    (Option.bind (S.l01Bit (nthI a16 a14 (0 : Int)) a13) fun r19 =>
    (bif r19 then
    (e9_0 false a13 a15 a16)
    else
    (S.LatOk_l2 fu (fun y32 y33 y34 y35 y36 =>
    (e9_0 y32 y33 y35 y36)) (fun y37 y38 y39 y40 =>
    (S.LatOk_l1 m e9_0 e9_1 y37 (IntKind.wrap .i64 (y38 + 1)) y39 y40)) a13 a14 0 a15 a16)))
    else
    none)
    else
    (S.LatOk_l2 fu (fun y42 y43 y44 y45 y46 =>
    (e9_0 y42 y43 y45 y46)) (fun y47 y48 y49 y50 =>
    (S.LatOk_l1 m e9_0 e9_1 y47 (IntKind.wrap .i64 (y48 + 1)) y49 y50)) a13 a14 0 a15 a16)))
    else
    none)
    else
    (S.LatOk_l2 fu (fun y52 y53 y54 y55 y56 =>
    (e9_0 y52 y53 y55 y56)) (fun y57 y58 y59 y60 =>
    (S.LatOk_l1 m e9_0 e9_1 y57 (IntKind.wrap .i64 (y58 + 1)) y59 y60)) a13 a14 0 a15 a16))
    else
    (e9_1 a13 a15 a16))
noncomputable def S.LatOk_l0 : Nat → (Bool → Int → List Int → Option Bool) → (Int → List Int → Option Bool) → Int → Int → List Int → Option Bool
  | 0, _, _, _, _, _ => none
  | m + 1, e4_0, e4_1, a6, a7, a8 =>
    (bif (decide (a6 < a7)) then
    (bif decide ((0 : Int) ≤ a6 ∧ a6 < (a8.length : Int)) then
    (Option.bind (S.l01Bit (nthI a8 a6 (0 : Int)) a6) fun r10 =>
    (bif (!r10) then
    (e4_0 false a7 a8)
    else
    (bif decide ((0 : Int) ≤ a6 ∧ a6 < (a8.length : Int)) then
    (Option.bind (S.l01Power a7) fun r11 =>
    (bif (decide (r11 ≤ (nthI a8 a6 (0 : Int)))) then
    (e4_0 false a7 a8)
    else
    (S.LatOk_l1 fu (fun y62 y63 y64 y65 =>
    (e4_0 y62 y64 y65)) (fun y66 y67 y68 =>
    (S.LatOk_l0 m e4_0 e4_1 (IntKind.wrap .i64 (y66 + 1)) y67 y68)) a6 0 a7 a8)))
    else
    none)))
    else
    none)
    else
    (e4_1 a7 a8))
noncomputable def S.LatOk_l4 : Nat → (Bool → Int → Int → List Int → Option Bool) → (Int → Int → List Int → Option Bool) → Int → Int → Int → List Int → Option Bool
  | 0, _, _, _, _, _, _ => none
  | m + 1, e22_0, e22_1, a79, a80, a81, a82 =>
    (bif (decide (a80 < a79)) then
    (Option.bind (S.l01Bound a81 a79 a80 true a82) fun r84 =>
    (bif (decide (r84 < 0)) then
    (e22_0 false a79 a81 a82)
    else
    (Option.bind (S.l01Bound a81 a79 a80 false a82) fun r86 =>
    (bif (decide (r86 < 0)) then
    (e22_0 false a79 a81 a82)
    else
    (S.LatOk_l4 m e22_0 e22_1 a79 (IntKind.wrap .i64 (a80 + 1)) a81 a82)))))
    else
    (e22_1 a79 a81 a82))
noncomputable def S.LatOk_l3 : Nat → (Bool → Option Bool) → (Option Bool) → Int → Int → List Int → Option Bool
  | 0, _, _, _, _, _ => none
  | m + 1, e19_0, e19_1, a75, a76, a77 =>
    (bif (decide (a75 < a76)) then
    (S.LatOk_l4 fu (fun y89 y90 y91 y92 =>
    (e19_0 y89)) (fun y93 y94 y95 =>
    (S.LatOk_l3 m e19_0 e19_1 (IntKind.wrap .i64 (y93 + 1)) y94 y95)) a75 0 a76 a77)
    else
    e19_1)
noncomputable def S.LatOk (a1 : Int) (a2 : List Int) : Option Bool :=
(bif (decide (a1 < 1)) then
(some false)
else
(bif (decide (16 < a1)) then
(some false)
else
(bif ((a2.length : Int) != a1) then
(some false)
else
(S.LatOk_l0 fu (fun y70 y71 y72 =>
(some y70)) (fun y73 y74 =>
(S.LatOk_l3 fu (fun y97 =>
(some y97)) (some true) 0 y73 y74)) 0 a1 a2))))
noncomputable def H138_14 : LoopH := ⟨⟨((.one (.unk)) :: (.one (.ptr 0 0)) :: (.one (.unk)) :: hh :: hh :: hh :: (hu 125 [])), [(44, [.hole, .sl 0])], [(87, (.int .u64), .ro)]⟩, ([0, 2] ++ rg 6 125), [], ([0] ++ rg 5 126), [], []⟩
noncomputable def k138_14 : List PK := (ki 4 [.row (.int .u64)])
noncomputable def W138_14 (m : Nat) (k : Kont Bool) : Cur k138_14 (Option Bool) := S.LatOk_l2 m (exF k .ret ⟨((.one (.unk)) :: (.one (.ptr 0 0)) :: hh :: hh :: hh :: (hu 126 [])), [(44, [.hole, .sl 0])], [(87, (.int .u64), .ro)]⟩ ((.bool) :: (ki 3 [.row (.int .u64)]))) (exF k (.exit 4) ⟨((.one (.unk)) :: (.one (.ptr 0 0)) :: (.one (.unk)) :: hh :: hh :: (hu 126 [])), [(44, [.hole, .sl 0])], [(87, (.int .u64), .ro)]⟩ (ki 3 [.row (.int .u64)]))
noncomputable def E138_14 (m : Nat) : List Prm → Kont Bool → Option Bool := eL k138_14 (W138_14 m)
theorem ev138_14 (m : Nat) (k : Kont Bool) (a : Args k138_14) : evL Tryz.prog G138 loopNil c138_14 (turn Tryz.prog (0, 0) H138_14 (E138_14 m) k) (H138_14.sk.fl (encP k138_14 a)) = unc k138_14 (W138_14 (m + 1) k) a := by kernel_rfl
theorem ok138_14 (m : Nat) : LoopOk Tryz.prog (0, 0) c138_14 (enter Tryz.prog (0, 0) H138_14 (E138_14 m)) := loop_gen (Fl := W138_14) (G := G138) (L := loopNil) (envCons_good good167 (envCons_good good219 (envCons_good good122 envNil_good))) (no_loops (c := c138_14) (by kernel_rfl)) (fun _ _ => by kernel_rfl) ev138_14 m
noncomputable def L138_9 : LEnv Bool := (loopCons 14 (enter Tryz.prog (0, 0) H138_14 (E138_14 fu)) loopNil)
theorem lq138_9 : loopsOf c138_9 = [c138_14] := by kernel_rfl
theorem fr138_14 : firstReg c138_14 = some 14 := by kernel_rfl
theorem le138_14 : L138_9 14 = enter Tryz.prog (0, 0) H138_14 (E138_14 fu) := by kernel_rfl
theorem lm138_9 : ∀ x ∈ [c138_14], ∀ id, firstReg x = some id → LoopOk Tryz.prog (0, 0) x (L138_9 id) := (loops_cons fr138_14 le138_14 (ok138_14 fu) loops_nil)
theorem lp138_9 : ∀ x ∈ loopsOf c138_9, ∀ id, firstReg x = some id → LoopOk Tryz.prog (0, 0) x (L138_9 id) := loops_eq lq138_9 lm138_9
noncomputable def H138_9 : LoopH := ⟨⟨((.one (.unk)) :: (.one (.ptr 0 0)) :: (.one (.unk)) :: hh :: hh :: (hu 126 [])), [(44, [.hole, .sl 0])], [(87, (.int .u64), .ro)]⟩, ([0, 2] ++ rg 5 126), [], ([0] ++ rg 4 127), [], []⟩
noncomputable def k138_9 : List PK := (ki 3 [.row (.int .u64)])
noncomputable def W138_9 (m : Nat) (k : Kont Bool) : Cur k138_9 (Option Bool) := S.LatOk_l1 m (exF k .ret ⟨((.one (.unk)) :: (.one (.ptr 0 0)) :: hh :: hh :: (hu 127 [])), [(44, [.hole, .sl 0])], [(87, (.int .u64), .ro)]⟩ ((.bool) :: (ki 2 [.row (.int .u64)]))) (exF k (.exit 2) ⟨((.one (.unk)) :: (.one (.ptr 0 0)) :: (.one (.unk)) :: hh :: (hu 127 [])), [(44, [.hole, .sl 0])], [(87, (.int .u64), .ro)]⟩ (ki 2 [.row (.int .u64)]))
noncomputable def E138_9 (m : Nat) : List Prm → Kont Bool → Option Bool := eL k138_9 (W138_9 m)
theorem ev138_9 (m : Nat) (k : Kont Bool) (a : Args k138_9) : evL Tryz.prog G138 L138_9 c138_9 (turn Tryz.prog (0, 0) H138_9 (E138_9 m) k) (H138_9.sk.fl (encP k138_9 a)) = unc k138_9 (W138_9 (m + 1) k) a := by kernel_rfl
theorem ok138_9 (m : Nat) : LoopOk Tryz.prog (0, 0) c138_9 (enter Tryz.prog (0, 0) H138_9 (E138_9 m)) := loop_gen (Fl := W138_9) (G := G138) (L := L138_9) (envCons_good good167 (envCons_good good219 (envCons_good good122 envNil_good))) lp138_9 (fun _ _ => by kernel_rfl) ev138_9 m
noncomputable def L138_4 : LEnv Bool := (loopCons 9 (enter Tryz.prog (0, 0) H138_9 (E138_9 fu)) loopNil)
theorem lq138_4 : loopsOf c138_4 = [c138_9] := by kernel_rfl
theorem fr138_9 : firstReg c138_9 = some 9 := by kernel_rfl
theorem le138_9 : L138_4 9 = enter Tryz.prog (0, 0) H138_9 (E138_9 fu) := by kernel_rfl
theorem lm138_4 : ∀ x ∈ [c138_9], ∀ id, firstReg x = some id → LoopOk Tryz.prog (0, 0) x (L138_4 id) := (loops_cons fr138_9 le138_9 (ok138_9 fu) loops_nil)
theorem lp138_4 : ∀ x ∈ loopsOf c138_4, ∀ id, firstReg x = some id → LoopOk Tryz.prog (0, 0) x (L138_4 id) := loops_eq lq138_4 lm138_4
noncomputable def H138_4 : LoopH := ⟨⟨((.one (.unk)) :: (.one (.ptr 0 0)) :: (.one (.unk)) :: hh :: (hu 127 [])), [(44, [.hole, .sl 0])], [(87, (.int .u64), .ro)]⟩, ([0, 2] ++ rg 4 127), [], ([0] ++ rg 3 128), [], []⟩
noncomputable def k138_4 : List PK := (ki 2 [.row (.int .u64)])
noncomputable def W138_4 (m : Nat) (k : Kont Bool) : Cur k138_4 (Option Bool) := S.LatOk_l0 m (exF k .ret ⟨((.one (.unk)) :: (.one (.ptr 0 0)) :: hh :: (hu 128 [])), [(44, [.hole, .sl 0])], [(87, (.int .u64), .ro)]⟩ [.bool, .int .i64, .row (.int .u64)]) (exF k (.exit 0) ⟨((.one (.unk)) :: (.one (.ptr 0 0)) :: (hu 129 [])), [(44, [.hole, .sl 0])], [(87, (.int .u64), .ro)]⟩ [.int .i64, .row (.int .u64)])
noncomputable def E138_4 (m : Nat) : List Prm → Kont Bool → Option Bool := eL k138_4 (W138_4 m)
theorem ev138_4 (m : Nat) (k : Kont Bool) (a : Args k138_4) : evL Tryz.prog G138 L138_4 c138_4 (turn Tryz.prog (0, 0) H138_4 (E138_4 m) k) (H138_4.sk.fl (encP k138_4 a)) = unc k138_4 (W138_4 (m + 1) k) a := by kernel_rfl
theorem ok138_4 (m : Nat) : LoopOk Tryz.prog (0, 0) c138_4 (enter Tryz.prog (0, 0) H138_4 (E138_4 m)) := loop_gen (Fl := W138_4) (G := G138) (L := L138_4) (envCons_good good167 (envCons_good good219 (envCons_good good122 envNil_good))) lp138_4 (fun _ _ => by kernel_rfl) ev138_4 m
noncomputable def H138_22 : LoopH := ⟨⟨((.one (.unk)) :: (.one (.ptr 0 0)) :: (hu 4 (hh :: hh :: (hu 123 [])))), [(44, [.hole, .sl 0])], [(87, (.int .u64), .ro)]⟩, ([0] ++ rg 2 4 ++ rg 8 123), [], ([0, 3, 4, 5] ++ rg 7 124), [], []⟩
noncomputable def k138_22 : List PK := (ki 3 [.row (.int .u64)])
noncomputable def W138_22 (m : Nat) (k : Kont Bool) : Cur k138_22 (Option Bool) := S.LatOk_l4 m (exF k .ret ⟨((.one (.unk)) :: (.one (.ptr 0 0)) :: hh :: (hu 3 (hh :: (hu 124 [])))), [(44, [.hole, .sl 0])], [(87, (.int .u64), .ro)]⟩ ((.bool) :: (ki 2 [.row (.int .u64)]))) (exF k (.exit 8) ⟨((.one (.unk)) :: (.one (.ptr 0 0)) :: (hu 4 (hh :: (hu 124 [])))), [(44, [.hole, .sl 0])], [(87, (.int .u64), .ro)]⟩ (ki 2 [.row (.int .u64)]))
noncomputable def E138_22 (m : Nat) : List Prm → Kont Bool → Option Bool := eL k138_22 (W138_22 m)
theorem ev138_22 (m : Nat) (k : Kont Bool) (a : Args k138_22) : evL Tryz.prog G138 loopNil c138_22 (turn Tryz.prog (0, 0) H138_22 (E138_22 m) k) (H138_22.sk.fl (encP k138_22 a)) = unc k138_22 (W138_22 (m + 1) k) a := by kernel_rfl
theorem ok138_22 (m : Nat) : LoopOk Tryz.prog (0, 0) c138_22 (enter Tryz.prog (0, 0) H138_22 (E138_22 m)) := loop_gen (Fl := W138_22) (G := G138) (L := loopNil) (envCons_good good167 (envCons_good good219 (envCons_good good122 envNil_good))) (no_loops (c := c138_22) (by kernel_rfl)) (fun _ _ => by kernel_rfl) ev138_22 m
noncomputable def L138_19 : LEnv Bool := (loopCons 22 (enter Tryz.prog (0, 0) H138_22 (E138_22 fu)) loopNil)
theorem lq138_19 : loopsOf c138_19 = [c138_22] := by kernel_rfl
theorem fr138_22 : firstReg c138_22 = some 22 := by kernel_rfl
theorem le138_22 : L138_19 22 = enter Tryz.prog (0, 0) H138_22 (E138_22 fu) := by kernel_rfl
theorem lm138_19 : ∀ x ∈ [c138_22], ∀ id, firstReg x = some id → LoopOk Tryz.prog (0, 0) x (L138_19 id) := (loops_cons fr138_22 le138_22 (ok138_22 fu) loops_nil)
theorem lp138_19 : ∀ x ∈ loopsOf c138_19, ∀ id, firstReg x = some id → LoopOk Tryz.prog (0, 0) x (L138_19 id) := loops_eq lq138_19 lm138_19
noncomputable def H138_19 : LoopH := ⟨⟨((.one (.unk)) :: (.one (.ptr 0 0)) :: (hu 4 (hh :: (hu 124 [])))), [(44, [.hole, .sl 0])], [(87, (.int .u64), .ro)]⟩, ([0] ++ rg 2 4 ++ rg 7 124), [], ([0, 1] ++ rg 3 128), [], []⟩
noncomputable def k138_19 : List PK := (ki 2 [.row (.int .u64)])
noncomputable def W138_19 (m : Nat) (k : Kont Bool) : Cur k138_19 (Option Bool) := S.LatOk_l3 m (exF k .ret ⟨(hu 2 (hh :: (hu 128 []))), [], []⟩ [.bool]) (exF k (.exit 6) ⟨(hu 131 []), [], []⟩ [])
noncomputable def E138_19 (m : Nat) : List Prm → Kont Bool → Option Bool := eL k138_19 (W138_19 m)
theorem ev138_19 (m : Nat) (k : Kont Bool) (a : Args k138_19) : evL Tryz.prog G138 L138_19 c138_19 (turn Tryz.prog (0, 0) H138_19 (E138_19 m) k) (H138_19.sk.fl (encP k138_19 a)) = unc k138_19 (W138_19 (m + 1) k) a := by kernel_rfl
theorem ok138_19 (m : Nat) : LoopOk Tryz.prog (0, 0) c138_19 (enter Tryz.prog (0, 0) H138_19 (E138_19 m)) := loop_gen (Fl := W138_19) (G := G138) (L := L138_19) (envCons_good good167 (envCons_good good219 (envCons_good good122 envNil_good))) lp138_19 (fun _ _ => by kernel_rfl) ev138_19 m
noncomputable def L138 : LEnv Bool := (loopCons 4 (enter Tryz.prog (0, 0) H138_4 (E138_4 fu)) (loopCons 19 (enter Tryz.prog (0, 0) H138_19 (E138_19 fu)) loopNil))
theorem lq138 : loopsOf c138 = [c138_4, c138_19] := by kernel_rfl
theorem fr138_4 : firstReg c138_4 = some 4 := by kernel_rfl
theorem le138_4 : L138 4 = enter Tryz.prog (0, 0) H138_4 (E138_4 fu) := by kernel_rfl
theorem fr138_19 : firstReg c138_19 = some 19 := by kernel_rfl
theorem le138_19 : L138 19 = enter Tryz.prog (0, 0) H138_19 (E138_19 fu) := by kernel_rfl
theorem lm138 : ∀ x ∈ [c138_4, c138_19], ∀ id, firstReg x = some id → LoopOk Tryz.prog (0, 0) x (L138 id) := (loops_cons fr138_4 le138_4 (ok138_4 fu) (loops_cons fr138_19 le138_19 (ok138_19 fu) loops_nil))
theorem lp138 : ∀ x ∈ loopsOf c138, ∀ id, firstReg x = some id → LoopOk Tryz.prog (0, 0) x (L138 id) := loops_eq lq138 lm138
noncomputable def sg138 : Sg := ⟨⟨[.agg [.hole, .sl 0]], [], [(87, (.int .u64), .ro)]⟩, [.int .i64, .row (.int .u64)], ⟨[hh], [], []⟩, [.bool]⟩
noncomputable def E138 : Fun2 := eOf sg138 S.LatOk
theorem ev138 (a : Args sg138.ks) : evS Tryz.prog G138 L138 (0, 0) [] Tryz.f138 c138 (kOf sg138) (sg138.sk.fl (encP sg138.ks a)) = unc sg138.ks S.LatOk a := by kernel_rfl
theorem good138 : Vm.Good Tryz.prog 138 E138 := good_gen (G := G138) (L := L138) (c := c138) (rn := []) (N := (0, 0)) (envCons_good good167 (envCons_good good219 (envCons_good good122 envNil_good))) lp138 Tryz.func138 (by kernel_rfl) (by kernel_rfl) (fun _ => by kernel_rfl) ev138
noncomputable def G299 : Env := envNil
noncomputable def c299 : Code := bodyOf Tryz.f299
noncomputable def S.l03Takes (a1 : Int) : Option Int :=
(bif (decide (a1 ≤ 3)) then
(some 0)
else
(bif (a1 == 11) then
(some 1)
else
(some 2)))
noncomputable def sg299 : Sg := ⟨⟨[hh], [], []⟩, [.int .i64], ⟨[hh], [], []⟩, [.int .i64]⟩
noncomputable def E299 : Fun2 := eOf sg299 S.l03Takes
theorem ev299 (a : Args sg299.ks) : evS Tryz.prog G299 loopNil (0, 0) [] Tryz.f299 c299 (kOf sg299) (sg299.sk.fl (encP sg299.ks a)) = unc sg299.ks S.l03Takes a := by kernel_rfl
theorem good299 : Vm.Good Tryz.prog 299 E299 := good_gen (G := G299) (L := loopNil) (c := c299) (rn := []) (N := (0, 0)) envNil_good (no_loops (c := c299) (by kernel_rfl)) Tryz.func299 (by kernel_rfl) (by kernel_rfl) (fun _ => by kernel_rfl) ev299
noncomputable def G269 : Env := (envCons 299 [] E299 envNil)
noncomputable def c269 : Code := bodyOf Tryz.f269
noncomputable def c269_6 : Code := (loopsOf c269).getD 0 .skip
noncomputable def S.l03Depth_l0 : Nat → (Int → Int → Int → Option Int) → (Int → Int → Option Int) → Int → Int → Int → (List (Int × Int)) → Option Int
  | 0, _, _, _, _, _, _ => none
  | m + 1, e6_0, e6_1, a6, a7, a8, a9 =>
    (bif (decide (a8 < (a9.length : Int))) then
    (bif decide ((0 : Int) ≤ a8 ∧ a8 < (a9.length : Int)) then
    (bif (decide ((nthI a9 a8 df2).1 < 0)) then
    (e6_0 (-1) a6 a7)
    else
    (bif decide ((0 : Int) ≤ a8 ∧ a8 < (a9.length : Int)) then
    (bif (decide (11 < (nthI a9 a8 df2).1)) then
    (e6_0 (-1) a6 a7)
    else
    (bif decide ((0 : Int) ≤ a8 ∧ a8 < (a9.length : Int)) then
    (bif ((nthI a9 a8 df2).1 != 0) then
    (bif decide ((0 : Int) ≤ a8 ∧ a8 < (a9.length : Int)) then
    (bif ((nthI a9 a8 df2).2 != 0) then
    (e6_0 (-1) a6 a7)
    else
    (bif decide ((0 : Int) ≤ a8 ∧ a8 < (a9.length : Int)) then
    (Option.bind (S.l03Takes ((nthI a9 a8 df2).1)) fun r16 =>
    (bif (decide (a6 < r16)) then
    (e6_0 (-1) a6 a7)
    else
    (bif decide ((0 : Int) ≤ a8 ∧ a8 < (a9.length : Int)) then
    (Option.bind (S.l03Takes ((nthI a9 a8 df2).1)) fun r18 =>
    (let v20 : Int := (IntKind.wrap .i64 ((IntKind.wrap .i64 (a6 - r18)) + 1))
    (S.l03Depth_l0 m e6_0 e6_1 v20 (if v20 > a7 then v20 else a7) (IntKind.wrap .i64 (a8 + 1)) a9)))
    else
    none)))
    else
    none))
    else
    none)
    else
    (bif decide ((0 : Int) ≤ a8 ∧ a8 < (a9.length : Int)) then
    (Option.bind (S.l03Takes ((nthI a9 a8 df2).1)) fun r23 =>
    (bif (decide (a6 < r23)) then
    (e6_0 (-1) a6 a7)
    else
    (bif decide ((0 : Int) ≤ a8 ∧ a8 < (a9.length : Int)) then
    (Option.bind (S.l03Takes ((nthI a9 a8 df2).1)) fun r25 =>
    (let v27 : Int := (IntKind.wrap .i64 ((IntKind.wrap .i64 (a6 - r25)) + 1))
    (S.l03Depth_l0 m e6_0 e6_1 v27 (if v27 > a7 then v27 else a7) (IntKind.wrap .i64 (a8 + 1)) a9)))
    else
    none)))
    else
    none))
    else
    none))
    else
    none))
    else
    none)
    else
    (e6_1 a6 a7))
noncomputable def S.l03Depth (a1 : List (Int × Int)) : Option Int :=
(bif (decide ((a1.length : Int) < 1)) then
(some (-1))
else
(bif (decide (20 < (a1.length : Int))) then
(some (-1))
else
(S.l03Depth_l0 fu (fun y30 y31 y32 =>
(some y30)) (fun y33 y34 =>
(bif (y33 != 1) then
(some (-1))
else
(some y34))) 0 0 0 a1)))
noncomputable def H269_6 : LoopH := ⟨⟨((.one (.sl 0)) :: (hu 2 (hh :: hh :: hh :: (hu 69 [])))), [], [(255, sh1, .ro)]⟩, ([1, 2] ++ rg 6 69), [], ([0, 1] ++ rg 5 70), [], []⟩
noncomputable def k269_6 : List PK := (ki 3 [.row sh1])
noncomputable def W269_6 (m : Nat) (k : Kont Int) : Cur k269_6 (Option Int) := S.l03Depth_l0 m (exF k .ret ⟨(hu 2 (hh :: hh :: hh :: (hu 70 []))), [], []⟩ (ki 3 [])) (exF k (.exit 0) ⟨(hu 3 (hh :: hh :: (hu 70 []))), [], []⟩ (ki 2 []))
noncomputable def E269_6 (m : Nat) : List Prm → Kont Int → Option Int := eL k269_6 (W269_6 m)
theorem ev269_6 (m : Nat) (k : Kont Int) (a : Args k269_6) : evL Tryz.prog G269 loopNil c269_6 (turn Tryz.prog (0, 0) H269_6 (E269_6 m) k) (H269_6.sk.fl (encP k269_6 a)) = unc k269_6 (W269_6 (m + 1) k) a := by kernel_rfl
theorem ok269_6 (m : Nat) : LoopOk Tryz.prog (0, 0) c269_6 (enter Tryz.prog (0, 0) H269_6 (E269_6 m)) := loop_gen (Fl := W269_6) (G := G269) (L := loopNil) (envCons_good good299 envNil_good) (no_loops (c := c269_6) (by kernel_rfl)) (fun _ _ => by kernel_rfl) ev269_6 m
noncomputable def L269 : LEnv Int := (loopCons 6 (enter Tryz.prog (0, 0) H269_6 (E269_6 fu)) loopNil)
theorem lq269 : loopsOf c269 = [c269_6] := by kernel_rfl
theorem fr269_6 : firstReg c269_6 = some 6 := by kernel_rfl
theorem le269_6 : L269 6 = enter Tryz.prog (0, 0) H269_6 (E269_6 fu) := by kernel_rfl
theorem lm269 : ∀ x ∈ [c269_6], ∀ id, firstReg x = some id → LoopOk Tryz.prog (0, 0) x (L269 id) := (loops_cons fr269_6 le269_6 (ok269_6 fu) loops_nil)
theorem lp269 : ∀ x ∈ loopsOf c269, ∀ id, firstReg x = some id → LoopOk Tryz.prog (0, 0) x (L269 id) := loops_eq lq269 lm269
noncomputable def sg269 : Sg := ⟨⟨[.one (.sl 0)], [], [(255, sh1, .ro)]⟩, [.row sh1], ⟨[hh], [], []⟩, [.int .i64]⟩
noncomputable def E269 : Fun2 := eOf sg269 S.l03Depth
theorem ev269 (a : Args sg269.ks) : evS Tryz.prog G269 L269 (0, 0) [] Tryz.f269 c269 (kOf sg269) (sg269.sk.fl (encP sg269.ks a)) = unc sg269.ks S.l03Depth a := by kernel_rfl
theorem good269 : Vm.Good Tryz.prog 269 E269 := good_gen (G := G269) (L := L269) (c := c269) (rn := []) (N := (0, 0)) (envCons_good good299 envNil_good) lp269 Tryz.func269 (by kernel_rfl) (by kernel_rfl) (fun _ => by kernel_rfl) ev269
noncomputable def G220 : Env := (envCons 269 [] E269 envNil)
noncomputable def c220 : Code := bodyOf Tryz.f220
noncomputable def S.ExprOk (a1 : List (Int × Int)) : Option Bool :=
(Option.bind (S.l03Depth a1) fun r2 =>
(some (decide (0 ≤ r2))))
noncomputable def sg220 : Sg := ⟨⟨[.one (.sl 0)], [], [(255, sh1, .ro)]⟩, [.row sh1], ⟨[hh], [], []⟩, [.bool]⟩
noncomputable def E220 : Fun2 := eOf sg220 S.ExprOk
theorem ev220 (a : Args sg220.ks) : evS Tryz.prog G220 loopNil (0, 0) [] Tryz.f220 c220 (kOf sg220) (sg220.sk.fl (encP sg220.ks a)) = unc sg220.ks S.ExprOk a := by kernel_rfl
theorem good220 : Vm.Good Tryz.prog 220 E220 := good_gen (G := G220) (L := loopNil) (c := c220) (rn := []) (N := (0, 0)) (envCons_good good269 envNil_good) (no_loops (c := c220) (by kernel_rfl)) Tryz.func220 (by kernel_rfl) (by kernel_rfl) (fun _ => by kernel_rfl) ev220
noncomputable def G110 : Env := envNil
noncomputable def c110 : Code := bodyOf Tryz.f110
noncomputable def S.WinOk (a1 a2 a3 : Int) : Option Bool :=
(bif (decide (a1 < 1)) then
(some false)
else
(bif (decide (3 < a1)) then
(some false)
else
(bif (decide (a2 < 1)) then
(some false)
else
(bif (decide (100 < a2)) then
(some false)
else
(bif (a1 != 2) then
(some (a3 == 0))
else
(bif (decide (1 ≤ a3)) then
(bif (decide (a3 ≤ a2)) then
(some (decide (a2 ≤ (IntKind.wrap .i64 (8 * a3)))))
else
(some false))
else
(some false)))))))
noncomputable def sg110 : Sg := ⟨⟨[.agg (ho 3 [])], [], []⟩, (ki 3 []), ⟨[hh], [], []⟩, [.bool]⟩
noncomputable def E110 : Fun2 := eOf sg110 S.WinOk
theorem ev110 (a : Args sg110.ks) : evS Tryz.prog G110 loopNil (0, 0) [] Tryz.f110 c110 (kOf sg110) (sg110.sk.fl (encP sg110.ks a)) = unc sg110.ks S.WinOk a := by kernel_rfl
theorem good110 : Vm.Good Tryz.prog 110 E110 := good_gen (G := G110) (L := loopNil) (c := c110) (rn := []) (N := (0, 0)) envNil_good (no_loops (c := c110) (by kernel_rfl)) Tryz.func110 (by kernel_rfl) (by kernel_rfl) (fun _ => by kernel_rfl) ev110
noncomputable def G221 : Env := envNil
noncomputable def c221 : Code := bodyOf Tryz.f221
noncomputable def S.AggKind (a1 a2 : Int) : Option Bool :=
(bif (a1 == 6) then
(bif (decide (1 ≤ a2)) then
(some (decide (a2 ≤ 4)))
else
(some false))
else
(bif (decide (1 ≤ a1)) then
(bif (decide (a1 < 6)) then
(some (a2 == 0))
else
(some false))
else
(some false)))
noncomputable def sg221 : Sg := ⟨⟨[hh, hh], [], []⟩, (ki 2 []), ⟨[hh], [], []⟩, [.bool]⟩
noncomputable def E221 : Fun2 := eOf sg221 S.AggKind
theorem ev221 (a : Args sg221.ks) : evS Tryz.prog G221 loopNil (0, 0) [] Tryz.f221 c221 (kOf sg221) (sg221.sk.fl (encP sg221.ks a)) = unc sg221.ks S.AggKind a := by kernel_rfl
theorem good221 : Vm.Good Tryz.prog 221 E221 := good_gen (G := G221) (L := loopNil) (c := c221) (rn := []) (N := (0, 0)) envNil_good (no_loops (c := c221) (by kernel_rfl)) Tryz.func221 (by kernel_rfl) (by kernel_rfl) (fun _ => by kernel_rfl) ev221
noncomputable def G139 : Env := (envCons 220 [] E220 (envCons 110 [] E110 (envCons 221 [] E221 envNil)))
noncomputable def c139 : Code := bodyOf Tryz.f139
noncomputable def S.QueryOk (a1 a2 a3 a4 a5 : Int) (a6 a7 : List (Int × Int)) : Option Bool :=
(Option.bind (S.ExprOk a6) fun r8 =>
(bif r8 then
(Option.bind (S.ExprOk a7) fun r9 =>
(bif r9 then
(Option.bind (S.WinOk a1 a2 a3) fun r10 =>
(bif r10 then
(Option.bind (S.AggKind a4 a5) fun r11 =>
(some r11))
else
(some false)))
else
(some false)))
else
(some false)))
noncomputable def sg139 : Sg := ⟨⟨[.agg ((.sl 0) :: (.sl 1) :: (ho 5 []))], [], [(255, sh1, .ro), (255, sh1, .ro)]⟩, (ki 5 [.row sh1, .row sh1]), ⟨[hh], [], []⟩, [.bool]⟩
noncomputable def E139 : Fun2 := eOf sg139 S.QueryOk
theorem ev139 (a : Args sg139.ks) : evS Tryz.prog G139 loopNil (0, 0) [] Tryz.f139 c139 (kOf sg139) (sg139.sk.fl (encP sg139.ks a)) = unc sg139.ks S.QueryOk a := by kernel_rfl
theorem good139 : Vm.Good Tryz.prog 139 E139 := good_gen (G := G139) (L := loopNil) (c := c139) (rn := []) (N := (0, 0)) (envCons_good good220 (envCons_good good110 (envCons_good good221 envNil_good))) (no_loops (c := c139) (by kernel_rfl)) Tryz.func139 (by kernel_rfl) (by kernel_rfl) (fun _ => by kernel_rfl) ev139
noncomputable def G85 : Env := envNil
noncomputable def c85 : Code := bodyOf Tryz.f85
noncomputable def S.l01Here (a1 a2 : Int) (a3 : List Int) : Option Bool :=
(bif (decide (0 ≤ a2)) then
(some (decide (a2 < a1)))
else
(some false))
noncomputable def sg85 : Sg := ⟨⟨[.agg [.hole, .sl 0], hh], [], [(87, (.int .u64), .ro)]⟩, (ki 2 [.row (.int .u64)]), ⟨[hh], [], []⟩, [.bool]⟩
noncomputable def E85 : Fun2 := eOf sg85 S.l01Here
theorem ev85 (a : Args sg85.ks) : evS Tryz.prog G85 loopNil (0, 0) [] Tryz.f85 c85 (kOf sg85) (sg85.sk.fl (encP sg85.ks a)) = unc sg85.ks S.l01Here a := by kernel_rfl
theorem good85 : Vm.Good Tryz.prog 85 E85 := good_gen (G := G85) (L := loopNil) (c := c85) (rn := []) (N := (0, 0)) envNil_good (no_loops (c := c85) (by kernel_rfl)) Tryz.func85 (by kernel_rfl) (by kernel_rfl) (fun _ => by kernel_rfl) ev85
noncomputable def G140 : Env := envNil
noncomputable def c140 : Code := bodyOf Tryz.f140
noncomputable def S.l10Cap (a1 : Int) : Option Bool :=
(bif (decide (1 ≤ a1)) then
(some (decide (a1 ≤ 50)))
else
(some false))
noncomputable def sg140 : Sg := ⟨⟨[hh], [], []⟩, [.int .i64], ⟨[hh], [], []⟩, [.bool]⟩
noncomputable def E140 : Fun2 := eOf sg140 S.l10Cap
theorem ev140 (a : Args sg140.ks) : evS Tryz.prog G140 loopNil (0, 0) [] Tryz.f140 c140 (kOf sg140) (sg140.sk.fl (encP sg140.ks a)) = unc sg140.ks S.l10Cap a := by kernel_rfl
theorem good140 : Vm.Good Tryz.prog 140 E140 := good_gen (G := G140) (L := loopNil) (c := c140) (rn := []) (N := (0, 0)) envNil_good (no_loops (c := c140) (by kernel_rfl)) Tryz.func140 (by kernel_rfl) (by kernel_rfl) (fun _ => by kernel_rfl) ev140
noncomputable def G100 : Env := envNil
noncomputable def c100 : Code := bodyOf Tryz.f100
noncomputable def S.l11Query (a1 a2 a3 a4 : Int) (a5 : List Int) (a6 : List ty6) (a7 : List (Int × Int × Int)) (a8 : List ty10) : Option Bool :=
(bif (decide (0 ≤ a1)) then
(some (decide (a1 < (a6.length : Int))))
else
(some false))
noncomputable def sg100 : Sg := ⟨⟨[hh, .agg ((.hole) :: (.sl 0) :: (ho 2 [.sl 1, .sl 2, .sl 3]))], [], [(87, (.int .u64), .ro), (190, sh10, .ro), (126, sh3, .ro), (159, sh4, .ro)]⟩, (ki 4 [.row (.int .u64), .row sh10, .row sh3, .row sh4]), ⟨[hh], [], []⟩, [.bool]⟩
noncomputable def E100 : Fun2 := eOf sg100 S.l11Query
theorem ev100 (a : Args sg100.ks) : evS Tryz.prog G100 loopNil (0, 0) [] Tryz.f100 c100 (kOf sg100) (sg100.sk.fl (encP sg100.ks a)) = unc sg100.ks S.l11Query a := by kernel_rfl
theorem good100 : Vm.Good Tryz.prog 100 E100 := good_gen (G := G100) (L := loopNil) (c := c100) (rn := []) (N := (0, 0)) envNil_good (no_loops (c := c100) (by kernel_rfl)) Tryz.func100 (by kernel_rfl) (by kernel_rfl) (fun _ => by kernel_rfl) ev100
noncomputable def G58 : Env := (envCons 138 [] E138 (envCons 139 [] E139 (envCons 85 [] E85 (envCons 140 [] E140 (envCons 100 [] E100 envNil)))))
noncomputable def c58 : Code := bodyOf Tryz.f58
noncomputable def c58_6 : Code := (loopsOf c58).getD 0 .skip
noncomputable def c58_11 : Code := (loopsOf c58).getD 1 .skip
noncomputable def c58_17 : Code := (loopsOf c58).getD 2 .skip
noncomputable def S.ConfOk_l0 : Nat → (Bool → Int → Int → Int → List Int → (List ty6) → (List (Int × Int × Int)) → (List ty10) → Option Bool) → (Int → Int → Int → List Int → (List ty6) → (List (Int × Int × Int)) → (List ty10) → Option Bool) → Int → Int → Int → Int → List Int → (List ty6) → (List (Int × Int × Int)) → (List ty10) → Option Bool
  | 0, _, _, _, _, _, _, _, _, _, _ => none
  | m + 1, e6_0, e6_1, a23, a24, a25, a26, a27, a28, a29, a30 =>
    (bif (decide (a23 < (a28.length : Int))) then
    (bif decide ((0 : Int) ≤ a23 ∧ a23 < (a28.length : Int)) then
    (Option.bind (S.QueryOk ((nthI a28 a23 ([], ([], (df1, df2)))).2.2.1.1) ((nthI a28 a23 ([], ([], (df1, df2)))).2.2.1.2.1) ((nthI a28 a23 ([], ([], (df1, df2)))).2.2.1.2.2) ((nthI a28 a23 ([], ([], (df1, df2)))).2.2.2.1) ((nthI a28 a23 ([], ([], (df1, df2)))).2.2.2.2) ((nthI a28 a23 ([], ([], (df1, df2)))).1) ((nthI a28 a23 ([], ([], (df1, df2)))).2.1)) fun r33 =>
    (bif (!r33) then
    (e6_0 false a24 a25 a26 a27 a28 a29 a30)
    else
    (S.ConfOk_l0 m e6_0 e6_1 (IntKind.wrap .i64 (a23 + 1)) a24 a25 a26 a27 a28 a29 a30)))
    else
    none)
    else
    (e6_1 a24 a25 a26 a27 a28 a29 a30))
noncomputable def S.ConfOk_l1 : Nat → (Bool → Int → Int → Int → List Int → (List ty6) → (List (Int × Int × Int)) → (List ty10) → Option Bool) → (Int → Int → Int → List Int → (List ty6) → (List (Int × Int × Int)) → (List ty10) → Option Bool) → Int → Int → Int → Int → List Int → (List ty6) → (List (Int × Int × Int)) → (List ty10) → Option Bool
  | 0, _, _, _, _, _, _, _, _, _, _ => none
  | m + 1, e11_0, e11_1, a50, a51, a52, a53, a54, a55, a56, a57 =>
    (bif (decide (a50 < (a56.length : Int))) then
    (bif decide ((0 : Int) ≤ a50 ∧ a50 < (a56.length : Int)) then
    (Option.bind (S.l01Here a51 ((nthI a56 a50 df1).1) a54) fun r60 =>
    (bif (!r60) then
    (e11_0 false a51 a52 a53 a54 a55 a56 a57)
    else
    (Option.bind (S.l10Cap ((nthI a56 a50 df1).2.1)) fun r61 =>
    (bif (!r61) then
    (e11_0 false a51 a52 a53 a54 a55 a56 a57)
    else
    (Option.bind (S.l10Cap ((nthI a56 a50 df1).2.2)) fun r62 =>
    (bif (!r62) then
    (e11_0 false a51 a52 a53 a54 a55 a56 a57)
    else
    (S.ConfOk_l1 m e11_0 e11_1 (IntKind.wrap .i64 (a50 + 1)) a51 a52 a53 a54 a55 a56 a57)))))))
    else
    none)
    else
    (e11_1 a51 a52 a53 a54 a55 a56 a57))
noncomputable def S.ConfOk_l2 : Nat → (Bool → Option Bool) → (Option Bool) → Int → Int → Int → Int → List Int → (List ty6) → (List (Int × Int × Int)) → (List ty10) → Option Bool
  | 0, _, _, _, _, _, _, _, _, _, _ => none
  | m + 1, e17_0, e17_1, a79, a80, a81, a82, a83, a84, a85, a86 =>
    (bif (decide (a79 < (a86.length : Int))) then
    (bif decide ((0 : Int) ≤ a79 ∧ a79 < (a86.length : Int)) then
    (Option.bind (S.l11Query ((nthI a86 a79 df6).1) a80 a81 a82 a83 a84 a85 a86) fun r89 =>
    (bif (!r89) then
    (e17_0 false)
    else
    (Option.bind (S.l01Here a80 ((nthI a86 a79 df6).2.1) a83) fun r90 =>
    (bif (!r90) then
    (e17_0 false)
    else
    (Option.bind (S.l01Here a80 ((nthI a86 a79 df6).2.2.1) a83) fun r91 =>
    (bif (!r91) then
    (e17_0 false)
    else
    (let v92 : Bool := (decide ((nthI a86 a79 df6).2.2.2.1 < 1))
    (bif v92 then
    (e17_0 false)
    else
    (let v93 : Bool := (decide (1000000 < (nthI a86 a79 df6).2.2.2.1))
    (bif v93 then
    (e17_0 false)
    else
    (let v94 : Bool := (decide ((nthI a86 a79 df6).2.2.2.2 < 0))
    (bif v94 then
    (e17_0 false)
    else
    (let v95 : Bool := (decide (20 < (nthI a86 a79 df6).2.2.2.2))
    (bif v95 then
    (e17_0 false)
    else
    (S.ConfOk_l2 m e17_0 e17_1 (IntKind.wrap .i64 (a79 + 1)) a80 a81 a82 a83 a84 a85 a86)))))))))))))))
    else
    none)
    else
    e17_1)
noncomputable def S.ConfOk (a1 a2 a3 : Int) (a4 : List Int) (a5 : List ty6) (a6 : List (Int × Int × Int)) (a7 : List ty10) : Option Bool :=
(Option.bind (S.LatOk a1 a4) fun r8 =>
(bif (!r8) then
(some false)
else
(bif (decide (a2 < 1)) then
(some false)
else
(bif (decide (4 < a2)) then
(some false)
else
(bif (decide (a3 < 1)) then
(some false)
else
(bif (decide (30 < a3)) then
(some false)
else
(bif (decide ((a5.length : Int) < 1)) then
(some false)
else
(bif (decide (4 < (a5.length : Int))) then
(some false)
else
(bif (decide ((a6.length : Int) < 1)) then
(some false)
else
(bif (decide (4 < (a6.length : Int))) then
(some false)
else
(bif (decide (3 < (a7.length : Int))) then
(some false)
else
(S.ConfOk_l0 fu (fun y35 y36 y37 y38 y39 y40 y41 y42 =>
(some y35)) (fun y43 y44 y45 y46 y47 y48 y49 =>
(S.ConfOk_l1 fu (fun y64 y65 y66 y67 y68 y69 y70 y71 =>
(some y64)) (fun y72 y73 y74 y75 y76 y77 y78 =>
(S.ConfOk_l2 fu (fun y97 =>
(some y97)) (some true) 0 y72 y73 y74 y75 y76 y77 y78)) 0 y43 y44 y45 y46 y47 y48 y49)) 0 a1 a2 a3 a4 a5 a6 a7))))))))))))
noncomputable def H58_6 : LoopH := ⟨⟨((.one (.unk)) :: (.one (.ptr 0 0)) :: (.one (.unk)) :: hh :: (hu 153 [])), [(49, ((.hole) :: (.sl 0) :: (ho 2 [.sl 1, .sl 2, .sl 3])))], [(87, (.int .u64), .ro), (190, sh10, .ro), (126, sh3, .ro), (159, sh4, .ro)]⟩, ([0, 2] ++ rg 4 153), [], ([0] ++ rg 3 154), [], []⟩
noncomputable def k58_6 : List PK := (ki 4 [.row (.int .u64), .row sh10, .row sh3, .row sh4])
noncomputable def W58_6 (m : Nat) (k : Kont Bool) : Cur k58_6 (Option Bool) := S.ConfOk_l0 m (exF k .ret ⟨((.one (.unk)) :: (.one (.ptr 0 0)) :: hh :: (hu 154 [])), [(49, ((.hole) :: (.sl 0) :: (ho 2 [.sl 1, .sl 2, .sl 3])))], [(87, (.int .u64), .ro), (190, sh10, .ro), (126, sh3, .ro), (159, sh4, .ro)]⟩ ((.bool) :: (ki 3 [.row (.int .u64), .row sh10, .row sh3, .row sh4]))) (exF k (.exit 0) ⟨((.one (.unk)) :: (.one (.ptr 0 0)) :: (hu 155 [])), [(49, ((.hole) :: (.sl 0) :: (ho 2 [.sl 1, .sl 2, .sl 3])))], [(87, (.int .u64), .ro), (190, sh10, .ro), (126, sh3, .ro), (159, sh4, .ro)]⟩ (ki 3 [.row (.int .u64), .row sh10, .row sh3, .row sh4]))
noncomputable def E58_6 (m : Nat) : List Prm → Kont Bool → Option Bool := eL k58_6 (W58_6 m)
theorem ev58_6 (m : Nat) (k : Kont Bool) (a : Args k58_6) : evL Tryz.prog G58 loopNil c58_6 (turn Tryz.prog (0, 0) H58_6 (E58_6 m) k) (H58_6.sk.fl (encP k58_6 a)) = unc k58_6 (W58_6 (m + 1) k) a := by kernel_rfl
theorem ok58_6 (m : Nat) : LoopOk Tryz.prog (0, 0) c58_6 (enter Tryz.prog (0, 0) H58_6 (E58_6 m)) := loop_gen (Fl := W58_6) (G := G58) (L := loopNil) (envCons_good good138 (envCons_good good139 (envCons_good good85 (envCons_good good140 (envCons_good good100 envNil_good))))) (no_loops (c := c58_6) (by kernel_rfl)) (fun _ _ => by kernel_rfl) ev58_6 m
noncomputable def H58_11 : LoopH := ⟨⟨((.one (.unk)) :: (.one (.ptr 0 0)) :: (hu 2 (hh :: (hu 152 [])))), [(49, ((.hole) :: (.sl 0) :: (ho 2 [.sl 1, .sl 2, .sl 3])))], [(87, (.int .u64), .ro), (190, sh10, .ro), (126, sh3, .ro), (159, sh4, .ro)]⟩, ([0, 2, 3] ++ rg 5 152), [], ([0] ++ rg 3 154), [], []⟩
noncomputable def k58_11 : List PK := (ki 4 [.row (.int .u64), .row sh10, .row sh3, .row sh4])
noncomputable def W58_11 (m : Nat) (k : Kont Bool) : Cur k58_11 (Option Bool) := S.ConfOk_l1 m (exF k .ret ⟨((.one (.unk)) :: (.one (.ptr 0 0)) :: hh :: (hu 154 [])), [(49, ((.hole) :: (.sl 0) :: (ho 2 [.sl 1, .sl 2, .sl 3])))], [(87, (.int .u64), .ro), (190, sh10, .ro), (126, sh3, .ro), (159, sh4, .ro)]⟩ ((.bool) :: (ki 3 [.row (.int .u64), .row sh10, .row sh3, .row sh4]))) (exF k (.exit 2) ⟨((.one (.unk)) :: (.one (.ptr 0 0)) :: (hu 155 [])), [(49, ((.hole) :: (.sl 0) :: (ho 2 [.sl 1, .sl 2, .sl 3])))], [(87, (.int .u64), .ro), (190, sh10, .ro), (126, sh3, .ro), (159, sh4, .ro)]⟩ (ki 3 [.row (.int .u64), .row sh10, .row sh3, .row sh4]))
noncomputable def E58_11 (m : Nat) : List Prm → Kont Bool → Option Bool := eL k58_11 (W58_11 m)
theorem ev58_11 (m : Nat) (k : Kont Bool) (a : Args k58_11) : evL Tryz.prog G58 loopNil c58_11 (turn Tryz.prog (0, 0) H58_11 (E58_11 m) k) (H58_11.sk.fl (encP k58_11 a)) = unc k58_11 (W58_11 (m + 1) k) a := by kernel_rfl
theorem ok58_11 (m : Nat) : LoopOk Tryz.prog (0, 0) c58_11 (enter Tryz.prog (0, 0) H58_11 (E58_11 m)) := loop_gen (Fl := W58_11) (G := G58) (L := loopNil) (envCons_good good138 (envCons_good good139 (envCons_good good85 (envCons_good good140 (envCons_good good100 envNil_good))))) (no_loops (c := c58_11) (by kernel_rfl)) (fun _ _ => by kernel_rfl) ev58_11 m
noncomputable def H58_17 : LoopH := ⟨⟨((.one (.unk)) :: (.one (.ptr 0 0)) :: (hu 4 (hh :: (hu 150 [])))), [(49, ((.hole) :: (.sl 0) :: (ho 2 [.sl 1, .sl 2, .sl 3])))], [(87, (.int .u64), .ro), (190, sh10, .ro), (126, sh3, .ro), (159, sh4, .ro)]⟩, ([0] ++ rg 2 4 ++ rg 7 150), [], ([0, 1] ++ rg 3 154), [], []⟩
noncomputable def k58_17 : List PK := (ki 4 [.row (.int .u64), .row sh10, .row sh3, .row sh4])
noncomputable def W58_17 (m : Nat) (k : Kont Bool) : Cur k58_17 (Option Bool) := S.ConfOk_l2 m (exF k .ret ⟨(hu 2 (hh :: (hu 154 []))), [], []⟩ [.bool]) (exF k (.exit 4) ⟨(hu 157 []), [], []⟩ [])
noncomputable def E58_17 (m : Nat) : List Prm → Kont Bool → Option Bool := eL k58_17 (W58_17 m)
theorem ev58_17 (m : Nat) (k : Kont Bool) (a : Args k58_17) : evL Tryz.prog G58 loopNil c58_17 (turn Tryz.prog (0, 0) H58_17 (E58_17 m) k) (H58_17.sk.fl (encP k58_17 a)) = unc k58_17 (W58_17 (m + 1) k) a := by kernel_rfl
theorem ok58_17 (m : Nat) : LoopOk Tryz.prog (0, 0) c58_17 (enter Tryz.prog (0, 0) H58_17 (E58_17 m)) := loop_gen (Fl := W58_17) (G := G58) (L := loopNil) (envCons_good good138 (envCons_good good139 (envCons_good good85 (envCons_good good140 (envCons_good good100 envNil_good))))) (no_loops (c := c58_17) (by kernel_rfl)) (fun _ _ => by kernel_rfl) ev58_17 m
noncomputable def L58 : LEnv Bool := (loopCons 6 (enter Tryz.prog (0, 0) H58_6 (E58_6 fu)) (loopCons 11 (enter Tryz.prog (0, 0) H58_11 (E58_11 fu)) (loopCons 17 (enter Tryz.prog (0, 0) H58_17 (E58_17 fu)) loopNil)))
theorem lq58 : loopsOf c58 = [c58_6, c58_11, c58_17] := by kernel_rfl
theorem fr58_6 : firstReg c58_6 = some 6 := by kernel_rfl
theorem le58_6 : L58 6 = enter Tryz.prog (0, 0) H58_6 (E58_6 fu) := by kernel_rfl
theorem fr58_11 : firstReg c58_11 = some 11 := by kernel_rfl
theorem le58_11 : L58 11 = enter Tryz.prog (0, 0) H58_11 (E58_11 fu) := by kernel_rfl
theorem fr58_17 : firstReg c58_17 = some 17 := by kernel_rfl
theorem le58_17 : L58 17 = enter Tryz.prog (0, 0) H58_17 (E58_17 fu) := by kernel_rfl
theorem lm58 : ∀ x ∈ [c58_6, c58_11, c58_17], ∀ id, firstReg x = some id → LoopOk Tryz.prog (0, 0) x (L58 id) := (loops_cons fr58_6 le58_6 (ok58_6 fu) (loops_cons fr58_11 le58_11 (ok58_11 fu) (loops_cons fr58_17 le58_17 (ok58_17 fu) loops_nil)))
theorem lp58 : ∀ x ∈ loopsOf c58, ∀ id, firstReg x = some id → LoopOk Tryz.prog (0, 0) x (L58 id) := loops_eq lq58 lm58
noncomputable def sg58 : Sg := ⟨⟨[.agg ((.hole) :: (.sl 0) :: (ho 2 [.sl 1, .sl 2, .sl 3]))], [], [(87, (.int .u64), .ro), (190, sh10, .ro), (126, sh3, .ro), (159, sh4, .ro)]⟩, (ki 3 [.row (.int .u64), .row sh10, .row sh3, .row sh4]), ⟨[hh], [], []⟩, [.bool]⟩
noncomputable def E58 : Fun2 := eOf sg58 S.ConfOk
theorem ev58 (a : Args sg58.ks) : evS Tryz.prog G58 L58 (0, 0) [] Tryz.f58 c58 (kOf sg58) (sg58.sk.fl (encP sg58.ks a)) = unc sg58.ks S.ConfOk a := by kernel_rfl
theorem good58 : Vm.Good Tryz.prog 58 E58 := good_gen (G := G58) (L := L58) (c := c58) (rn := []) (N := (0, 0)) (envCons_good good138 (envCons_good good139 (envCons_good good85 (envCons_good good140 (envCons_good good100 envNil_good))))) lp58 Tryz.func58 (by kernel_rfl) (by kernel_rfl) (fun _ => by kernel_rfl) ev58
noncomputable def G246 : Env := envNil
noncomputable def c246 : Code := bodyOf Tryz.f246
noncomputable def S.l04Src (a1 : Int) : Option Bool :=
(bif (decide (0 ≤ a1)) then
(some (decide (a1 < 4)))
else
(some false))
noncomputable def sg246 : Sg := ⟨⟨[hh], [], []⟩, [.int .i64], ⟨[hh], [], []⟩, [.bool]⟩
noncomputable def E246 : Fun2 := eOf sg246 S.l04Src
theorem ev246 (a : Args sg246.ks) : evS Tryz.prog G246 loopNil (0, 0) [] Tryz.f246 c246 (kOf sg246) (sg246.sk.fl (encP sg246.ks a)) = unc sg246.ks S.l04Src a := by kernel_rfl
theorem good246 : Vm.Good Tryz.prog 246 E246 := good_gen (G := G246) (L := loopNil) (c := c246) (rn := []) (N := (0, 0)) envNil_good (no_loops (c := c246) (by kernel_rfl)) Tryz.func246 (by kernel_rfl) (by kernel_rfl) (fun _ => by kernel_rfl) ev246
noncomputable def G247 : Env := envNil
noncomputable def c247 : Code := bodyOf Tryz.f247
noncomputable def S.l04Bits (a1 : Int) : Option Bool :=
(bif (decide (0 ≤ a1)) then
(some (decide (a1 ≤ 4)))
else
(some false))
noncomputable def sg247 : Sg := ⟨⟨[hh], [], []⟩, [.int .i64], ⟨[hh], [], []⟩, [.bool]⟩
noncomputable def E247 : Fun2 := eOf sg247 S.l04Bits
theorem ev247 (a : Args sg247.ks) : evS Tryz.prog G247 loopNil (0, 0) [] Tryz.f247 c247 (kOf sg247) (sg247.sk.fl (encP sg247.ks a)) = unc sg247.ks S.l04Bits a := by kernel_rfl
theorem good247 : Vm.Good Tryz.prog 247 E247 := good_gen (G := G247) (L := loopNil) (c := c247) (rn := []) (N := (0, 0)) envNil_good (no_loops (c := c247) (by kernel_rfl)) Tryz.func247 (by kernel_rfl) (by kernel_rfl) (fun _ => by kernel_rfl) ev247
noncomputable def G116 : Env := envNil
noncomputable def c116 : Code := bodyOf Tryz.f116
noncomputable def S.l04Key (a1 : Int) : Option Bool :=
(bif (decide (0 ≤ a1)) then
(some (decide (a1 ≤ 15)))
else
(some false))
noncomputable def sg116 : Sg := ⟨⟨[hh], [], []⟩, [.int .i64], ⟨[hh], [], []⟩, [.bool]⟩
noncomputable def E116 : Fun2 := eOf sg116 S.l04Key
theorem ev116 (a : Args sg116.ks) : evS Tryz.prog G116 loopNil (0, 0) [] Tryz.f116 c116 (kOf sg116) (sg116.sk.fl (encP sg116.ks a)) = unc sg116.ks S.l04Key a := by kernel_rfl
theorem good116 : Vm.Good Tryz.prog 116 E116 := good_gen (G := G116) (L := loopNil) (c := c116) (rn := []) (N := (0, 0)) envNil_good (no_loops (c := c116) (by kernel_rfl)) Tryz.func116 (by kernel_rfl) (by kernel_rfl) (fun _ => by kernel_rfl) ev116
noncomputable def G248 : Env := envNil
noncomputable def c248 : Code := bodyOf Tryz.f248
noncomputable def c248_2 : Code := (loopsOf c248).getD 0 .skip
noncomputable def S.l04Pow_l0 : Nat → (Int → Option Int) → Int → Int → Option Int
  | 0, _, _, _ => none
  | m + 1, e2_0, a2, a3 =>
    (bif (decide (0 < a2)) then
    (S.l04Pow_l0 m e2_0 (IntKind.wrap .i64 (a2 - 1)) (IntKind.wrap .i64 (2 * a3)))
    else
    (e2_0 a3))
noncomputable def S.l04Pow (a1 : Int) : Option Int :=
(S.l04Pow_l0 fu (fun y7 =>
(some y7)) a1 1)
noncomputable def H248_2 : LoopH := ⟨⟨(hh :: (hu 2 (hh :: (hu 7 [])))), [], []⟩, ([1, 2] ++ rg 4 7), [], ([0, 1] ++ rg 4 7), [], []⟩
noncomputable def k248_2 : List PK := (ki 2 [])
noncomputable def W248_2 (m : Nat) (k : Kont Int) : Cur k248_2 (Option Int) := S.l04Pow_l0 m (exF k (.exit 0) ⟨(hu 3 (hh :: (hu 7 []))), [], []⟩ [.int .i64])
noncomputable def E248_2 (m : Nat) : List Prm → Kont Int → Option Int := eL k248_2 (W248_2 m)
theorem ev248_2 (m : Nat) (k : Kont Int) (a : Args k248_2) : evL Tryz.prog G248 loopNil c248_2 (turn Tryz.prog (0, 0) H248_2 (E248_2 m) k) (H248_2.sk.fl (encP k248_2 a)) = unc k248_2 (W248_2 (m + 1) k) a := by kernel_rfl
theorem ok248_2 (m : Nat) : LoopOk Tryz.prog (0, 0) c248_2 (enter Tryz.prog (0, 0) H248_2 (E248_2 m)) := loop_gen (Fl := W248_2) (G := G248) (L := loopNil) envNil_good (no_loops (c := c248_2) (by kernel_rfl)) (fun _ _ => by kernel_rfl) ev248_2 m
noncomputable def L248 : LEnv Int := (loopCons 2 (enter Tryz.prog (0, 0) H248_2 (E248_2 fu)) loopNil)
theorem lq248 : loopsOf c248 = [c248_2] := by kernel_rfl
theorem fr248_2 : firstReg c248_2 = some 2 := by kernel_rfl
theorem le248_2 : L248 2 = enter Tryz.prog (0, 0) H248_2 (E248_2 fu) := by kernel_rfl
theorem lm248 : ∀ x ∈ [c248_2], ∀ id, firstReg x = some id → LoopOk Tryz.prog (0, 0) x (L248 id) := (loops_cons fr248_2 le248_2 (ok248_2 fu) loops_nil)
theorem lp248 : ∀ x ∈ loopsOf c248, ∀ id, firstReg x = some id → LoopOk Tryz.prog (0, 0) x (L248 id) := loops_eq lq248 lm248
noncomputable def sg248 : Sg := ⟨⟨[hh], [], []⟩, [.int .i64], ⟨[hh], [], []⟩, [.int .i64]⟩
noncomputable def E248 : Fun2 := eOf sg248 S.l04Pow
theorem ev248 (a : Args sg248.ks) : evS Tryz.prog G248 L248 (0, 0) [] Tryz.f248 c248 (kOf sg248) (sg248.sk.fl (encP sg248.ks a)) = unc sg248.ks S.l04Pow a := by kernel_rfl
theorem good248 : Vm.Good Tryz.prog 248 E248 := good_gen (G := G248) (L := L248) (c := c248) (rn := []) (N := (0, 0)) envNil_good lp248 Tryz.func248 (by kernel_rfl) (by kernel_rfl) (fun _ => by kernel_rfl) ev248
noncomputable def G184 : Env := (envCons 246 [] E246 (envCons 247 [] E247 (envCons 116 [] E116 (envCons 248 [] E248 envNil))))
noncomputable def c184 : Code := bodyOf Tryz.f184
noncomputable def S.l04Right (a1 a2 a3 a4 : Int) : Option Bool :=
(Option.bind (S.l04Src a1) fun r5 =>
(bif r5 then
(Option.bind (S.l04Bits a2) fun r6 =>
(bif r6 then
(Option.bind (S.l04Key a3) fun r7 =>
(bif r7 then
(Option.bind (S.l04Pow (IntKind.wrap .i64 (4 - a2))) fun r9 =>
(bif decide (r9 = 0) then
none
else
(some ((Int.tmod a3 r9) == 0))))
else
(some false)))
else
(some false)))
else
(some false)))
noncomputable def sg184 : Sg := ⟨⟨[.agg (ho 4 [])], [], []⟩, (ki 4 []), ⟨[hh], [], []⟩, [.bool]⟩
noncomputable def E184 : Fun2 := eOf sg184 S.l04Right
theorem ev184 (a : Args sg184.ks) : evS Tryz.prog G184 loopNil (0, 0) [] Tryz.f184 c184 (kOf sg184) (sg184.sk.fl (encP sg184.ks a)) = unc sg184.ks S.l04Right a := by kernel_rfl
theorem good184 : Vm.Good Tryz.prog 184 E184 := good_gen (G := G184) (L := loopNil) (c := c184) (rn := []) (N := (0, 0)) (envCons_good good246 (envCons_good good247 (envCons_good good116 (envCons_good good248 envNil_good)))) (no_loops (c := c184) (by kernel_rfl)) Tryz.func184 (by kernel_rfl) (by kernel_rfl) (fun _ => by kernel_rfl) ev184
noncomputable def G185 : Env := envNil
noncomputable def c185 : Code := bodyOf Tryz.f185
noncomputable def S.l04Less (a1 a2 a3 a4 a5 a6 a7 a8 : Int) : Option Bool :=
(bif (a1 != a5) then
(some (decide (a1 < a5)))
else
(bif (a2 != a6) then
(some (decide (a2 < a6)))
else
(some (decide (a3 < a7)))))
noncomputable def sg185 : Sg := ⟨⟨[.agg (ho 4 []), .agg (ho 4 [])], [], []⟩, (ki 8 []), ⟨[hh], [], []⟩, [.bool]⟩
noncomputable def E185 : Fun2 := eOf sg185 S.l04Less
theorem ev185 (a : Args sg185.ks) : evS Tryz.prog G185 loopNil (0, 0) [] Tryz.f185 c185 (kOf sg185) (sg185.sk.fl (encP sg185.ks a)) = unc sg185.ks S.l04Less a := by kernel_rfl
theorem good185 : Vm.Good Tryz.prog 185 E185 := good_gen (G := G185) (L := loopNil) (c := c185) (rn := []) (N := (0, 0)) envNil_good (no_loops (c := c185) (by kernel_rfl)) Tryz.func185 (by kernel_rfl) (by kernel_rfl) (fun _ => by kernel_rfl) ev185
noncomputable def G98 : Env := (envCons 138 [] E138 (envCons 85 [] E85 (envCons 184 [] E184 (envCons 185 [] E185 envNil))))
noncomputable def c98 : Code := bodyOf Tryz.f98
noncomputable def c98_4 : Code := (loopsOf c98).getD 0 .skip
noncomputable def S.PolicyOk_l0 : Nat → (Bool → Option Bool) → (Option Bool) → Int → Int → (List (Int × Int × Int × Int)) → List Int → Option Bool
  | 0, _, _, _, _, _, _ => none
  | m + 1, e4_0, e4_1, a7, a8, a9, a10 =>
    (bif (decide (a7 < (a9.length : Int))) then
    (bif decide ((0 : Int) ≤ a7 ∧ a7 < (a9.length : Int)) then
    (Option.bind (S.l01Here a8 ((nthI a9 a7 df7).2.2.2) a10) fun r13 =>
    (bif (!r13) then
    (e4_0 false)
    else
    (bif decide ((0 : Int) ≤ a7 ∧ a7 < (a9.length : Int)) then
    (Option.bind (S.l04Right ((nthI a9 a7 df7).1) ((nthI a9 a7 df7).2.1) ((nthI a9 a7 df7).2.2.1) ((nthI a9 a7 df7).2.2.2)) fun r14 =>
    (bif (!r14) then
    (e4_0 false)
    else
    (bif (decide (0 < a7)) then
    (let v16 : Int := (IntKind.wrap .i64 (a7 - 1))
    (bif decide ((0 : Int) ≤ v16 ∧ v16 < (a9.length : Int)) then
    (bif decide ((0 : Int) ≤ a7 ∧ a7 < (a9.length : Int)) then
    (Option.bind (S.l04Less ((nthI a9 v16 df7).1) ((nthI a9 v16 df7).2.1) ((nthI a9 v16 df7).2.2.1) ((nthI a9 v16 df7).2.2.2) ((nthI a9 a7 df7).1) ((nthI a9 a7 df7).2.1) ((nthI a9 a7 df7).2.2.1) ((nthI a9 a7 df7).2.2.2)) fun r17 =>
    (bif (!r17) then
    (e4_0 false)
    else
    (S.PolicyOk_l0 m e4_0 e4_1 (IntKind.wrap .i64 (a7 + 1)) a8 a9 a10)))
    else
    none)
    else
    none))
    else
    (S.PolicyOk_l0 m e4_0 e4_1 (IntKind.wrap .i64 (a7 + 1)) a8 a9 a10))))
    else
    none)))
    else
    none)
    else
    e4_1)
noncomputable def S.PolicyOk (a1 : Int) (a2 : List Int) (a3 : List (Int × Int × Int × Int)) : Option Bool :=
(Option.bind (S.LatOk a1 a2) fun r4 =>
(bif (!r4) then
(some false)
else
(bif (decide (12 < (a3.length : Int))) then
(some false)
else
(S.PolicyOk_l0 fu (fun y20 =>
(some y20)) (some true) 0 a1 a3 a2))))
noncomputable def H98_4 : LoopH := ⟨⟨((.one (.unk)) :: (.one (.sl 0)) :: (.one (.ptr 0 0)) :: (hu 2 (hh :: (hu 47 [])))), [(44, [.hole, .sl 1])], [(156, sh5, .ro), (87, (.int .u64), .ro)]⟩, ([0, 3, 4] ++ rg 6 47), [], (rg 0 4 ++ rg 5 48), [], []⟩
noncomputable def k98_4 : List PK := (ki 2 [.row sh5, .row (.int .u64)])
noncomputable def W98_4 (m : Nat) (k : Kont Bool) : Cur k98_4 (Option Bool) := S.PolicyOk_l0 m (exF k .ret ⟨(hu 4 (hh :: (hu 48 []))), [], []⟩ [.bool]) (exF k (.exit 0) ⟨(hu 53 []), [], []⟩ [])
noncomputable def E98_4 (m : Nat) : List Prm → Kont Bool → Option Bool := eL k98_4 (W98_4 m)
theorem ev98_4 (m : Nat) (k : Kont Bool) (a : Args k98_4) : evL Tryz.prog G98 loopNil c98_4 (turn Tryz.prog (0, 0) H98_4 (E98_4 m) k) (H98_4.sk.fl (encP k98_4 a)) = unc k98_4 (W98_4 (m + 1) k) a := by kernel_rfl
theorem ok98_4 (m : Nat) : LoopOk Tryz.prog (0, 0) c98_4 (enter Tryz.prog (0, 0) H98_4 (E98_4 m)) := loop_gen (Fl := W98_4) (G := G98) (L := loopNil) (envCons_good good138 (envCons_good good85 (envCons_good good184 (envCons_good good185 envNil_good)))) (no_loops (c := c98_4) (by kernel_rfl)) (fun _ _ => by kernel_rfl) ev98_4 m
noncomputable def L98 : LEnv Bool := (loopCons 4 (enter Tryz.prog (0, 0) H98_4 (E98_4 fu)) loopNil)
theorem lq98 : loopsOf c98 = [c98_4] := by kernel_rfl
theorem fr98_4 : firstReg c98_4 = some 4 := by kernel_rfl
theorem le98_4 : L98 4 = enter Tryz.prog (0, 0) H98_4 (E98_4 fu) := by kernel_rfl
theorem lm98 : ∀ x ∈ [c98_4], ∀ id, firstReg x = some id → LoopOk Tryz.prog (0, 0) x (L98 id) := (loops_cons fr98_4 le98_4 (ok98_4 fu) loops_nil)
theorem lp98 : ∀ x ∈ loopsOf c98, ∀ id, firstReg x = some id → LoopOk Tryz.prog (0, 0) x (L98 id) := loops_eq lq98 lm98
noncomputable def sg98 : Sg := ⟨⟨[.agg [.hole, .sl 0], .one (.sl 1)], [], [(87, (.int .u64), .ro), (156, sh5, .ro)]⟩, [.int .i64, .row (.int .u64), .row sh5], ⟨[hh], [], []⟩, [.bool]⟩
noncomputable def E98 : Fun2 := eOf sg98 S.PolicyOk
theorem ev98 (a : Args sg98.ks) : evS Tryz.prog G98 L98 (0, 0) [] Tryz.f98 c98 (kOf sg98) (sg98.sk.fl (encP sg98.ks a)) = unc sg98.ks S.PolicyOk a := by kernel_rfl
theorem good98 : Vm.Good Tryz.prog 98 E98 := good_gen (G := G98) (L := L98) (c := c98) (rn := []) (N := (0, 0)) (envCons_good good138 (envCons_good good85 (envCons_good good184 (envCons_good good185 envNil_good)))) lp98 Tryz.func98 (by kernel_rfl) (by kernel_rfl) (fun _ => by kernel_rfl) ev98
noncomputable def G111 : Env := envNil
noncomputable def c111 : Code := bodyOf Tryz.f111
noncomputable def S.l05Time (a1 : Int) : Option Bool :=
(bif (decide (0 ≤ a1)) then
(some (decide (a1 ≤ 1000)))
else
(some false))
noncomputable def sg111 : Sg := ⟨⟨[hh], [], []⟩, [.int .i64], ⟨[hh], [], []⟩, [.bool]⟩
noncomputable def E111 : Fun2 := eOf sg111 S.l05Time
theorem ev111 (a : Args sg111.ks) : evS Tryz.prog G111 loopNil (0, 0) [] Tryz.f111 c111 (kOf sg111) (sg111.sk.fl (encP sg111.ks a)) = unc sg111.ks S.l05Time a := by kernel_rfl
theorem good111 : Vm.Good Tryz.prog 111 E111 := good_gen (G := G111) (L := loopNil) (c := c111) (rn := []) (N := (0, 0)) envNil_good (no_loops (c := c111) (by kernel_rfl)) Tryz.func111 (by kernel_rfl) (by kernel_rfl) (fun _ => by kernel_rfl) ev111
noncomputable def G186 : Env := envNil
noncomputable def c186 : Code := bodyOf Tryz.f186
noncomputable def c186_4 : Code := (loopsOf c186).getD 0 .skip
noncomputable def S.MarksLeast_l0 : Nat → (Int → Option Int) → Int → Bool → Int → Int → (List (Int × Bool)) → Option Int
  | 0, _, _, _, _, _, _ => none
  | m + 1, e4_0, a3, a4, a5, a6, a7 =>
    (bif (decide (a5 < (a7.length : Int))) then
    (bif decide ((0 : Int) ≤ a5 ∧ a5 < (a7.length : Int)) then
    (bif (!(nthI a7 a5 df8).2) then
    (bif a4 then
    (bif decide ((0 : Int) ≤ a5 ∧ a5 < (a7.length : Int)) then
    (S.MarksLeast_l0 m e4_0 ((nthI a7 a5 df8).1) false (IntKind.wrap .i64 (a5 + 1)) a6 a7)
    else
    none)
    else
    (bif decide ((0 : Int) ≤ a5 ∧ a5 < (a7.length : Int)) then
    (bif (decide ((nthI a7 a5 df8).1 < a3)) then
    (bif decide ((0 : Int) ≤ a5 ∧ a5 < (a7.length : Int)) then
    (S.MarksLeast_l0 m e4_0 ((nthI a7 a5 df8).1) false (IntKind.wrap .i64 (a5 + 1)) a6 a7)
    else
    none)
    else
    (S.MarksLeast_l0 m e4_0 a3 a4 (IntKind.wrap .i64 (a5 + 1)) a6 a7))
    else
    none))
    else
    (S.MarksLeast_l0 m e4_0 a3 a4 (IntKind.wrap .i64 (a5 + 1)) a6 a7))
    else
    none)
    else
    (e4_0 a3))
noncomputable def S.MarksLeast (a1 : Int) (a2 : List (Int × Bool)) : Option Int :=
(S.MarksLeast_l0 fu (fun y18 =>
(some y18)) (-1) true 0 a1 a2)
noncomputable def H186_4 : LoopH := ⟨⟨((.one (.unk)) :: (.one (.ptr 0 0)) :: (.one (.unk)) :: hh :: hh :: hh :: (hu 34 [])), [(53, [.hole, .sl 0])], [(225, sh6, .ro)]⟩, ([0, 2] ++ rg 6 34), [], ([0, 1] ++ rg 4 36), [], []⟩
noncomputable def k186_4 : List PK := ((.int .i64) :: (.bool) :: (ki 2 [.row sh6]))
noncomputable def W186_4 (m : Nat) (k : Kont Int) : Cur k186_4 (Option Int) := S.MarksLeast_l0 m (exF k (.exit 0) ⟨(hu 3 (hh :: (hu 36 []))), [], []⟩ [.int .i64])
noncomputable def E186_4 (m : Nat) : List Prm → Kont Int → Option Int := eL k186_4 (W186_4 m)
theorem ev186_4 (m : Nat) (k : Kont Int) (a : Args k186_4) : evL Tryz.prog G186 loopNil c186_4 (turn Tryz.prog (0, 0) H186_4 (E186_4 m) k) (H186_4.sk.fl (encP k186_4 a)) = unc k186_4 (W186_4 (m + 1) k) a := by kernel_rfl
theorem ok186_4 (m : Nat) : LoopOk Tryz.prog (0, 0) c186_4 (enter Tryz.prog (0, 0) H186_4 (E186_4 m)) := loop_gen (Fl := W186_4) (G := G186) (L := loopNil) envNil_good (no_loops (c := c186_4) (by kernel_rfl)) (fun _ _ => by kernel_rfl) ev186_4 m
noncomputable def L186 : LEnv Int := (loopCons 4 (enter Tryz.prog (0, 0) H186_4 (E186_4 fu)) loopNil)
theorem lq186 : loopsOf c186 = [c186_4] := by kernel_rfl
theorem fr186_4 : firstReg c186_4 = some 4 := by kernel_rfl
theorem le186_4 : L186 4 = enter Tryz.prog (0, 0) H186_4 (E186_4 fu) := by kernel_rfl
theorem lm186 : ∀ x ∈ [c186_4], ∀ id, firstReg x = some id → LoopOk Tryz.prog (0, 0) x (L186 id) := (loops_cons fr186_4 le186_4 (ok186_4 fu) loops_nil)
theorem lp186 : ∀ x ∈ loopsOf c186, ∀ id, firstReg x = some id → LoopOk Tryz.prog (0, 0) x (L186 id) := loops_eq lq186 lm186
noncomputable def sg186 : Sg := ⟨⟨[.agg [.hole, .sl 0]], [], [(225, sh6, .ro)]⟩, [.int .i64, .row sh6], ⟨[hh], [], []⟩, [.int .i64]⟩
noncomputable def E186 : Fun2 := eOf sg186 S.MarksLeast
theorem ev186 (a : Args sg186.ks) : evS Tryz.prog G186 L186 (0, 0) [] Tryz.f186 c186 (kOf sg186) (sg186.sk.fl (encP sg186.ks a)) = unc sg186.ks S.MarksLeast a := by kernel_rfl
theorem good186 : Vm.Good Tryz.prog 186 E186 := good_gen (G := G186) (L := L186) (c := c186) (rn := []) (N := (0, 0)) envNil_good lp186 Tryz.func186 (by kernel_rfl) (by kernel_rfl) (fun _ => by kernel_rfl) ev186
noncomputable def G99 : Env := (envCons 111 [] E111 (envCons 186 [] E186 envNil))
noncomputable def c99 : Code := bodyOf Tryz.f99
noncomputable def c99_5 : Code := (loopsOf c99).getD 0 .skip
noncomputable def S.MarksOk_l0 : Nat → (Bool → Int → Int → (List (Int × Bool)) → Option Bool) → (Int → Int → (List (Int × Bool)) → Option Bool) → Int → Int → Int → (List (Int × Bool)) → Option Bool
  | 0, _, _, _, _, _, _ => none
  | m + 1, e5_0, e5_1, a8, a9, a10, a11 =>
    (bif (decide (a9 < (a11.length : Int))) then
    (bif decide ((0 : Int) ≤ a9 ∧ a9 < (a11.length : Int)) then
    (Option.bind (S.l05Time ((nthI a11 a9 df8).1)) fun r14 =>
    (bif (!r14) then
    (e5_0 false a8 a10 a11)
    else
    (bif decide ((0 : Int) ≤ a9 ∧ a9 < (a11.length : Int)) then
    (let v15 : Int := (if (nthI a11 a9 df8).1 > a8 then (nthI a11 a9 df8).1 else a8)
    (S.MarksOk_l0 m e5_0 e5_1 v15 (IntKind.wrap .i64 (a9 + 1)) a10 a11))
    else
    none)))
    else
    none)
    else
    (e5_1 a8 a10 a11))
noncomputable def S.MarksOk (a1 : Int) (a2 : List (Int × Bool)) : Option Bool :=
(bif (decide ((a2.length : Int) < 1)) then
(some false)
else
(bif (decide (4 < (a2.length : Int))) then
(some false)
else
(Option.bind (S.l05Time a1) fun r7 =>
(bif (!r7) then
(some false)
else
(S.MarksOk_l0 fu (fun y17 y18 y19 y20 =>
(some y17)) (fun y21 y22 y23 =>
(Option.bind (S.MarksLeast y22 y23) fun r24 =>
(bif (decide (r24 ≤ y22)) then
(some (decide (y22 ≤ y21)))
else
(some false)))) 0 0 a1 a2)))))
noncomputable def H99_5 : LoopH := ⟨⟨((.one (.unk)) :: (.one (.ptr 0 0)) :: (.one (.unk)) :: hh :: hh :: (hu 50 [])), [(53, [.hole, .sl 0])], [(225, sh6, .ro)]⟩, ([0, 2] ++ rg 5 50), [], ([0] ++ rg 4 51), [], []⟩
noncomputable def k99_5 : List PK := (ki 3 [.row sh6])
noncomputable def W99_5 (m : Nat) (k : Kont Bool) : Cur k99_5 (Option Bool) := S.MarksOk_l0 m (exF k .ret ⟨((.one (.unk)) :: (.one (.ptr 0 0)) :: hh :: hh :: (hu 51 [])), [(53, [.hole, .sl 0])], [(225, sh6, .ro)]⟩ ((.bool) :: (ki 2 [.row sh6]))) (exF k (.exit 0) ⟨((.one (.unk)) :: (.one (.ptr 0 0)) :: (.one (.unk)) :: hh :: (hu 51 [])), [(53, [.hole, .sl 0])], [(225, sh6, .ro)]⟩ (ki 2 [.row sh6]))
noncomputable def E99_5 (m : Nat) : List Prm → Kont Bool → Option Bool := eL k99_5 (W99_5 m)
theorem ev99_5 (m : Nat) (k : Kont Bool) (a : Args k99_5) : evL Tryz.prog G99 loopNil c99_5 (turn Tryz.prog (0, 0) H99_5 (E99_5 m) k) (H99_5.sk.fl (encP k99_5 a)) = unc k99_5 (W99_5 (m + 1) k) a := by kernel_rfl
theorem ok99_5 (m : Nat) : LoopOk Tryz.prog (0, 0) c99_5 (enter Tryz.prog (0, 0) H99_5 (E99_5 m)) := loop_gen (Fl := W99_5) (G := G99) (L := loopNil) (envCons_good good111 (envCons_good good186 envNil_good)) (no_loops (c := c99_5) (by kernel_rfl)) (fun _ _ => by kernel_rfl) ev99_5 m
noncomputable def L99 : LEnv Bool := (loopCons 5 (enter Tryz.prog (0, 0) H99_5 (E99_5 fu)) loopNil)
theorem lq99 : loopsOf c99 = [c99_5] := by kernel_rfl
theorem fr99_5 : firstReg c99_5 = some 5 := by kernel_rfl
theorem le99_5 : L99 5 = enter Tryz.prog (0, 0) H99_5 (E99_5 fu) := by kernel_rfl
theorem lm99 : ∀ x ∈ [c99_5], ∀ id, firstReg x = some id → LoopOk Tryz.prog (0, 0) x (L99 id) := (loops_cons fr99_5 le99_5 (ok99_5 fu) loops_nil)
theorem lp99 : ∀ x ∈ loopsOf c99, ∀ id, firstReg x = some id → LoopOk Tryz.prog (0, 0) x (L99 id) := loops_eq lq99 lm99
noncomputable def sg99 : Sg := ⟨⟨[.agg [.hole, .sl 0]], [], [(225, sh6, .ro)]⟩, [.int .i64, .row sh6], ⟨[hh], [], []⟩, [.bool]⟩
noncomputable def E99 : Fun2 := eOf sg99 S.MarksOk
theorem ev99 (a : Args sg99.ks) : evS Tryz.prog G99 L99 (0, 0) [] Tryz.f99 c99 (kOf sg99) (sg99.sk.fl (encP sg99.ks a)) = unc sg99.ks S.MarksOk a := by kernel_rfl
theorem good99 : Vm.Good Tryz.prog 99 E99 := good_gen (G := G99) (L := L99) (c := c99) (rn := []) (N := (0, 0)) (envCons_good good111 (envCons_good good186 envNil_good)) lp99 Tryz.func99 (by kernel_rfl) (by kernel_rfl) (fun _ => by kernel_rfl) ev99
noncomputable def G117 : Env := envNil
noncomputable def c117 : Code := bodyOf Tryz.f117
noncomputable def S.l06Win (a1 a2 : Int) : Option Bool :=
(bif (decide (0 ≤ a1)) then
(bif (decide (a1 < a2)) then
(some (decide (a2 ≤ 1100)))
else
(some false))
else
(some false))
noncomputable def sg117 : Sg := ⟨⟨[.agg (ho 2 [])], [], []⟩, (ki 2 []), ⟨[hh], [], []⟩, [.bool]⟩
noncomputable def E117 : Fun2 := eOf sg117 S.l06Win
theorem ev117 (a : Args sg117.ks) : evS Tryz.prog G117 loopNil (0, 0) [] Tryz.f117 c117 (kOf sg117) (sg117.sk.fl (encP sg117.ks a)) = unc sg117.ks S.l06Win a := by kernel_rfl
theorem good117 : Vm.Good Tryz.prog 117 E117 := good_gen (G := G117) (L := loopNil) (c := c117) (rn := []) (N := (0, 0)) envNil_good (no_loops (c := c117) (by kernel_rfl)) Tryz.func117 (by kernel_rfl) (by kernel_rfl) (fun _ => by kernel_rfl) ev117
noncomputable def G115 : Env := envNil
noncomputable def c115 : Code := bodyOf Tryz.f115
noncomputable def c115_3 : Code := (loopsOf c115).getD 0 .skip
noncomputable def c115_6 : Code := (loopsOf c115_3).getD 0 .skip
noncomputable def S.TopOf_l1 : Nat → (Int → List Int → List Int → Option (List Int)) → Int → Int → List Int → List Int → Option (List Int)
  | 0, _, _, _, _, _ => none
  | m + 1, e6_0, a10, a11, a12, a13 =>
    (bif (decide (a11 < (a12.length : Int))) then
    (bif decide ((0 : Int) ≤ a11 ∧ a11 < (a12.length : Int)) then
    (bif decide ((0 : Int) ≤ a10 ∧ a10 < (a12.length : Int)) then
    (let v16 : Bool := (decide ((nthI a12 a10 (0 : Int)) < (nthI a12 a11 (0 : Int))))
    (bif v16 then
    (S.TopOf_l1 m e6_0 a11 (IntKind.wrap .i64 (a11 + 1)) a12 a13)
    else
    (S.TopOf_l1 m e6_0 a10 (IntKind.wrap .i64 (a11 + 1)) a12 a13)))
    else
    none)
    else
    none)
    else
    (e6_0 a10 a12 a13))
noncomputable def S.TopOf_l0 : Nat → (List Int → Option (List Int)) → List Int → List Int → Option (List Int)
  | 0, _, _, _ => none
  | m + 1, e3_0, a4, a5 =>
    (bif (decide ((a5.length : Int) < 4)) then
    (bif (decide (0 < (a4.length : Int))) then
    (S.TopOf_l1 fu (fun y19 y20 y21 =>
    (bif decide ((0 : Int) ≤ y19 ∧ y19 < (y20.length : Int)) then
    (let v22 : List Int := [(nthI y20 y19 (0 : Int))]
    (bif decide ((y21.length + v22.length) * 8 ≤ 140737488355328) then
    (bif decide ((0 : Int) ≤ 0 ∧ 0 ≤ y19 ∧ y19 ≤ (y20.length : Int)) then
    (let v23 : Int := (IntKind.wrap .i64 (y19 + 1))
    (bif decide ((0 : Int) ≤ v23 ∧ v23 ≤ (y20.length : Int) ∧ (y20.length : Int) ≤ (y20.length : Int)) then
    (bif decide ((([] : List (Int)).length + ((y20.take (Int.toNat y19)).drop (Int.toNat 0)).length) * 8 ≤ 140737488355328) then
    (let v24 : List Int := (([] : List (Int)) ++ ((y20.take (Int.toNat y19)).drop (Int.toNat 0)))
    (bif decide ((v24.length + ((y20.take (Int.toNat (y20.length : Int))).drop (Int.toNat v23)).length) * 8 ≤ 140737488355328) then
    (let v25 : List Int := (v24 ++ ((y20.take (Int.toNat (y20.length : Int))).drop (Int.toNat v23)))
    (S.TopOf_l0 m e3_0 v25 (y21 ++ v22)))
    else
    none))
    else
    none)
    else
    none))
    else
    none)
    else
    none))
    else
    none)) 0 0 a4 a5)
    else
    (e3_0 a5))
    else
    (e3_0 a5))
noncomputable def S.TopOf (a1 a2 : List Int) : Option (List Int) :=
(bif decide ((([] : List (Int)).length + a1.length) * 8 ≤ 140737488355328) then
(let v3 : List Int := (([] : List (Int)) ++ a1)
(bif decide ((v3.length + a2.length) * 8 ≤ 140737488355328) then
(S.TopOf_l0 fu (fun y26 =>
(some y26)) (v3 ++ a2) [])
else
none))
else
none)
noncomputable def H115_6 : LoopH := ⟨⟨(hu 5 ((.one (.sl 0)) :: (.one (.sl 1)) :: hh :: hh :: (hu 48 []))), [], [(3, (.int .i64), .own), (3, (.int .i64), .own)]⟩, (rg 0 5 ++ rg 9 48), [], (rg 0 4 ++ rg 8 49), [], []⟩
noncomputable def k115_6 : List PK := (ki 2 [.row (.int .i64), .row (.int .i64)])
noncomputable def W115_6 (m : Nat) (k : Kont (List Int)) : Cur k115_6 (Option (List Int)) := S.TopOf_l1 m (exF k (.exit 2) ⟨(hu 5 ((.one (.sl 0)) :: (.one (.sl 1)) :: hh :: (hu 49 []))), [], [(3, (.int .i64), .own), (3, (.int .i64), .own)]⟩ [.int .i64, .row (.int .i64), .row (.int .i64)])
noncomputable def E115_6 (m : Nat) : List Prm → Kont (List Int) → Option (List Int) := eL k115_6 (W115_6 m)
theorem ev115_6 (m : Nat) (k : Kont (List Int)) (a : Args k115_6) : evL Tryz.prog G115 loopNil c115_6 (turn Tryz.prog (0, 0) H115_6 (E115_6 m) k) (H115_6.sk.fl (encP k115_6 a)) = unc k115_6 (W115_6 (m + 1) k) a := by kernel_rfl
theorem ok115_6 (m : Nat) : LoopOk Tryz.prog (0, 0) c115_6 (enter Tryz.prog (0, 0) H115_6 (E115_6 m)) := loop_gen (Fl := W115_6) (G := G115) (L := loopNil) envNil_good (no_loops (c := c115_6) (by kernel_rfl)) (fun _ _ => by kernel_rfl) ev115_6 m
noncomputable def L115_3 : LEnv (List Int) := (loopCons 6 (enter Tryz.prog (0, 0) H115_6 (E115_6 fu)) loopNil)
theorem lq115_3 : loopsOf c115_3 = [c115_6] := by kernel_rfl
theorem fr115_6 : firstReg c115_6 = some 6 := by kernel_rfl
theorem le115_6 : L115_3 6 = enter Tryz.prog (0, 0) H115_6 (E115_6 fu) := by kernel_rfl
theorem lm115_3 : ∀ x ∈ [c115_6], ∀ id, firstReg x = some id → LoopOk Tryz.prog (0, 0) x (L115_3 id) := (loops_cons fr115_6 le115_6 (ok115_6 fu) loops_nil)
theorem lp115_3 : ∀ x ∈ loopsOf c115_3, ∀ id, firstReg x = some id → LoopOk Tryz.prog (0, 0) x (L115_3 id) := loops_eq lq115_3 lm115_3
noncomputable def H115_3 : LoopH := ⟨⟨(hu 5 ((.one (.sl 0)) :: (.one (.sl 1)) :: (hu 50 []))), [], [(3, (.int .i64), .own), (3, (.int .i64), .own)]⟩, (rg 0 5 ++ rg 7 50), [], (rg 0 4 ++ [5] ++ rg 7 50), [], []⟩
noncomputable def k115_3 : List PK := [.row (.int .i64), .row (.int .i64)]
noncomputable def W115_3 (m : Nat) (k : Kont (List Int)) : Cur k115_3 (Option (List Int)) := S.TopOf_l0 m (exF k (.exit 0) ⟨(hu 6 ((.one (.sl 0)) :: (hu 50 []))), [], [(3, (.int .i64), .own)]⟩ [.row (.int .i64)])
noncomputable def E115_3 (m : Nat) : List Prm → Kont (List Int) → Option (List Int) := eL k115_3 (W115_3 m)
theorem ev115_3 (m : Nat) (k : Kont (List Int)) (a : Args k115_3) : evL Tryz.prog G115 L115_3 c115_3 (turn Tryz.prog (0, 0) H115_3 (E115_3 m) k) (H115_3.sk.fl (encP k115_3 a)) = unc k115_3 (W115_3 (m + 1) k) a := by kernel_rfl
theorem ok115_3 (m : Nat) : LoopOk Tryz.prog (0, 0) c115_3 (enter Tryz.prog (0, 0) H115_3 (E115_3 m)) := loop_gen (Fl := W115_3) (G := G115) (L := L115_3) envNil_good lp115_3 (fun _ _ => by kernel_rfl) ev115_3 m
noncomputable def L115 : LEnv (List Int) := (loopCons 3 (enter Tryz.prog (0, 0) H115_3 (E115_3 fu)) loopNil)
theorem lq115 : loopsOf c115 = [c115_3] := by kernel_rfl
theorem fr115_3 : firstReg c115_3 = some 3 := by kernel_rfl
theorem le115_3 : L115 3 = enter Tryz.prog (0, 0) H115_3 (E115_3 fu) := by kernel_rfl
theorem lm115 : ∀ x ∈ [c115_3], ∀ id, firstReg x = some id → LoopOk Tryz.prog (0, 0) x (L115 id) := (loops_cons fr115_3 le115_3 (ok115_3 fu) loops_nil)
theorem lp115 : ∀ x ∈ loopsOf c115, ∀ id, firstReg x = some id → LoopOk Tryz.prog (0, 0) x (L115 id) := loops_eq lq115 lm115
noncomputable def sg115 : Sg := ⟨⟨[.one (.sl 0), .one (.sl 1)], [], [(3, (.int .i64), .ro), (3, (.int .i64), .ro)]⟩, [.row (.int .i64), .row (.int .i64)], ⟨[.one (.sl 0)], [], [(3, (.int .i64), .own)]⟩, [.row (.int .i64)]⟩
noncomputable def E115 : Fun2 := eOf sg115 S.TopOf
theorem ev115 (a : Args sg115.ks) : evS Tryz.prog G115 L115 (0, 0) [] Tryz.f115 c115 (kOf sg115) (sg115.sk.fl (encP sg115.ks a)) = unc sg115.ks S.TopOf a := by kernel_rfl
theorem good115 : Vm.Good Tryz.prog 115 E115 := good_gen (G := G115) (L := L115) (c := c115) (rn := []) (N := (0, 0)) envNil_good lp115 Tryz.func115 (by kernel_rfl) (by kernel_rfl) (fun _ => by kernel_rfl) ev115
noncomputable def G199 : Env := envNil
noncomputable def c199 : Code := bodyOf Tryz.f199
noncomputable def c199_4 : Code := (loopsOf c199).getD 0 .skip
noncomputable def S.l07Same_l0 : Nat → (Bool → Option Bool) → (Option Bool) → Int → List Int → List Int → Option Bool
  | 0, _, _, _, _, _ => none
  | m + 1, e4_0, e4_1, a5, a6, a7 =>
    (bif (decide (a5 < (a6.length : Int))) then
    (bif decide ((0 : Int) ≤ a5 ∧ a5 < (a6.length : Int)) then
    (bif decide ((0 : Int) ≤ a5 ∧ a5 < (a7.length : Int)) then
    (bif ((nthI a6 a5 (0 : Int)) != (nthI a7 a5 (0 : Int))) then
    (e4_0 false)
    else
    (S.l07Same_l0 m e4_0 e4_1 (IntKind.wrap .i64 (a5 + 1)) a6 a7))
    else
    none)
    else
    none)
    else
    e4_1)
noncomputable def S.l07Same (a1 a2 : List Int) : Option Bool :=
(bif ((a1.length : Int) != (a2.length : Int)) then
(some false)
else
(S.l07Same_l0 fu (fun y12 =>
(some y12)) (some true) 0 a1 a2))
noncomputable def H199_4 : LoopH := ⟨⟨((.one (.sl 0)) :: (.one (.sl 1)) :: (hu 3 (hh :: (hu 20 [])))), [], [(3, (.int .i64), .ro), (3, (.int .i64), .ro)]⟩, ([2, 3, 4] ++ rg 6 20), [], (rg 0 4 ++ rg 5 21), [], []⟩
noncomputable def k199_4 : List PK := [.int .i64, .row (.int .i64), .row (.int .i64)]
noncomputable def W199_4 (m : Nat) (k : Kont Bool) : Cur k199_4 (Option Bool) := S.l07Same_l0 m (exF k .ret ⟨(hu 4 (hh :: (hu 21 []))), [], []⟩ [.bool]) (exF k (.exit 0) ⟨(hu 26 []), [], []⟩ [])
noncomputable def E199_4 (m : Nat) : List Prm → Kont Bool → Option Bool := eL k199_4 (W199_4 m)
theorem ev199_4 (m : Nat) (k : Kont Bool) (a : Args k199_4) : evL Tryz.prog G199 loopNil c199_4 (turn Tryz.prog (0, 0) H199_4 (E199_4 m) k) (H199_4.sk.fl (encP k199_4 a)) = unc k199_4 (W199_4 (m + 1) k) a := by kernel_rfl
theorem ok199_4 (m : Nat) : LoopOk Tryz.prog (0, 0) c199_4 (enter Tryz.prog (0, 0) H199_4 (E199_4 m)) := loop_gen (Fl := W199_4) (G := G199) (L := loopNil) envNil_good (no_loops (c := c199_4) (by kernel_rfl)) (fun _ _ => by kernel_rfl) ev199_4 m
noncomputable def L199 : LEnv Bool := (loopCons 4 (enter Tryz.prog (0, 0) H199_4 (E199_4 fu)) loopNil)
theorem lq199 : loopsOf c199 = [c199_4] := by kernel_rfl
theorem fr199_4 : firstReg c199_4 = some 4 := by kernel_rfl
theorem le199_4 : L199 4 = enter Tryz.prog (0, 0) H199_4 (E199_4 fu) := by kernel_rfl
theorem lm199 : ∀ x ∈ [c199_4], ∀ id, firstReg x = some id → LoopOk Tryz.prog (0, 0) x (L199 id) := (loops_cons fr199_4 le199_4 (ok199_4 fu) loops_nil)
theorem lp199 : ∀ x ∈ loopsOf c199, ∀ id, firstReg x = some id → LoopOk Tryz.prog (0, 0) x (L199 id) := loops_eq lq199 lm199
noncomputable def sg199 : Sg := ⟨⟨[.one (.sl 0), .one (.sl 1)], [], [(3, (.int .i64), .ro), (3, (.int .i64), .ro)]⟩, [.row (.int .i64), .row (.int .i64)], ⟨[hh], [], []⟩, [.bool]⟩
noncomputable def E199 : Fun2 := eOf sg199 S.l07Same
theorem ev199 (a : Args sg199.ks) : evS Tryz.prog G199 L199 (0, 0) [] Tryz.f199 c199 (kOf sg199) (sg199.sk.fl (encP sg199.ks a)) = unc sg199.ks S.l07Same a := by kernel_rfl
theorem good199 : Vm.Good Tryz.prog 199 E199 := good_gen (G := G199) (L := L199) (c := c199) (rn := []) (N := (0, 0)) envNil_good lp199 Tryz.func199 (by kernel_rfl) (by kernel_rfl) (fun _ => by kernel_rfl) ev199
noncomputable def G114 : Env := envNil
noncomputable def c114 : Code := bodyOf Tryz.f114
noncomputable def S.WideOf (a1 : Int) : Option (Int × Int) :=
(bif (decide (a1 < 0)) then
(some ((-1), (IntKind.wrap .u64 a1)))
else
(some (0, (IntKind.wrap .u64 a1))))
noncomputable def sg114 : Sg := ⟨⟨[hh], [], []⟩, [.int .i64], ⟨[.agg (ho 2 [])], [], []⟩, [.int .i64, .int .u64]⟩
noncomputable def E114 : Fun2 := eOf sg114 S.WideOf
theorem ev114 (a : Args sg114.ks) : evS Tryz.prog G114 loopNil (0, 0) [] Tryz.f114 c114 (kOf sg114) (sg114.sk.fl (encP sg114.ks a)) = unc sg114.ks S.WideOf a := by kernel_rfl
theorem good114 : Vm.Good Tryz.prog 114 E114 := good_gen (G := G114) (L := loopNil) (c := c114) (rn := []) (N := (0, 0)) envNil_good (no_loops (c := c114) (by kernel_rfl)) Tryz.func114 (by kernel_rfl) (by kernel_rfl) (fun _ => by kernel_rfl) ev114
noncomputable def G113 : Env := envNil
noncomputable def c113 : Code := bodyOf Tryz.f113
noncomputable def S.WideAdd (a1 a2 a3 a4 : Int) : Option (Int × Int) :=
(let v5 : Int := (IntKind.wrap .u64 (a2 + a4))
(let v8 : Int := (IntKind.wrap .u64 ((IntKind.wrap .u64 a1) + (IntKind.wrap .u64 a3)))
(bif (decide (v5 < a2)) then
(some ((IntKind.wrap .i64 (IntKind.wrap .u64 (v8 + 1))), v5))
else
(some ((IntKind.wrap .i64 v8), v5)))))
noncomputable def sg113 : Sg := ⟨⟨[.agg (ho 2 []), .agg (ho 2 [])], [], []⟩, [.int .i64, .int .u64, .int .i64, .int .u64], ⟨[.agg (ho 2 [])], [], []⟩, [.int .i64, .int .u64]⟩
noncomputable def E113 : Fun2 := eOf sg113 S.WideAdd
theorem ev113 (a : Args sg113.ks) : evS Tryz.prog G113 loopNil (0, 0) [] Tryz.f113 c113 (kOf sg113) (sg113.sk.fl (encP sg113.ks a)) = unc sg113.ks S.WideAdd a := by kernel_rfl
theorem good113 : Vm.Good Tryz.prog 113 E113 := good_gen (G := G113) (L := loopNil) (c := c113) (rn := []) (N := (0, 0)) envNil_good (no_loops (c := c113) (by kernel_rfl)) Tryz.func113 (by kernel_rfl) (by kernel_rfl) (fun _ => by kernel_rfl) ev113
noncomputable def G292 : Env := (envCons 113 [] E113 envNil)
noncomputable def c292 : Code := bodyOf Tryz.f292
noncomputable def S.WideNeg (a1 a2 : Int) : Option (Int × Int) :=
(Option.bind (S.WideAdd (IntKind.wrap .i64 ((-1) - a1)) (IntKind.wrap .u64 (18446744073709551615 - a2)) 0 1) fun r5 =>
(some (r5.1, r5.2)))
noncomputable def sg292 : Sg := ⟨⟨[.agg (ho 2 [])], [], []⟩, [.int .i64, .int .u64], ⟨[.agg (ho 2 [])], [], []⟩, [.int .i64, .int .u64]⟩
noncomputable def E292 : Fun2 := eOf sg292 S.WideNeg
theorem ev292 (a : Args sg292.ks) : evS Tryz.prog G292 loopNil (0, 0) [] Tryz.f292 c292 (kOf sg292) (sg292.sk.fl (encP sg292.ks a)) = unc sg292.ks S.WideNeg a := by kernel_rfl
theorem good292 : Vm.Good Tryz.prog 292 E292 := good_gen (G := G292) (L := loopNil) (c := c292) (rn := []) (N := (0, 0)) (envCons_good good113 envNil_good) (no_loops (c := c292) (by kernel_rfl)) Tryz.func292 (by kernel_rfl) (by kernel_rfl) (fun _ => by kernel_rfl) ev292
noncomputable def G258 : Env := (envCons 114 [] E114 (envCons 292 [] E292 (envCons 113 [] E113 envNil)))
noncomputable def c258 : Code := bodyOf Tryz.f258
noncomputable def c258_7 : Code := (loopsOf c258).getD 0 .skip
noncomputable def S.l03Times_l0 : Nat → (Int → Int → Int → Int → Option (Int × Int)) → Int → Int → Int → Int → Int → Int → Int → Option (Int × Int)
  | 0, _, _, _, _, _, _, _, _ => none
  | m + 1, e7_0, a8, a9, a10, a11, a12, a13, a14 =>
    (bif (decide (0 < a8)) then
    (bif decide (2 = 0) then
    none
    else
    (bif ((Int.tmod a8 2) == 1) then
    (Option.bind (S.WideAdd a11 a12 a13 a14) fun r17 =>
    (Option.bind (S.WideAdd a13 a14 a13 a14) fun r18 =>
    (bif decide (2 = 0) then
    none
    else
    (S.l03Times_l0 m e7_0 (IntKind.wrap .u64 (Int.tdiv a8 2)) a9 a10 r17.1 r17.2 r18.1 r18.2))))
    else
    (Option.bind (S.WideAdd a13 a14 a13 a14) fun r20 =>
    (bif decide (2 = 0) then
    none
    else
    (S.l03Times_l0 m e7_0 (IntKind.wrap .u64 (Int.tdiv a8 2)) a9 a10 a11 a12 r20.1 r20.2)))))
    else
    (e7_0 a9 a10 a11 a12))
noncomputable def S.l03Times (a1 a2 : Int) : Option (Int × Int) :=
(Option.bind (S.WideOf a1) fun r3 =>
(let v4 : Int := (IntKind.wrap .u64 a2)
(bif (decide (a2 < 0)) then
(Option.bind (S.WideNeg r3.1 r3.2) fun r6 =>
(S.l03Times_l0 fu (fun y22 y23 y24 y25 =>
(some (y24, y25))) (IntKind.wrap .u64 (0 - v4)) 0 0 0 0 r6.1 r6.2))
else
(S.l03Times_l0 fu (fun y26 y27 y28 y29 =>
(some (y28, y29))) v4 0 0 0 0 r3.1 r3.2))))
noncomputable def H258_7 : LoopH := ⟨⟨(hu 4 ((.one (.ptr 0 0)) :: (.one (.ptr 1 0)) :: (.one (.ptr 2 0)) :: hh :: (hu 25 []))), [(100, (ho 2 [])), (100, (ho 2 [])), (100, (ho 2 []))], []⟩, (rg 0 4 ++ rg 8 25), [], (rg 0 4 ++ rg 6 27), [], []⟩
noncomputable def k258_7 : List PK := [.int .u64, .int .i64, .int .u64, .int .i64, .int .u64, .int .i64, .int .u64]
noncomputable def W258_7 (m : Nat) (k : Kont (Int × Int)) : Cur k258_7 (Option (Int × Int)) := S.l03Times_l0 m (exF k (.exit 0) ⟨(hu 4 ((.one (.ptr 0 0)) :: (.one (.ptr 1 0)) :: (hu 27 []))), [(100, (ho 2 [])), (100, (ho 2 []))], []⟩ [.int .i64, .int .u64, .int .i64, .int .u64])
noncomputable def E258_7 (m : Nat) : List Prm → Kont (Int × Int) → Option (Int × Int) := eL k258_7 (W258_7 m)
theorem ev258_7 (m : Nat) (k : Kont (Int × Int)) (a : Args k258_7) : evL Tryz.prog G258 loopNil c258_7 (turn Tryz.prog (0, 0) H258_7 (E258_7 m) k) (H258_7.sk.fl (encP k258_7 a)) = unc k258_7 (W258_7 (m + 1) k) a := by kernel_rfl
theorem ok258_7 (m : Nat) : LoopOk Tryz.prog (0, 0) c258_7 (enter Tryz.prog (0, 0) H258_7 (E258_7 m)) := loop_gen (Fl := W258_7) (G := G258) (L := loopNil) (envCons_good good114 (envCons_good good292 (envCons_good good113 envNil_good))) (no_loops (c := c258_7) (by kernel_rfl)) (fun _ _ => by kernel_rfl) ev258_7 m
noncomputable def L258 : LEnv (Int × Int) := (loopCons 7 (enter Tryz.prog (0, 0) H258_7 (E258_7 fu)) loopNil)
theorem lq258 : loopsOf c258 = [c258_7] := by kernel_rfl
theorem fr258_7 : firstReg c258_7 = some 7 := by kernel_rfl
theorem le258_7 : L258 7 = enter Tryz.prog (0, 0) H258_7 (E258_7 fu) := by kernel_rfl
theorem lm258 : ∀ x ∈ [c258_7], ∀ id, firstReg x = some id → LoopOk Tryz.prog (0, 0) x (L258 id) := (loops_cons fr258_7 le258_7 (ok258_7 fu) loops_nil)
theorem lp258 : ∀ x ∈ loopsOf c258, ∀ id, firstReg x = some id → LoopOk Tryz.prog (0, 0) x (L258 id) := loops_eq lq258 lm258
noncomputable def sg258 : Sg := ⟨⟨[hh, hh], [], []⟩, (ki 2 []), ⟨[.agg (ho 2 [])], [], []⟩, [.int .i64, .int .u64]⟩
noncomputable def E258 : Fun2 := eOf sg258 S.l03Times
theorem ev258 (a : Args sg258.ks) : evS Tryz.prog G258 L258 (0, 0) [] Tryz.f258 c258 (kOf sg258) (sg258.sk.fl (encP sg258.ks a)) = unc sg258.ks S.l03Times a := by kernel_rfl
theorem good258 : Vm.Good Tryz.prog 258 E258 := good_gen (G := G258) (L := L258) (c := c258) (rn := []) (N := (0, 0)) (envCons_good good114 (envCons_good good292 (envCons_good good113 envNil_good))) lp258 Tryz.func258 (by kernel_rfl) (by kernel_rfl) (fun _ => by kernel_rfl) ev258
noncomputable def G200 : Env := (envCons 258 [] E258 envNil)
noncomputable def c200 : Code := bodyOf Tryz.f200
noncomputable def S.l07Times (a1 a2 : Int) : Option (Int × Int) :=
(Option.bind (S.l03Times a1 a2) fun r3 =>
(some (r3.1, r3.2)))
noncomputable def sg200 : Sg := ⟨⟨[hh, hh], [], []⟩, (ki 2 []), ⟨[.agg (ho 2 [])], [], []⟩, [.int .i64, .int .u64]⟩
noncomputable def E200 : Fun2 := eOf sg200 S.l07Times
theorem ev200 (a : Args sg200.ks) : evS Tryz.prog G200 loopNil (0, 0) [] Tryz.f200 c200 (kOf sg200) (sg200.sk.fl (encP sg200.ks a)) = unc sg200.ks S.l07Times a := by kernel_rfl
theorem good200 : Vm.Good Tryz.prog 200 E200 := good_gen (G := G200) (L := loopNil) (c := c200) (rn := []) (N := (0, 0)) (envCons_good good258 envNil_good) (no_loops (c := c200) (by kernel_rfl)) Tryz.func200 (by kernel_rfl) (by kernel_rfl) (fun _ => by kernel_rfl) ev200
noncomputable def G201 : Env := envNil
noncomputable def c201 : Code := bodyOf Tryz.f201
noncomputable def S.WideCmp (a1 a2 a3 a4 : Int) : Option Int :=
(bif (a1 != a3) then
(bif (decide (a1 < a3)) then
(some (-1))
else
(some 1))
else
(bif (a2 != a4) then
(bif (decide (a2 < a4)) then
(some (-1))
else
(some 1))
else
(some 0)))
noncomputable def sg201 : Sg := ⟨⟨[.agg (ho 2 []), .agg (ho 2 [])], [], []⟩, [.int .i64, .int .u64, .int .i64, .int .u64], ⟨[hh], [], []⟩, [.int .i64]⟩
noncomputable def E201 : Fun2 := eOf sg201 S.WideCmp
theorem ev201 (a : Args sg201.ks) : evS Tryz.prog G201 loopNil (0, 0) [] Tryz.f201 c201 (kOf sg201) (sg201.sk.fl (encP sg201.ks a)) = unc sg201.ks S.WideCmp a := by kernel_rfl
theorem good201 : Vm.Good Tryz.prog 201 E201 := good_gen (G := G201) (L := loopNil) (c := c201) (rn := []) (N := (0, 0)) envNil_good (no_loops (c := c201) (by kernel_rfl)) Tryz.func201 (by kernel_rfl) (by kernel_rfl) (fun _ => by kernel_rfl) ev201
noncomputable def G118 : Env := (envCons 115 [] E115 (envCons 199 [] E199 (envCons 114 [] E114 (envCons 113 [] E113 (envCons 200 [] E200 (envCons 201 [] E201 envNil))))))
noncomputable def c118 : Code := bodyOf Tryz.f118
noncomputable def c118_9 : Code := (loopsOf c118).getD 0 .skip
noncomputable def S.AggOk_l0 : Nat → (Int → Int → Int → Int → Int → Int → Int → List Int → Option Bool) → Int → Int → Int → Int → Int → Int → Int → Int → List Int → Option Bool
  | 0, _, _, _, _, _, _, _, _, _, _ => none
  | m + 1, e9_0, a18, a19, a20, a21, a22, a23, a24, a25, a26 =>
    (bif (decide (a18 < (a26.length : Int))) then
    (bif decide ((0 : Int) ≤ a18 ∧ a18 < (a26.length : Int)) then
    (Option.bind (S.WideOf (nthI a26 a18 (0 : Int))) fun r29 =>
    (Option.bind (S.WideAdd a24 a25 r29.1 r29.2) fun r30 =>
    (S.AggOk_l0 m e9_0 (IntKind.wrap .i64 (a18 + 1)) a19 a20 a21 a22 a23 r30.1 r30.2 a26)))
    else
    none)
    else
    (e9_0 a19 a20 a21 a22 a23 a24 a25 a26))
noncomputable def S.AggOk (a1 a2 a3 a4 a5 : Int) (a6 : List Int) : Option Bool :=
(bif (decide (a1 < 0)) then
(some false)
else
(bif (decide (1000000 < a1)) then
(some false)
else
(bif ((a6.length : Int) != (if 4 < a1 then 4 else a1)) then
(some false)
else
(bif (a1 == 0) then
(bif ((a2 == 0) && ((a3 == 0) && true)) then
(bif (a4 == 0) then
(some (a5 == 0))
else
(some false))
else
(some false))
else
(Option.bind (S.TopOf a6 []) fun r12 =>
(Option.bind (S.l07Same r12 a6) fun r13 =>
(bif (!r13) then
(some false)
else
(bif decide ((0 : Int) ≤ 0 ∧ 0 < (a6.length : Int)) then
(bif ((nthI a6 0 (0 : Int)) != a5) then
(some false)
else
(let v16 : Int := (IntKind.wrap .i64 ((a6.length : Int) - 1))
(bif decide ((0 : Int) ≤ v16 ∧ v16 < (a6.length : Int)) then
(bif (decide ((nthI a6 v16 (0 : Int)) < a4)) then
(some false)
else
(S.AggOk_l0 fu (fun y32 y33 y34 y35 y36 y37 y38 y39 =>
(let v41 : Int := (IntKind.wrap .i64 (y32 - (y39.length : Int)))
(bif (v41 == 0) then
(let v43 : Int := (IntKind.wrap .i64 ((y39.length : Int) - 1))
(bif decide ((0 : Int) ≤ v43 ∧ v43 < (y39.length : Int)) then
(bif (y35 == (nthI y39 v43 (0 : Int))) then
(some ((y33 == y37) && ((y34 == y38) && true)))
else
(some false))
else
none))
else
(same (Option.bind (S.l07Times v41 y35) fun r46 =>
(dup (Option.bind (S.WideAdd y37 y38 r46.1 r46.2) fun r47 =>
(let v48 : Int := (IntKind.wrap .i64 (v41 - 1))
(bif decide ((0 : Int) ≤ 3 ∧ 3 < (y39.length : Int)) then
(same (Option.bind (S.WideOf y35) fun r49 =>
(same (Option.bind (S.WideAdd y37 y38 r49.1 r49.2) fun r50 =>
(same (Option.bind (S.l07Times v48 (nthI y39 3 (0 : Int))) fun r51 =>
(dup (Option.bind (S.WideAdd r50.1 r50.2 r51.1 r51.2) fun r52 =>
(Option.bind (S.WideCmp y33 y34 r47.1 r47.2) fun r53 =>
(bif (decide (0 ≤ r53)) then
(Option.bind (S.WideCmp y33 y34 r52.1 r52.2) fun r55 =>
(some (decide (r55 ≤ 0))))
else
(some false))))))
(Option.bind (S.l07Times v48 (nthI y39 3 (0 : Int))) fun r51 =>
(Option.bind (S.WideAdd r50.1 r50.2 r51.1 r51.2) fun r52 =>
(Option.bind (S.WideCmp y33 y34 r47.1 r47.2) fun r53 =>
(bif (decide (0 ≤ r53)) then
(Option.bind (S.WideCmp y33 y34 r52.1 r52.2) fun r55 =>
(some (decide (r55 ≤ 0))))
else
(some false)))))))
(Option.bind (S.WideAdd y37 y38 r49.1 r49.2) fun r50 =>
(Option.bind (S.l07Times v48 (nthI y39 3 (0 : Int))) fun r51 =>
(Option.bind (S.WideAdd r50.1 r50.2 r51.1 r51.2) fun r52 =>
(Option.bind (S.WideCmp y33 y34 r47.1 r47.2) fun r53 =>
(bif (decide (0 ≤ r53)) then
(Option.bind (S.WideCmp y33 y34 r52.1 r52.2) fun r55 =>
(some (decide (r55 ≤ 0))))
else
(some false))))))))
(Option.bind (S.WideOf y35) fun r49 =>
(Option.bind (S.WideAdd y37 y38 r49.1 r49.2) fun r50 =>
(Option.bind (S.l07Times v48 (nthI y39 3 (0 : Int))) fun r51 =>
(Option.bind (S.WideAdd r50.1 r50.2 r51.1 r51.2) fun r52 =>
(Option.bind (S.WideCmp y33 y34 r47.1 r47.2) fun r53 =>
(bif (decide (0 ≤ r53)) then
(Option.bind (S.WideCmp y33 y34 r52.1 r52.2) fun r55 =>
(some (decide (r55 ≤ 0))))
else
(some false))))))))
else
none)))))
(Option.bind (S.l07Times v41 y35) fun r46 =>
(Option.bind (S.WideAdd y37 y38 r46.1 r46.2) fun r47 =>
(let v48 : Int := (IntKind.wrap .i64 (v41 - 1))
(bif decide ((0 : Int) ≤ 3 ∧ 3 < (y39.length : Int)) then
(same (Option.bind (S.WideOf y35) fun r49 =>
(same (Option.bind (S.WideAdd y37 y38 r49.1 r49.2) fun r50 =>
(same (Option.bind (S.l07Times v48 (nthI y39 3 (0 : Int))) fun r51 =>
(dup (Option.bind (S.WideAdd r50.1 r50.2 r51.1 r51.2) fun r52 =>
(Option.bind (S.WideCmp y33 y34 r47.1 r47.2) fun r53 =>
(bif (decide (0 ≤ r53)) then
(Option.bind (S.WideCmp y33 y34 r52.1 r52.2) fun r55 =>
(some (decide (r55 ≤ 0))))
else
(some false))))))
(Option.bind (S.l07Times v48 (nthI y39 3 (0 : Int))) fun r51 =>
(Option.bind (S.WideAdd r50.1 r50.2 r51.1 r51.2) fun r52 =>
(Option.bind (S.WideCmp y33 y34 r47.1 r47.2) fun r53 =>
(bif (decide (0 ≤ r53)) then
(Option.bind (S.WideCmp y33 y34 r52.1 r52.2) fun r55 =>
(some (decide (r55 ≤ 0))))
else
(some false)))))))
(Option.bind (S.WideAdd y37 y38 r49.1 r49.2) fun r50 =>
(Option.bind (S.l07Times v48 (nthI y39 3 (0 : Int))) fun r51 =>
(Option.bind (S.WideAdd r50.1 r50.2 r51.1 r51.2) fun r52 =>
(Option.bind (S.WideCmp y33 y34 r47.1 r47.2) fun r53 =>
(bif (decide (0 ≤ r53)) then
(Option.bind (S.WideCmp y33 y34 r52.1 r52.2) fun r55 =>
(some (decide (r55 ≤ 0))))
else
(some false))))))))
(Option.bind (S.WideOf y35) fun r49 =>
(Option.bind (S.WideAdd y37 y38 r49.1 r49.2) fun r50 =>
(Option.bind (S.l07Times v48 (nthI y39 3 (0 : Int))) fun r51 =>
(Option.bind (S.WideAdd r50.1 r50.2 r51.1 r51.2) fun r52 =>
(Option.bind (S.WideCmp y33 y34 r47.1 r47.2) fun r53 =>
(bif (decide (0 ≤ r53)) then
(Option.bind (S.WideCmp y33 y34 r52.1 r52.2) fun r55 =>
(some (decide (r55 ≤ 0))))
else
(some false))))))))
else
none)))))))) 0 a1 a2 a3 a4 a5 0 0 a6))
else
none)))
else
none))))))))
noncomputable def H118_9 : LoopH := ⟨⟨((.one (.unk)) :: (.one (.ptr 0 0)) :: (.one (.unk)) :: (.one (.ptr 1 0)) :: hh :: (hu 138 [])), [(102, (ho 5 [.sl 0])), (100, (ho 2 []))], [(3, (.int .i64), .ro)]⟩, ([0, 2] ++ rg 5 138), [], ([0] ++ rg 4 139), [], []⟩
noncomputable def k118_9 : List PK := (ki 3 ((.int .u64) :: (ki 3 [.int .u64, .row (.int .i64)])))
noncomputable def W118_9 (m : Nat) (k : Kont Bool) : Cur k118_9 (Option Bool) := S.AggOk_l0 m (exF k (.exit 0) ⟨((.one (.unk)) :: (.one (.ptr 0 0)) :: (.one (.unk)) :: (.one (.ptr 1 0)) :: (hu 139 [])), [(102, (ho 5 [.sl 0])), (100, (ho 2 []))], [(3, (.int .i64), .ro)]⟩ (ki 2 ((.int .u64) :: (ki 3 [.int .u64, .row (.int .i64)]))))
noncomputable def E118_9 (m : Nat) : List Prm → Kont Bool → Option Bool := eL k118_9 (W118_9 m)
theorem ev118_9 (m : Nat) (k : Kont Bool) (a : Args k118_9) : evL Tryz.prog G118 loopNil c118_9 (turn Tryz.prog (0, 0) H118_9 (E118_9 m) k) (H118_9.sk.fl (encP k118_9 a)) = unc k118_9 (W118_9 (m + 1) k) a := by kernel_rfl
theorem ok118_9 (m : Nat) : LoopOk Tryz.prog (0, 0) c118_9 (enter Tryz.prog (0, 0) H118_9 (E118_9 m)) := loop_gen (Fl := W118_9) (G := G118) (L := loopNil) (envCons_good good115 (envCons_good good199 (envCons_good good114 (envCons_good good113 (envCons_good good200 (envCons_good good201 envNil_good)))))) (no_loops (c := c118_9) (by kernel_rfl)) (fun _ _ => by kernel_rfl) ev118_9 m
noncomputable def L118 : LEnv Bool := (loopCons 9 (enter Tryz.prog (0, 0) H118_9 (E118_9 fu)) loopNil)
theorem lq118 : loopsOf c118 = [c118_9] := by kernel_rfl
theorem fr118_9 : firstReg c118_9 = some 9 := by kernel_rfl
theorem le118_9 : L118 9 = enter Tryz.prog (0, 0) H118_9 (E118_9 fu) := by kernel_rfl
theorem lm118 : ∀ x ∈ [c118_9], ∀ id, firstReg x = some id → LoopOk Tryz.prog (0, 0) x (L118 id) := (loops_cons fr118_9 le118_9 (ok118_9 fu) loops_nil)
theorem lp118 : ∀ x ∈ loopsOf c118, ∀ id, firstReg x = some id → LoopOk Tryz.prog (0, 0) x (L118 id) := loops_eq lq118 lm118
noncomputable def sg118 : Sg := ⟨⟨[.agg (ho 5 [.sl 0])], [], [(3, (.int .i64), .ro)]⟩, (ki 2 ((.int .u64) :: (ki 2 [.row (.int .i64)]))), ⟨[hh], [], []⟩, [.bool]⟩
noncomputable def E118 : Fun2 := eOf sg118 S.AggOk
theorem ev118 (a : Args sg118.ks) : evS Tryz.prog G118 L118 (0, 0) [] Tryz.f118 c118 (kOf sg118) (sg118.sk.fl (encP sg118.ks a)) = unc sg118.ks S.AggOk a := by kernel_rfl
theorem good118 : Vm.Good Tryz.prog 118 E118 := good_gen (G := G118) (L := L118) (c := c118) (rn := []) (N := (0, 0)) (envCons_good good115 (envCons_good good199 (envCons_good good114 (envCons_good good113 (envCons_good good200 (envCons_good good201 envNil_good)))))) lp118 Tryz.func118 (by kernel_rfl) (by kernel_rfl) (fun _ => by kernel_rfl) ev118
noncomputable def G45 : Env := (envCons 116 [] E116 (envCons 117 [] E117 (envCons 118 [] E118 envNil)))
noncomputable def c45 : Code := bodyOf Tryz.f45
noncomputable def S.CellOk (a1 a2 a3 a4 a5 a6 a7 a8 a9 a10 : Int) (a11 : List Int) : Option Bool :=
(bif (decide (0 ≤ a1)) then
(bif (decide (a1 < 4)) then
(Option.bind (S.l04Key a2) fun r14 =>
(bif r14 then
(Option.bind (S.l06Win a3 a4) fun r15 =>
(bif r15 then
(bif (decide (0 ≤ a5)) then
(bif (decide (a5 < 16)) then
(Option.bind (S.AggOk a6 a7 a8 a9 a10 a11) fun r18 =>
(bif r18 then
(some (decide (0 < a6)))
else
(some false)))
else
(some false))
else
(some false))
else
(some false)))
else
(some false)))
else
(some false))
else
(some false))
noncomputable def sg45 : Sg := ⟨⟨[.agg (ho 10 [.sl 0])], [], [(3, (.int .i64), .ro)]⟩, (ki 7 ((.int .u64) :: (ki 2 [.row (.int .i64)]))), ⟨[hh], [], []⟩, [.bool]⟩
noncomputable def E45 : Fun2 := eOf sg45 S.CellOk
theorem ev45 (a : Args sg45.ks) : evS Tryz.prog G45 loopNil (0, 0) [] Tryz.f45 c45 (kOf sg45) (sg45.sk.fl (encP sg45.ks a)) = unc sg45.ks S.CellOk a := by kernel_rfl
theorem good45 : Vm.Good Tryz.prog 45 E45 := good_gen (G := G45) (L := loopNil) (c := c45) (rn := []) (N := (0, 0)) (envCons_good good116 (envCons_good good117 (envCons_good good118 envNil_good))) (no_loops (c := c45) (by kernel_rfl)) Tryz.func45 (by kernel_rfl) (by kernel_rfl) (fun _ => by kernel_rfl) ev45
noncomputable def G109 : Env := envNil
noncomputable def c109 : Code := bodyOf Tryz.f109
noncomputable def S.l09Less (a1 a2 a3 a4 a5 a6 a7 a8 a9 a10 a11 a12 a13 a14 a15 a16 a17 a18 a19 a20 : Int) (a21 a22 : List Int) : Option Bool :=
(bif (a1 != a11) then
(some (decide (a1 < a11)))
else
(bif (a2 != a12) then
(some (decide (a2 < a12)))
else
(bif (a3 != a13) then
(some (decide (a3 < a13)))
else
(bif (a4 != a14) then
(some (decide (a4 < a14)))
else
(some (decide (a5 < a15)))))))
noncomputable def sg109 : Sg := ⟨⟨[.agg (ho 10 [.sl 0]), .agg (ho 10 [.sl 1])], [], [(3, (.int .i64), .ro), (3, (.int .i64), .ro)]⟩, (ki 7 ((.int .u64) :: (ki 9 ((.int .u64) :: (ki 2 [.row (.int .i64), .row (.int .i64)]))))), ⟨[hh], [], []⟩, [.bool]⟩
noncomputable def E109 : Fun2 := eOf sg109 S.l09Less
theorem ev109 (a : Args sg109.ks) : evS Tryz.prog G109 loopNil (0, 0) [] Tryz.f109 c109 (kOf sg109) (sg109.sk.fl (encP sg109.ks a)) = unc sg109.ks S.l09Less a := by kernel_rfl
theorem good109 : Vm.Good Tryz.prog 109 E109 := good_gen (G := G109) (L := loopNil) (c := c109) (rn := []) (N := (0, 0)) envNil_good (no_loops (c := c109) (by kernel_rfl)) Tryz.func109 (by kernel_rfl) (by kernel_rfl) (fun _ => by kernel_rfl) ev109
noncomputable def G41 : Env := (envCons 45 [] E45 (envCons 109 [] E109 envNil))
noncomputable def c41 : Code := bodyOf Tryz.f41
noncomputable def c41_4 : Code := (loopsOf c41).getD 0 .skip
noncomputable def S.CellsOk_l0 : Nat → (Bool → Option Bool) → (Option Bool) → Int → (List ty5) → Option Bool
  | 0, _, _, _, _ => none
  | m + 1, e4_0, e4_1, a4, a5 =>
    (bif (decide (a4 < (a5.length : Int))) then
    (bif decide ((0 : Int) ≤ a4 ∧ a4 < (a5.length : Int)) then
    (Option.bind (S.CellOk ((nthI a5 a4 df3).1) ((nthI a5 a4 df3).2.1) ((nthI a5 a4 df3).2.2.1) ((nthI a5 a4 df3).2.2.2.1) ((nthI a5 a4 df3).2.2.2.2.1) ((nthI a5 a4 df3).2.2.2.2.2.1) ((nthI a5 a4 df3).2.2.2.2.2.2.1.1) ((nthI a5 a4 df3).2.2.2.2.2.2.1.2) ((nthI a5 a4 df3).2.2.2.2.2.2.2.1) ((nthI a5 a4 df3).2.2.2.2.2.2.2.2.1) ((nthI a5 a4 df3).2.2.2.2.2.2.2.2.2)) fun r8 =>
    (bif (!r8) then
    (e4_0 false)
    else
    (bif (decide (0 < a4)) then
    (let v10 : Int := (IntKind.wrap .i64 (a4 - 1))
    (bif decide ((0 : Int) ≤ v10 ∧ v10 < (a5.length : Int)) then
    (bif decide ((0 : Int) ≤ a4 ∧ a4 < (a5.length : Int)) then
    (Option.bind (S.l09Less ((nthI a5 v10 df3).1) ((nthI a5 v10 df3).2.1) ((nthI a5 v10 df3).2.2.1) ((nthI a5 v10 df3).2.2.2.1) ((nthI a5 v10 df3).2.2.2.2.1) ((nthI a5 v10 df3).2.2.2.2.2.1) ((nthI a5 v10 df3).2.2.2.2.2.2.1.1) ((nthI a5 v10 df3).2.2.2.2.2.2.1.2) ((nthI a5 v10 df3).2.2.2.2.2.2.2.1) ((nthI a5 v10 df3).2.2.2.2.2.2.2.2.1) ((nthI a5 a4 df3).1) ((nthI a5 a4 df3).2.1) ((nthI a5 a4 df3).2.2.1) ((nthI a5 a4 df3).2.2.2.1) ((nthI a5 a4 df3).2.2.2.2.1) ((nthI a5 a4 df3).2.2.2.2.2.1) ((nthI a5 a4 df3).2.2.2.2.2.2.1.1) ((nthI a5 a4 df3).2.2.2.2.2.2.1.2) ((nthI a5 a4 df3).2.2.2.2.2.2.2.1) ((nthI a5 a4 df3).2.2.2.2.2.2.2.2.1) ((nthI a5 v10 df3).2.2.2.2.2.2.2.2.2) ((nthI a5 a4 df3).2.2.2.2.2.2.2.2.2)) fun r11 =>
    (bif (!r11) then
    (e4_0 false)
    else
    (S.CellsOk_l0 m e4_0 e4_1 (IntKind.wrap .i64 (a4 + 1)) a5)))
    else
    none)
    else
    none))
    else
    (S.CellsOk_l0 m e4_0 e4_1 (IntKind.wrap .i64 (a4 + 1)) a5))))
    else
    none)
    else
    e4_1)
noncomputable def S.CellsOk (a1 : List ty5) : Option Bool :=
(bif (decide (10000 < (a1.length : Int))) then
(some false)
else
(S.CellsOk_l0 fu (fun y14 =>
(some y14)) (some true) 0 a1))
noncomputable def H41_4 : LoopH := ⟨⟨((.one (.sl 0)) :: (hu 2 (hh :: (hu 32 [])))), [], [(105, sh7, .ro)]⟩, ([1, 2] ++ rg 4 32), [], ([0, 1] ++ rg 3 33), [], []⟩
noncomputable def k41_4 : List PK := [.int .i64, .row sh7]
noncomputable def W41_4 (m : Nat) (k : Kont Bool) : Cur k41_4 (Option Bool) := S.CellsOk_l0 m (exF k .ret ⟨(hu 2 (hh :: (hu 33 []))), [], []⟩ [.bool]) (exF k (.exit 0) ⟨(hu 36 []), [], []⟩ [])
noncomputable def E41_4 (m : Nat) : List Prm → Kont Bool → Option Bool := eL k41_4 (W41_4 m)
theorem ev41_4 (m : Nat) (k : Kont Bool) (a : Args k41_4) : evL Tryz.prog G41 loopNil c41_4 (turn Tryz.prog (0, 0) H41_4 (E41_4 m) k) (H41_4.sk.fl (encP k41_4 a)) = unc k41_4 (W41_4 (m + 1) k) a := by kernel_rfl
theorem ok41_4 (m : Nat) : LoopOk Tryz.prog (0, 0) c41_4 (enter Tryz.prog (0, 0) H41_4 (E41_4 m)) := loop_gen (Fl := W41_4) (G := G41) (L := loopNil) (envCons_good good45 (envCons_good good109 envNil_good)) (no_loops (c := c41_4) (by kernel_rfl)) (fun _ _ => by kernel_rfl) ev41_4 m
noncomputable def L41 : LEnv Bool := (loopCons 4 (enter Tryz.prog (0, 0) H41_4 (E41_4 fu)) loopNil)
theorem lq41 : loopsOf c41 = [c41_4] := by kernel_rfl
theorem fr41_4 : firstReg c41_4 = some 4 := by kernel_rfl
theorem le41_4 : L41 4 = enter Tryz.prog (0, 0) H41_4 (E41_4 fu) := by kernel_rfl
theorem lm41 : ∀ x ∈ [c41_4], ∀ id, firstReg x = some id → LoopOk Tryz.prog (0, 0) x (L41 id) := (loops_cons fr41_4 le41_4 (ok41_4 fu) loops_nil)
theorem lp41 : ∀ x ∈ loopsOf c41, ∀ id, firstReg x = some id → LoopOk Tryz.prog (0, 0) x (L41 id) := loops_eq lq41 lm41
noncomputable def sg41 : Sg := ⟨⟨[.one (.sl 0)], [], [(105, sh7, .ro)]⟩, [.row sh7], ⟨[hh], [], []⟩, [.bool]⟩
noncomputable def E41 : Fun2 := eOf sg41 S.CellsOk
theorem ev41 (a : Args sg41.ks) : evS Tryz.prog G41 L41 (0, 0) [] Tryz.f41 c41 (kOf sg41) (sg41.sk.fl (encP sg41.ks a)) = unc sg41.ks S.CellsOk a := by kernel_rfl
theorem good41 : Vm.Good Tryz.prog 41 E41 := good_gen (G := G41) (L := L41) (c := c41) (rn := []) (N := (0, 0)) (envCons_good good45 (envCons_good good109 envNil_good)) lp41 Tryz.func41 (by kernel_rfl) (by kernel_rfl) (fun _ => by kernel_rfl) ev41
noncomputable def G187 : Env := envNil
noncomputable def c187 : Code := bodyOf Tryz.f187
noncomputable def S.l10Count (a1 : Int) : Option Bool :=
(bif (decide (0 ≤ a1)) then
(some (decide (a1 ≤ 1000000)))
else
(some false))
noncomputable def sg187 : Sg := ⟨⟨[hh], [], []⟩, [.int .i64], ⟨[hh], [], []⟩, [.bool]⟩
noncomputable def E187 : Fun2 := eOf sg187 S.l10Count
theorem ev187 (a : Args sg187.ks) : evS Tryz.prog G187 loopNil (0, 0) [] Tryz.f187 c187 (kOf sg187) (sg187.sk.fl (encP sg187.ks a)) = unc sg187.ks S.l10Count a := by kernel_rfl
theorem good187 : Vm.Good Tryz.prog 187 E187 := good_gen (G := G187) (L := loopNil) (c := c187) (rn := []) (N := (0, 0)) envNil_good (no_loops (c := c187) (by kernel_rfl)) Tryz.func187 (by kernel_rfl) (by kernel_rfl) (fun _ => by kernel_rfl) ev187
noncomputable def G188 : Env := envNil
noncomputable def c188 : Code := bodyOf Tryz.f188
noncomputable def S.l10Rule (a1 : Int) : Option Bool :=
(bif (decide ((-1) ≤ a1)) then
(some (decide (a1 ≤ 15)))
else
(some false))
noncomputable def sg188 : Sg := ⟨⟨[hh], [], []⟩, [.int .i64], ⟨[hh], [], []⟩, [.bool]⟩
noncomputable def E188 : Fun2 := eOf sg188 S.l10Rule
theorem ev188 (a : Args sg188.ks) : evS Tryz.prog G188 loopNil (0, 0) [] Tryz.f188 c188 (kOf sg188) (sg188.sk.fl (encP sg188.ks a)) = unc sg188.ks S.l10Rule a := by kernel_rfl
theorem good188 : Vm.Good Tryz.prog 188 E188 := good_gen (G := G188) (L := loopNil) (c := c188) (rn := []) (N := (0, 0)) envNil_good (no_loops (c := c188) (by kernel_rfl)) Tryz.func188 (by kernel_rfl) (by kernel_rfl) (fun _ => by kernel_rfl) ev188
noncomputable def G189 : Env := (envCons 116 [] E116 (envCons 117 [] E117 envNil))
noncomputable def c189 : Code := bodyOf Tryz.f189
noncomputable def S.PaneOk (a1 a2 a3 a4 a5 a6 : Int) (a7 : Bool) (a8 : List Int) : Option Bool :=
(bif (decide (a1 < 0)) then
(some false)
else
(bif (decide (4 ≤ a1)) then
(some false)
else
(Option.bind (S.l04Key a2) fun r11 =>
(bif (!r11) then
(some false)
else
(Option.bind (S.l06Win a3 a4) fun r12 =>
(bif (!r12) then
(some false)
else
(bif (decide (a5 < 0)) then
(some false)
else
(bif (decide (16 ≤ a5)) then
(some false)
else
(bif (decide (a6 < 1)) then
(some false)
else
(bif (decide (1000000 < a6)) then
(some false)
else
(bif (decide (4 < (a8.length : Int))) then
(some false)
else
(some (((a8.length : Int) == 0) == a7)))))))))))))
noncomputable def sg189 : Sg := ⟨⟨[.agg (ho 6 [.sl 0, .hole])], [], [(3, (.int .i64), .ro)]⟩, (ki 6 [.bool, .row (.int .i64)]), ⟨[hh], [], []⟩, [.bool]⟩
noncomputable def E189 : Fun2 := eOf sg189 S.PaneOk
theorem ev189 (a : Args sg189.ks) : evS Tryz.prog G189 loopNil (0, 0) [] Tryz.f189 c189 (kOf sg189) (sg189.sk.fl (encP sg189.ks a)) = unc sg189.ks S.PaneOk a := by kernel_rfl
theorem good189 : Vm.Good Tryz.prog 189 E189 := good_gen (G := G189) (L := loopNil) (c := c189) (rn := []) (N := (0, 0)) (envCons_good good116 (envCons_good good117 envNil_good)) (no_loops (c := c189) (by kernel_rfl)) Tryz.func189 (by kernel_rfl) (by kernel_rfl) (fun _ => by kernel_rfl) ev189
noncomputable def G101 : Env := (envCons 140 [] E140 (envCons 187 [] E187 (envCons 188 [] E188 (envCons 189 [] E189 envNil))))
noncomputable def c101 : Code := bodyOf Tryz.f101
noncomputable def c101_4 : Code := (loopsOf c101).getD 0 .skip
noncomputable def c101_9 : Code := (loopsOf c101).getD 1 .skip
noncomputable def c101_15 : Code := (loopsOf c101_9).getD 0 .skip
noncomputable def S.BoxOk_l0 : Nat → (Bool → Int → Int → Int → Int → (List ty7) → (List (Int × Int × Int)) → Option Bool) → (Int → Int → Int → Int → (List ty7) → (List (Int × Int × Int)) → Option Bool) → Int → Int → Int → Int → Int → (List ty7) → (List (Int × Int × Int)) → Option Bool
  | 0, _, _, _, _, _, _, _, _, _ => none
  | m + 1, e4_0, e4_1, a15, a16, a17, a18, a19, a20, a21 =>
    (bif (decide (a15 < (a20.length : Int))) then
    (bif decide ((0 : Int) ≤ a15 ∧ a15 < (a20.length : Int)) then
    (let v27 : Bool := ((nthI a20 a15 df4).1 != (IntKind.wrap .i64 ((IntKind.wrap .i64 (a18 - (a20.length : Int))) + a15)))
    (bif v27 then
    (e4_0 false a16 a17 a18 a19 a20 a21)
    else
    (bif decide ((0 : Int) ≤ a15 ∧ a15 < (a20.length : Int)) then
    (let v28 : Bool := (decide ((nthI a20 a15 df4).1 < 0))
    (bif v28 then
    (e4_0 false a16 a17 a18 a19 a20 a21)
    else
    (bif decide ((0 : Int) ≤ a15 ∧ a15 < (a20.length : Int)) then
    (Option.bind (S.l10Rule ((nthI a20 a15 df4).2.1)) fun r29 =>
    (bif (!r29) then
    (e4_0 false a16 a17 a18 a19 a20 a21)
    else
    (bif decide ((0 : Int) ≤ a15 ∧ a15 < (a20.length : Int)) then
    (Option.bind (S.PaneOk ((nthI a20 a15 df4).2.2.1) ((nthI a20 a15 df4).2.2.2.1) ((nthI a20 a15 df4).2.2.2.2.1) ((nthI a20 a15 df4).2.2.2.2.2.1) ((nthI a20 a15 df4).2.2.2.2.2.2.1) ((nthI a20 a15 df4).2.2.2.2.2.2.2.1) ((nthI a20 a15 df4).2.2.2.2.2.2.2.2.2) ((nthI a20 a15 df4).2.2.2.2.2.2.2.2.1)) fun r30 =>
    (bif (!r30) then
    (e4_0 false a16 a17 a18 a19 a20 a21)
    else
    (S.BoxOk_l0 m e4_0 e4_1 (IntKind.wrap .i64 (a15 + 1)) a16 a17 a18 a19 a20 a21)))
    else
    none)))
    else
    none)))
    else
    none)))
    else
    none)
    else
    (e4_1 a16 a17 a18 a19 a20 a21))
noncomputable def S.BoxOk_l2 : Nat → (Bool → Int → Int → Int → Int → Int → (List ty7) → (List (Int × Int × Int)) → Option Bool) → (Int → Int → Int → Int → Int → (List ty7) → (List (Int × Int × Int)) → Option Bool) → Int → Int → Int → Int → Int → Int → Int → Int → Int → (List ty7) → (List (Int × Int × Int)) → Option Bool
  | 0, _, _, _, _, _, _, _, _, _, _, _, _, _ => none
  | m + 1, e15_0, e15_1, a62, a63, a64, a65, a66, a67, a68, a69, a70, a71, a72 =>
    (bif (decide (a63 < (a71.length : Int))) then
    (bif decide ((0 : Int) ≤ a63 ∧ a63 < (a71.length : Int)) then
    (let v75 : Bool := ((nthI a71 a63 df4).1 == a68)
    (bif v75 then
    (bif decide ((0 : Int) ≤ a63 ∧ a63 < (a71.length : Int)) then
    (let v76 : Bool := ((nthI a71 a63 df4).2.1 != a69)
    (bif v76 then
    (e15_0 false a62 a64 a65 a66 a67 a71 a72)
    else
    (bif decide ((0 : Int) ≤ a63 ∧ a63 < (a71.length : Int)) then
    (let v77 : Bool := ((nthI a71 a63 df4).2.2.2.2.2.2.1 != a70)
    (bif v77 then
    (e15_0 false a62 a64 a65 a66 a67 a71 a72)
    else
    (S.BoxOk_l2 m e15_0 e15_1 a62 (IntKind.wrap .i64 (a63 + 1)) a64 a65 a66 a67 a68 a69 a70 a71 a72)))
    else
    none)))
    else
    none)
    else
    (S.BoxOk_l2 m e15_0 e15_1 a62 (IntKind.wrap .i64 (a63 + 1)) a64 a65 a66 a67 a68 a69 a70 a71 a72)))
    else
    none)
    else
    (e15_1 a62 a64 a65 a66 a67 a71 a72))
noncomputable def S.BoxOk_l1 : Nat → (Bool → Option Bool) → (Option Bool) → Int → Int → Int → Int → Int → (List ty7) → (List (Int × Int × Int)) → Option Bool
  | 0, _, _, _, _, _, _, _, _, _ => none
  | m + 1, e9_0, e9_1, a45, a46, a47, a48, a49, a50, a51 =>
    (bif (decide (a45 < (a51.length : Int))) then
    (bif decide ((0 : Int) ≤ a45 ∧ a45 < (a51.length : Int)) then
    (let v57 : Bool := ((nthI a51 a45 df1).1 != (IntKind.wrap .i64 ((IntKind.wrap .i64 (a48 - (a51.length : Int))) + a45)))
    (bif v57 then
    (e9_0 false)
    else
    (let v58 : Bool := (decide ((nthI a51 a45 df1).1 < 0))
    (bif v58 then
    (e9_0 false)
    else
    (Option.bind (S.l10Rule ((nthI a51 a45 df1).2.1)) fun r59 =>
    (bif (!r59) then
    (e9_0 false)
    else
    (let v60 : Bool := (decide ((nthI a51 a45 df1).2.2 < 0))
    (bif v60 then
    (e9_0 false)
    else
    (let v61 : Bool := (decide (16 ≤ (nthI a51 a45 df1).2.2))
    (bif v61 then
    (e9_0 false)
    else
    (S.BoxOk_l2 fu (fun y80 y81 y82 y83 y84 y85 y86 y87 =>
    (e9_0 y80)) (fun y88 y89 y90 y91 y92 y93 y94 =>
    (S.BoxOk_l1 m e9_0 e9_1 (IntKind.wrap .i64 (y88 + 1)) y89 y90 y91 y92 y93 y94)) a45 0 a46 a47 a48 a49 ((nthI a51 a45 df1).1) ((nthI a51 a45 df1).2.1) ((nthI a51 a45 df1).2.2) a50 a51)))))))))))
    else
    none)
    else
    e9_1)
noncomputable def S.BoxOk (a1 a2 a3 a4 : Int) (a5 : List ty7) (a6 : List (Int × Int × Int)) : Option Bool :=
(Option.bind (S.l10Cap a1) fun r7 =>
(bif (!r7) then
(some false)
else
(Option.bind (S.l10Cap a2) fun r8 =>
(bif (!r8) then
(some false)
else
(Option.bind (S.l10Count a3) fun r9 =>
(bif (!r9) then
(some false)
else
(Option.bind (S.l10Count a4) fun r10 =>
(bif (!r10) then
(some false)
else
(bif (decide (a1 < (a5.length : Int))) then
(some false)
else
(bif (decide (a2 < (a6.length : Int))) then
(some false)
else
(S.BoxOk_l0 fu (fun y32 y33 y34 y35 y36 y37 y38 =>
(some y32)) (fun y39 y40 y41 y42 y43 y44 =>
(S.BoxOk_l1 fu (fun y96 =>
(some y96)) (some true) 0 y39 y40 y41 y42 y43 y44)) 0 a1 a2 a3 a4 a5 a6)))))))))))
noncomputable def H101_4 : LoopH := ⟨⟨((.one (.unk)) :: (.one (.ptr 0 0)) :: (.one (.unk)) :: hh :: (hu 175 [])), [(122, (ho 4 [.sl 0, .sl 1]))], [(230, sh8, .ro), (233, sh3, .ro)]⟩, ([0, 2] ++ rg 4 175), [], ([0] ++ rg 3 176), [], []⟩
noncomputable def k101_4 : List PK := (ki 5 [.row sh8, .row sh3])
noncomputable def W101_4 (m : Nat) (k : Kont Bool) : Cur k101_4 (Option Bool) := S.BoxOk_l0 m (exF k .ret ⟨((.one (.unk)) :: (.one (.ptr 0 0)) :: hh :: (hu 176 [])), [(122, (ho 4 [.sl 0, .sl 1]))], [(230, sh8, .ro), (233, sh3, .ro)]⟩ ((.bool) :: (ki 4 [.row sh8, .row sh3]))) (exF k (.exit 0) ⟨((.one (.unk)) :: (.one (.ptr 0 0)) :: (hu 177 [])), [(122, (ho 4 [.sl 0, .sl 1]))], [(230, sh8, .ro), (233, sh3, .ro)]⟩ (ki 4 [.row sh8, .row sh3]))
noncomputable def E101_4 (m : Nat) : List Prm → Kont Bool → Option Bool := eL k101_4 (W101_4 m)
theorem ev101_4 (m : Nat) (k : Kont Bool) (a : Args k101_4) : evL Tryz.prog G101 loopNil c101_4 (turn Tryz.prog (0, 0) H101_4 (E101_4 m) k) (H101_4.sk.fl (encP k101_4 a)) = unc k101_4 (W101_4 (m + 1) k) a := by kernel_rfl
theorem ok101_4 (m : Nat) : LoopOk Tryz.prog (0, 0) c101_4 (enter Tryz.prog (0, 0) H101_4 (E101_4 m)) := loop_gen (Fl := W101_4) (G := G101) (L := loopNil) (envCons_good good140 (envCons_good good187 (envCons_good good188 (envCons_good good189 envNil_good)))) (no_loops (c := c101_4) (by kernel_rfl)) (fun _ _ => by kernel_rfl) ev101_4 m
noncomputable def H101_15 : LoopH := ⟨⟨((.one (.unk)) :: (.one (.ptr 0 0)) :: (hu 2 (hh :: (.one (.ptr 1 0)) :: hh :: (hu 172 [])))), [(122, (ho 4 [.sl 0, .sl 1])), (233, (ho 3 []))], [(230, sh8, .ro), (233, sh3, .ro)]⟩, ([0, 2, 3] ++ rg 7 172), [], ([0, 3] ++ rg 5 174), [], []⟩
noncomputable def k101_15 : List PK := (ki 9 [.row sh8, .row sh3])
noncomputable def W101_15 (m : Nat) (k : Kont Bool) : Cur k101_15 (Option Bool) := S.BoxOk_l2 m (exF k .ret ⟨((.one (.unk)) :: (.one (.ptr 0 0)) :: hh :: (.one (.unk)) :: hh :: (hu 174 [])), [(122, (ho 4 [.sl 0, .sl 1]))], [(230, sh8, .ro), (233, sh3, .ro)]⟩ ((.bool) :: (ki 5 [.row sh8, .row sh3]))) (exF k (.exit 4) ⟨((.one (.unk)) :: (.one (.ptr 0 0)) :: (hu 2 (hh :: (hu 174 [])))), [(122, (ho 4 [.sl 0, .sl 1]))], [(230, sh8, .ro), (233, sh3, .ro)]⟩ (ki 5 [.row sh8, .row sh3]))
noncomputable def E101_15 (m : Nat) : List Prm → Kont Bool → Option Bool := eL k101_15 (W101_15 m)
theorem ev101_15 (m : Nat) (k : Kont Bool) (a : Args k101_15) : evL Tryz.prog G101 loopNil c101_15 (turn Tryz.prog (0, 0) H101_15 (E101_15 m) k) (H101_15.sk.fl (encP k101_15 a)) = unc k101_15 (W101_15 (m + 1) k) a := by kernel_rfl
theorem ok101_15 (m : Nat) : LoopOk Tryz.prog (0, 0) c101_15 (enter Tryz.prog (0, 0) H101_15 (E101_15 m)) := loop_gen (Fl := W101_15) (G := G101) (L := loopNil) (envCons_good good140 (envCons_good good187 (envCons_good good188 (envCons_good good189 envNil_good)))) (no_loops (c := c101_15) (by kernel_rfl)) (fun _ _ => by kernel_rfl) ev101_15 m
noncomputable def L101_9 : LEnv Bool := (loopCons 15 (enter Tryz.prog (0, 0) H101_15 (E101_15 fu)) loopNil)
theorem lq101_9 : loopsOf c101_9 = [c101_15] := by kernel_rfl
theorem fr101_15 : firstReg c101_15 = some 15 := by kernel_rfl
theorem le101_15 : L101_9 15 = enter Tryz.prog (0, 0) H101_15 (E101_15 fu) := by kernel_rfl
theorem lm101_9 : ∀ x ∈ [c101_15], ∀ id, firstReg x = some id → LoopOk Tryz.prog (0, 0) x (L101_9 id) := (loops_cons fr101_15 le101_15 (ok101_15 fu) loops_nil)
theorem lp101_9 : ∀ x ∈ loopsOf c101_9, ∀ id, firstReg x = some id → LoopOk Tryz.prog (0, 0) x (L101_9 id) := loops_eq lq101_9 lm101_9
noncomputable def H101_9 : LoopH := ⟨⟨((.one (.unk)) :: (.one (.ptr 0 0)) :: (hu 2 (hh :: (hu 174 [])))), [(122, (ho 4 [.sl 0, .sl 1]))], [(230, sh8, .ro), (233, sh3, .ro)]⟩, ([0, 2, 3] ++ rg 5 174), [], ([0, 1] ++ rg 3 176), [], []⟩
noncomputable def k101_9 : List PK := (ki 5 [.row sh8, .row sh3])
noncomputable def W101_9 (m : Nat) (k : Kont Bool) : Cur k101_9 (Option Bool) := S.BoxOk_l1 m (exF k .ret ⟨(hu 2 (hh :: (hu 176 []))), [], []⟩ [.bool]) (exF k (.exit 2) ⟨(hu 179 []), [], []⟩ [])
noncomputable def E101_9 (m : Nat) : List Prm → Kont Bool → Option Bool := eL k101_9 (W101_9 m)
theorem ev101_9 (m : Nat) (k : Kont Bool) (a : Args k101_9) : evL Tryz.prog G101 L101_9 c101_9 (turn Tryz.prog (0, 0) H101_9 (E101_9 m) k) (H101_9.sk.fl (encP k101_9 a)) = unc k101_9 (W101_9 (m + 1) k) a := by kernel_rfl
theorem ok101_9 (m : Nat) : LoopOk Tryz.prog (0, 0) c101_9 (enter Tryz.prog (0, 0) H101_9 (E101_9 m)) := loop_gen (Fl := W101_9) (G := G101) (L := L101_9) (envCons_good good140 (envCons_good good187 (envCons_good good188 (envCons_good good189 envNil_good)))) lp101_9 (fun _ _ => by kernel_rfl) ev101_9 m
noncomputable def L101 : LEnv Bool := (loopCons 4 (enter Tryz.prog (0, 0) H101_4 (E101_4 fu)) (loopCons 9 (enter Tryz.prog (0, 0) H101_9 (E101_9 fu)) loopNil))
theorem lq101 : loopsOf c101 = [c101_4, c101_9] := by kernel_rfl
theorem fr101_4 : firstReg c101_4 = some 4 := by kernel_rfl
theorem le101_4 : L101 4 = enter Tryz.prog (0, 0) H101_4 (E101_4 fu) := by kernel_rfl
theorem fr101_9 : firstReg c101_9 = some 9 := by kernel_rfl
theorem le101_9 : L101 9 = enter Tryz.prog (0, 0) H101_9 (E101_9 fu) := by kernel_rfl
theorem lm101 : ∀ x ∈ [c101_4, c101_9], ∀ id, firstReg x = some id → LoopOk Tryz.prog (0, 0) x (L101 id) := (loops_cons fr101_4 le101_4 (ok101_4 fu) (loops_cons fr101_9 le101_9 (ok101_9 fu) loops_nil))
theorem lp101 : ∀ x ∈ loopsOf c101, ∀ id, firstReg x = some id → LoopOk Tryz.prog (0, 0) x (L101 id) := loops_eq lq101 lm101
noncomputable def sg101 : Sg := ⟨⟨[.agg (ho 4 [.sl 0, .sl 1])], [], [(230, sh8, .ro), (233, sh3, .ro)]⟩, (ki 4 [.row sh8, .row sh3]), ⟨[hh], [], []⟩, [.bool]⟩
noncomputable def E101 : Fun2 := eOf sg101 S.BoxOk
theorem ev101 (a : Args sg101.ks) : evS Tryz.prog G101 L101 (0, 0) [] Tryz.f101 c101 (kOf sg101) (sg101.sk.fl (encP sg101.ks a)) = unc sg101.ks S.BoxOk a := by kernel_rfl
theorem good101 : Vm.Good Tryz.prog 101 E101 := good_gen (G := G101) (L := L101) (c := c101) (rn := []) (N := (0, 0)) (envCons_good good140 (envCons_good good187 (envCons_good good188 (envCons_good good189 envNil_good)))) lp101 Tryz.func101 (by kernel_rfl) (by kernel_rfl) (fun _ => by kernel_rfl) ev101
end Go.Proofs.YtidojhgkpgomcaaGreat.Run
