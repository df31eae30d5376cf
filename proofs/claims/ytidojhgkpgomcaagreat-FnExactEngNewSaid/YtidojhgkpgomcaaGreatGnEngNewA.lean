import Derived.Test.YtidojhgkpgomcaaGreatVmU
import Derived.Test.YtidojhgkpgomcaaGreatProg
namespace Go.Proofs.YtidojhgkpgomcaaGreat.Run
open Go Go.RowKit Go.Proofs.YtidojhgkpgomcaaGreatW.PrintWords Go.Proofs.YtidojhgkpgomcaaGreat.Vm
set_option linter.unusedVariables false
set_option maxRecDepth 100000
set_option maxHeartbeats 4000000

noncomputable abbrev sh1 : Sh := (.pair (.int .i64) (.int .i64))
noncomputable abbrev sh2 : Sh := (.pair (.sl 289 (.pair (.int .i64) (.int .i64))) (.pair (.sl 289 (.pair (.int .i64) (.int .i64))) (.pair (.pair (.int .i64) (.pair (.int .i64) (.int .i64))) (.pair (.int .i64) (.int .i64)))))
noncomputable abbrev sh3 : Sh := (.pair (.int .i64) (.pair (.int .i64) (.int .i64)))
noncomputable abbrev sh4 : Sh := (.pair (.int .i64) (.pair (.int .i64) (.pair (.int .i64) (.pair (.int .i64) (.int .i64)))))
noncomputable abbrev sh5 : Sh := (.pair (.sl 255 (.pair (.int .i64) (.int .i64))) (.pair (.sl 255 (.pair (.int .i64) (.int .i64))) (.pair (.pair (.int .i64) (.pair (.int .i64) (.int .i64))) (.pair (.int .i64) (.int .i64)))))
noncomputable abbrev sh6 : Sh := (.pair (.int .i64) .bool)
noncomputable abbrev sh7 : Sh := (.pair (.int .i64) (.pair (.int .i64) (.pair (.int .i64) (.pair (.int .i64) (.pair (.int .i64) (.pair (.int .i64) (.pair (.int .i64) (.pair (.int .i64) (.pair (.sl 3 (.int .i64)) .bool)))))))))
noncomputable abbrev sh8 : Sh := (.pair (.int .i64) (.pair (.int .i64) (.pair (.int .i64) (.pair (.int .i64) (.pair (.sl 230 (.pair (.int .i64) (.pair (.int .i64) (.pair (.int .i64) (.pair (.int .i64) (.pair (.int .i64) (.pair (.int .i64) (.pair (.int .i64) (.pair (.int .i64) (.pair (.sl 3 (.int .i64)) .bool)))))))))) (.sl 233 (.pair (.int .i64) (.pair (.int .i64) (.int .i64)))))))))
noncomputable abbrev sh9 : Sh := (.pair (.int .i64) (.pair (.int .i64) (.pair (.int .i64) (.int .i64))))
noncomputable abbrev sh10 : Sh := (.pair (.int .i64) (.pair (.int .i64) (.pair (.int .i64) (.pair (.int .i64) (.pair (.int .i64) (.pair (.int .i64) (.pair (.pair (.int .i64) (.int .u64)) (.pair (.int .i64) (.pair (.int .i64) (.sl 3 (.int .i64)))))))))))
noncomputable abbrev ty1 : Type := ((Int × List Int) × Int × Int × List (List (Int × Int) × List (Int × Int) × (Int × Int × Int) × Int × Int) × List (Int × Int × Int) × List (Int × Int × Int × Int × Int)) × List (Int × Int × Int × Int) × (Int × List (Int × Bool)) × List (Int × Int × Int × Int × Int × Int × (Int × Int) × Int × Int × List Int) × List Int × List Int × List (Int × Int × Int × Int × List (Int × Int × Int × Int × Int × Int × Int × Int × List Int × Bool) × List (Int × Int × Int))
noncomputable abbrev ty3 : Type := Int × Int × Int × Int × List (Int × Int × Int × Int × Int × Int × Int × Int × List Int × Bool) × List (Int × Int × Int)
noncomputable abbrev ty5 : Type := Int × Int × Int × Int × Int × Int × (Int × Int) × Int × Int × List Int
noncomputable abbrev ty6 : Type := List (Int × Int) × List (Int × Int) × (Int × Int × Int) × Int × Int
noncomputable abbrev ty7 : Type := Int × Int × Int × Int × Int × Int × Int × Int × List Int × Bool
noncomputable abbrev ty10 : Type := Int × Int × Int × Int × Int
noncomputable abbrev df1 : Int × Int × Int := ((0 : Int), ((0 : Int), (0 : Int)))
noncomputable abbrev df2 : Int × Int := ((0 : Int), (0 : Int))
noncomputable abbrev df3 : Int × Int × Int × Int × Int := ((0 : Int), ((0 : Int), ((0 : Int), ((0 : Int), (0 : Int)))))
noncomputable abbrev df4 : Int × Int × Int × Int := ((0 : Int), ((0 : Int), ((0 : Int), (0 : Int))))
noncomputable abbrev df5 : Int × Bool := ((0 : Int), false)
noncomputable abbrev df6 : Int × Int × Int × Int × Int × Int × (Int × Int) × Int × Int × List Int := ((0 : Int), ((0 : Int), ((0 : Int), ((0 : Int), ((0 : Int), ((0 : Int), (((0 : Int), (0 : Int)), ((0 : Int), ((0 : Int), [])))))))))
noncomputable abbrev df7 : Int × Int × Int × Int × Int × Int × Int × Int × List Int × Bool := ((0 : Int), ((0 : Int), ((0 : Int), ((0 : Int), ((0 : Int), ((0 : Int), ((0 : Int), ((0 : Int), ([], false)))))))))
noncomputable abbrev df8 : Int × Int × Int × Int × List (Int × Int × Int × Int × Int × Int × Int × Int × List Int × Bool) × List (Int × Int × Int) := ((0 : Int), ((0 : Int), ((0 : Int), ((0 : Int), ([], [])))))
noncomputable def G83 : Env := envNil
noncomputable def c83 : Code := bodyOf Tryz.f83
noncomputable def L.szUint64S (a1 : Int) (a2 : List Int) : Option Int :=
(let v4 : Int := (IntKind.wrap .i64 (a1 - (a2.length : Int)))
(bif (decide (v4 < 0)) then
(some (-1))
else
(some v4)))
noncomputable def sg83 : Sg := ⟨⟨[.one (.sl 0), hh], [], [(87, (.int .u64), .ro)]⟩, [.int .i64, .row (.int .u64)], ⟨[hh], [], []⟩, [.int .i64]⟩
noncomputable def E83 : Fun2 := eOf sg83 L.szUint64S
theorem ev83 (a : Args sg83.ks) : evS Tryz.prog G83 loopNil (0, 0) [] Tryz.f83 c83 (kOf sg83) (sg83.sk.fl (encP sg83.ks a)) = unc sg83.ks L.szUint64S a := by kernel_rfl
theorem good83 : Vm.Good Tryz.prog 83 E83 := good_gen (G := G83) (L := loopNil) (c := c83) (rn := []) (N := (0, 0)) envNil_good (no_loops (c := c83) (by kernel_rfl)) Tryz.func83 (by kernel_rfl) (by kernel_rfl) (fun _ => by kernel_rfl) ev83
noncomputable def G25 : Env := (envCons 83 [] E83 envNil)
noncomputable def c25 : Code := bodyOf Tryz.f25
noncomputable def L.szLat (a1 a2 : Int) (a3 : List Int) : Option Int :=
(Option.bind (L.szUint64S a2 a3) fun r4 =>
(bif (decide (r4 < 0)) then
(some (-1))
else
(some r4)))
noncomputable def sg25 : Sg := ⟨⟨[.agg [.hole, .sl 0], hh], [], [(87, (.int .u64), .ro)]⟩, (ki 2 [.row (.int .u64)]), ⟨[hh], [], []⟩, [.int .i64]⟩
noncomputable def E25 : Fun2 := eOf sg25 L.szLat
theorem ev25 (a : Args sg25.ks) : evS Tryz.prog G25 loopNil (0, 0) [] Tryz.f25 c25 (kOf sg25) (sg25.sk.fl (encP sg25.ks a)) = unc sg25.ks L.szLat a := by kernel_rfl
theorem good25 : Vm.Good Tryz.prog 25 E25 := good_gen (G := G25) (L := loopNil) (c := c25) (rn := []) (N := (0, 0)) (envCons_good good83 envNil_good) (no_loops (c := c25) (by kernel_rfl)) Tryz.func25 (by kernel_rfl) (by kernel_rfl) (fun _ => by kernel_rfl) ev25
noncomputable def G218 : Env := envNil
noncomputable def c218 : Code := bodyOf Tryz.f218
noncomputable def L.szTokS (a1 : Int) (a2 : List (Int × Int)) : Option Int :=
(let v4 : Int := (IntKind.wrap .i64 (a1 - (a2.length : Int)))
(bif (decide (v4 < 0)) then
(some (-1))
else
(some v4)))
noncomputable def sg218 : Sg := ⟨⟨[.one (.sl 0), hh], [], [(289, sh1, .ro)]⟩, [.int .i64, .row sh1], ⟨[hh], [], []⟩, [.int .i64]⟩
noncomputable def E218 : Fun2 := eOf sg218 L.szTokS
theorem ev218 (a : Args sg218.ks) : evS Tryz.prog G218 loopNil (0, 0) [] Tryz.f218 c218 (kOf sg218) (sg218.sk.fl (encP sg218.ks a)) = unc sg218.ks L.szTokS a := by kernel_rfl
theorem good218 : Vm.Good Tryz.prog 218 E218 := good_gen (G := G218) (L := loopNil) (c := c218) (rn := []) (N := (0, 0)) envNil_good (no_loops (c := c218) (by kernel_rfl)) Tryz.func218 (by kernel_rfl) (by kernel_rfl) (fun _ => by kernel_rfl) ev218
noncomputable def G137 : Env := (envCons 218 [] E218 envNil)
noncomputable def c137 : Code := bodyOf Tryz.f137
noncomputable def L.szQuery (a1 a2 a3 a4 a5 a6 : Int) (a7 a8 : List (Int × Int)) : Option Int :=
(Option.bind (L.szTokS a6 a7) fun r9 =>
(bif (decide (r9 < 0)) then
(some (-1))
else
(Option.bind (L.szTokS r9 a8) fun r11 =>
(bif (decide (r11 < 0)) then
(some (-1))
else
(some r11)))))
noncomputable def sg137 : Sg := ⟨⟨[.agg ((.sl 0) :: (.sl 1) :: (ho 5 [])), hh], [], [(289, sh1, .ro), (289, sh1, .ro)]⟩, (ki 6 [.row sh1, .row sh1]), ⟨[hh], [], []⟩, [.int .i64]⟩
noncomputable def E137 : Fun2 := eOf sg137 L.szQuery
theorem ev137 (a : Args sg137.ks) : evS Tryz.prog G137 loopNil (0, 0) [] Tryz.f137 c137 (kOf sg137) (sg137.sk.fl (encP sg137.ks a)) = unc sg137.ks L.szQuery a := by kernel_rfl
theorem good137 : Vm.Good Tryz.prog 137 E137 := good_gen (G := G137) (L := loopNil) (c := c137) (rn := []) (N := (0, 0)) (envCons_good good218 envNil_good) (no_loops (c := c137) (by kernel_rfl)) Tryz.func137 (by kernel_rfl) (by kernel_rfl) (fun _ => by kernel_rfl) ev137
noncomputable def G55 : Env := (envCons 137 [] E137 envNil)
noncomputable def c55 : Code := bodyOf Tryz.f55
noncomputable def c55_5 : Code := (loopsOf c55).getD 0 .skip
noncomputable def L.szQueryS_l0 : Nat → (Int → Int → Option Int) → (Int → Option Int) → Int → Int → (List ty6) → Option Int
  | 0, _, _, _, _, _ => none
  | m + 1, e5_0, e5_1, a6, a7, a8 =>
    (bif (decide (a7 < (a8.length : Int))) then
    (bif decide ((0 : Int) ≤ a7 ∧ a7 < (a8.length : Int)) then
    (Option.bind (L.szQuery ((nthI a8 a7 ([], ([], (df1, df2)))).2.2.1.1) ((nthI a8 a7 ([], ([], (df1, df2)))).2.2.1.2.1) ((nthI a8 a7 ([], ([], (df1, df2)))).2.2.1.2.2) ((nthI a8 a7 ([], ([], (df1, df2)))).2.2.2.1) ((nthI a8 a7 ([], ([], (df1, df2)))).2.2.2.2) a6 ((nthI a8 a7 ([], ([], (df1, df2)))).1) ((nthI a8 a7 ([], ([], (df1, df2)))).2.1)) fun r11 =>
    (bif (decide (r11 < 0)) then
    (e5_0 r11 (-1))
    else
    (L.szQueryS_l0 m e5_0 e5_1 r11 (IntKind.wrap .i64 (a7 + 1)) a8)))
    else
    none)
    else
    (e5_1 a6))
noncomputable def L.szQueryS (a1 : Int) (a2 : List ty6) : Option Int :=
(let v4 : Int := (IntKind.wrap .i64 (a1 - (a2.length : Int)))
(bif (decide (v4 < 0)) then
(some (-1))
else
(L.szQueryS_l0 fu (fun y14 y15 =>
(some y15)) (fun y16 =>
(some y16)) v4 0 a2)))
noncomputable def H55_5 : LoopH := ⟨⟨((.one (.sl 0)) :: hh :: (hu 3 (hh :: (hu 21 [])))), [], [(185, sh2, .ro)]⟩, ([2, 3, 4] ++ rg 6 21), [], ([0, 2, 3] ++ rg 5 22), [], []⟩
noncomputable def k55_5 : List PK := (ki 2 [.row sh2])
noncomputable def W55_5 (m : Nat) (k : Kont Int) : Cur k55_5 (Option Int) := L.szQueryS_l0 m (exF k .ret ⟨((.one (.unk)) :: hh :: (hu 2 (hh :: (hu 22 [])))), [], []⟩ (ki 2 [])) (exF k (.exit 0) ⟨((.one (.unk)) :: hh :: (hu 25 [])), [], []⟩ [.int .i64])
noncomputable def E55_5 (m : Nat) : List Prm → Kont Int → Option Int := eL k55_5 (W55_5 m)
theorem ev55_5 (m : Nat) (k : Kont Int) (a : Args k55_5) : evL Tryz.prog G55 loopNil c55_5 (turn Tryz.prog (0, 0) H55_5 (E55_5 m) k) (H55_5.sk.fl (encP k55_5 a)) = unc k55_5 (W55_5 (m + 1) k) a := by kernel_rfl
theorem ok55_5 (m : Nat) : LoopOk Tryz.prog (0, 0) c55_5 (enter Tryz.prog (0, 0) H55_5 (E55_5 m)) := loop_gen (Fl := W55_5) (G := G55) (L := loopNil) (envCons_good good137 envNil_good) (no_loops (c := c55_5) (by kernel_rfl)) (fun _ _ => by kernel_rfl) ev55_5 m
noncomputable def L55 : LEnv Int := (loopCons 5 (enter Tryz.prog (0, 0) H55_5 (E55_5 fu)) loopNil)
theorem lq55 : loopsOf c55 = [c55_5] := by kernel_rfl
theorem fr55_5 : firstReg c55_5 = some 5 := by kernel_rfl
theorem le55_5 : L55 5 = enter Tryz.prog (0, 0) H55_5 (E55_5 fu) := by kernel_rfl
theorem lm55 : ∀ x ∈ [c55_5], ∀ id, firstReg x = some id → LoopOk Tryz.prog (0, 0) x (L55 id) := (loops_cons fr55_5 le55_5 (ok55_5 fu) loops_nil)
theorem lp55 : ∀ x ∈ loopsOf c55, ∀ id, firstReg x = some id → LoopOk Tryz.prog (0, 0) x (L55 id) := loops_eq lq55 lm55
noncomputable def sg55 : Sg := ⟨⟨[.one (.sl 0), hh], [], [(185, sh2, .ro)]⟩, [.int .i64, .row sh2], ⟨[hh], [], []⟩, [.int .i64]⟩
noncomputable def E55 : Fun2 := eOf sg55 L.szQueryS
theorem ev55 (a : Args sg55.ks) : evS Tryz.prog G55 L55 (0, 0) [] Tryz.f55 c55 (kOf sg55) (sg55.sk.fl (encP sg55.ks a)) = unc sg55.ks L.szQueryS a := by kernel_rfl
theorem good55 : Vm.Good Tryz.prog 55 E55 := good_gen (G := G55) (L := L55) (c := c55) (rn := []) (N := (0, 0)) (envCons_good good137 envNil_good) lp55 Tryz.func55 (by kernel_rfl) (by kernel_rfl) (fun _ => by kernel_rfl) ev55
noncomputable def G56 : Env := envNil
noncomputable def c56 : Code := bodyOf Tryz.f56
noncomputable def L.szSubS (a1 : Int) (a2 : List (Int × Int × Int)) : Option Int :=
(let v4 : Int := (IntKind.wrap .i64 (a1 - (a2.length : Int)))
(bif (decide (v4 < 0)) then
(some (-1))
else
(some v4)))
noncomputable def sg56 : Sg := ⟨⟨[.one (.sl 0), hh], [], [(194, sh3, .ro)]⟩, [.int .i64, .row sh3], ⟨[hh], [], []⟩, [.int .i64]⟩
noncomputable def E56 : Fun2 := eOf sg56 L.szSubS
theorem ev56 (a : Args sg56.ks) : evS Tryz.prog G56 loopNil (0, 0) [] Tryz.f56 c56 (kOf sg56) (sg56.sk.fl (encP sg56.ks a)) = unc sg56.ks L.szSubS a := by kernel_rfl
theorem good56 : Vm.Good Tryz.prog 56 E56 := good_gen (G := G56) (L := loopNil) (c := c56) (rn := []) (N := (0, 0)) envNil_good (no_loops (c := c56) (by kernel_rfl)) Tryz.func56 (by kernel_rfl) (by kernel_rfl) (fun _ => by kernel_rfl) ev56
noncomputable def G57 : Env := envNil
noncomputable def c57 : Code := bodyOf Tryz.f57
noncomputable def L.szRuleS (a1 : Int) (a2 : List ty10) : Option Int :=
(let v4 : Int := (IntKind.wrap .i64 (a1 - (a2.length : Int)))
(bif (decide (v4 < 0)) then
(some (-1))
else
(some v4)))
noncomputable def sg57 : Sg := ⟨⟨[.one (.sl 0), hh], [], [(196, sh4, .ro)]⟩, [.int .i64, .row sh4], ⟨[hh], [], []⟩, [.int .i64]⟩
noncomputable def E57 : Fun2 := eOf sg57 L.szRuleS
theorem ev57 (a : Args sg57.ks) : evS Tryz.prog G57 loopNil (0, 0) [] Tryz.f57 c57 (kOf sg57) (sg57.sk.fl (encP sg57.ks a)) = unc sg57.ks L.szRuleS a := by kernel_rfl
theorem good57 : Vm.Good Tryz.prog 57 E57 := good_gen (G := G57) (L := loopNil) (c := c57) (rn := []) (N := (0, 0)) envNil_good (no_loops (c := c57) (by kernel_rfl)) Tryz.func57 (by kernel_rfl) (by kernel_rfl) (fun _ => by kernel_rfl) ev57
noncomputable def G16 : Env := (envCons 25 [] E25 (envCons 55 [] E55 (envCons 56 [] E56 (envCons 57 [] E57 envNil))))
noncomputable def c16 : Code := bodyOf Tryz.f16
noncomputable def L.szConf (a1 a2 a3 a4 : Int) (a5 : List Int) (a6 : List ty6) (a7 : List (Int × Int × Int)) (a8 : List ty10) : Option Int :=
(Option.bind (L.szLat a1 a4 a5) fun r9 =>
(bif (decide (r9 < 0)) then
(some (-1))
else
(Option.bind (L.szQueryS r9 a6) fun r11 =>
(bif (decide (r11 < 0)) then
(some (-1))
else
(Option.bind (L.szSubS r11 a7) fun r13 =>
(bif (decide (r13 < 0)) then
(some (-1))
else
(Option.bind (L.szRuleS r13 a8) fun r15 =>
(bif (decide (r15 < 0)) then
(some (-1))
else
(some r15)))))))))
noncomputable def sg16 : Sg := ⟨⟨[.agg ((.hole) :: (.sl 0) :: (ho 2 [.sl 1, .sl 2, .sl 3])), hh], [], [(87, (.int .u64), .ro), (185, sh2, .ro), (194, sh3, .ro), (196, sh4, .ro)]⟩, (ki 4 [.row (.int .u64), .row sh2, .row sh3, .row sh4]), ⟨[hh], [], []⟩, [.int .i64]⟩
noncomputable def E16 : Fun2 := eOf sg16 L.szConf
theorem ev16 (a : Args sg16.ks) : evS Tryz.prog G16 loopNil (0, 0) [] Tryz.f16 c16 (kOf sg16) (sg16.sk.fl (encP sg16.ks a)) = unc sg16.ks L.szConf a := by kernel_rfl
theorem good16 : Vm.Good Tryz.prog 16 E16 := good_gen (G := G16) (L := loopNil) (c := c16) (rn := []) (N := (0, 0)) (envCons_good good25 (envCons_good good55 (envCons_good good56 (envCons_good good57 envNil_good)))) (no_loops (c := c16) (by kernel_rfl)) Tryz.func16 (by kernel_rfl) (by kernel_rfl) (fun _ => by kernel_rfl) ev16
noncomputable def G88 : Env := envNil
noncomputable def c88 : Code := bodyOf Tryz.f88
noncomputable def c88_3 : Code := (loopsOf c88).getD 0 .skip
noncomputable def L.toUint64S_l0 : Nat → (List Int → Option (List Int)) → Int → List Int → List Int → Option (List Int)
  | 0, _, _, _, _ => none
  | m + 1, e3_0, a4, a5, a6 =>
    (bif (decide (a4 < (a5.length : Int))) then
    (bif decide ((0 : Int) ≤ a4 ∧ a4 < (a5.length : Int)) then
    (bif decide ((0 : Int) ≤ a4 ∧ a4 < (a6.length : Int)) then
    (L.toUint64S_l0 m e3_0 (IntKind.wrap .i64 (a4 + 1)) a5 (a6.set (Int.toNat a4) (nthI a5 a4 (0 : Int))))
    else
    none)
    else
    none)
    else
    (e3_0 a6))
noncomputable def L.toUint64S (a1 : List Int) : Option (List Int) :=
(let v2 : Int := (a1.length : Int)
(bif decide ((0 : Int) ≤ v2 ∧ v2 ≤ v2 ∧ (8 : Int) * v2 ≤ 281474976710656 ∧ v2 ≤ 9223372036854775807) then
(L.toUint64S_l0 fu (fun y11 =>
(some y11)) 0 a1 (List.replicate (Int.toNat v2) (0 : Int)))
else
none))
noncomputable def H88_3 : LoopH := ⟨⟨((.one (.sl 0)) :: (hu 2 ((.one (.sl 1)) :: hh :: (hu 17 [])))), [], [(87, (.int .u64), .ro), (87, (.int .u64), .own)]⟩, ([1, 2] ++ rg 5 17), [], ([0, 1] ++ rg 4 18), [], []⟩
noncomputable def k88_3 : List PK := [.int .i64, .row (.int .u64), .row (.int .u64)]
noncomputable def W88_3 (m : Nat) (k : Kont (List Int)) : Cur k88_3 (Option (List Int)) := L.toUint64S_l0 m (exF k (.exit 0) ⟨(hu 3 ((.one (.sl 0)) :: (hu 18 []))), [], [(87, (.int .u64), .own)]⟩ [.row (.int .u64)])
noncomputable def E88_3 (m : Nat) : List Prm → Kont (List Int) → Option (List Int) := eL k88_3 (W88_3 m)
theorem ev88_3 (m : Nat) (k : Kont (List Int)) (a : Args k88_3) : evL Tryz.prog G88 loopNil c88_3 (turn Tryz.prog (0, 0) H88_3 (E88_3 m) k) (H88_3.sk.fl (encP k88_3 a)) = unc k88_3 (W88_3 (m + 1) k) a := by kernel_rfl
theorem ok88_3 (m : Nat) : LoopOk Tryz.prog (0, 0) c88_3 (enter Tryz.prog (0, 0) H88_3 (E88_3 m)) := loop_gen (Fl := W88_3) (G := G88) (L := loopNil) envNil_good (no_loops (c := c88_3) (by kernel_rfl)) (fun _ _ => by kernel_rfl) ev88_3 m
noncomputable def L88 : LEnv (List Int) := (loopCons 3 (enter Tryz.prog (0, 0) H88_3 (E88_3 fu)) loopNil)
theorem lq88 : loopsOf c88 = [c88_3] := by kernel_rfl
theorem fr88_3 : firstReg c88_3 = some 3 := by kernel_rfl
theorem le88_3 : L88 3 = enter Tryz.prog (0, 0) H88_3 (E88_3 fu) := by kernel_rfl
theorem lm88 : ∀ x ∈ [c88_3], ∀ id, firstReg x = some id → LoopOk Tryz.prog (0, 0) x (L88 id) := (loops_cons fr88_3 le88_3 (ok88_3 fu) loops_nil)
theorem lp88 : ∀ x ∈ loopsOf c88, ∀ id, firstReg x = some id → LoopOk Tryz.prog (0, 0) x (L88 id) := loops_eq lq88 lm88
noncomputable def sg88 : Sg := ⟨⟨[.one (.sl 0)], [], [(87, (.int .u64), .ro)]⟩, [.row (.int .u64)], ⟨[.one (.sl 0)], [], [(87, (.int .u64), .own)]⟩, [.row (.int .u64)]⟩
noncomputable def E88 : Fun2 := eOf sg88 L.toUint64S
theorem ev88 (a : Args sg88.ks) : evS Tryz.prog G88 L88 (0, 0) [] Tryz.f88 c88 (kOf sg88) (sg88.sk.fl (encP sg88.ks a)) = unc sg88.ks L.toUint64S a := by kernel_rfl
theorem good88 : Vm.Good Tryz.prog 88 E88 := good_gen (G := G88) (L := L88) (c := c88) (rn := []) (N := (0, 0)) envNil_good lp88 Tryz.func88 (by kernel_rfl) (by kernel_rfl) (fun _ => by kernel_rfl) ev88
noncomputable def G27 : Env := (envCons 88 [] E88 envNil)
noncomputable def c27 : Code := bodyOf Tryz.f27
noncomputable def L.toLat (a1 : Int) (a2 : List Int) : Option (Int × List Int) :=
(Option.bind (L.toUint64S a2) fun r3 =>
(some (a1, r3)))
noncomputable def sg27 : Sg := ⟨⟨[.agg [.hole, .sl 0]], [], [(87, (.int .u64), .ro)]⟩, [.int .i64, .row (.int .u64)], ⟨[.agg [.hole, .sl 0]], [], [(87, (.int .u64), .own)]⟩, [.int .i64, .row (.int .u64)]⟩
noncomputable def E27 : Fun2 := eOf sg27 L.toLat
theorem ev27 (a : Args sg27.ks) : evS Tryz.prog G27 loopNil (0, 0) [] Tryz.f27 c27 (kOf sg27) (sg27.sk.fl (encP sg27.ks a)) = unc sg27.ks L.toLat a := by kernel_rfl
theorem good27 : Vm.Good Tryz.prog 27 E27 := good_gen (G := G27) (L := loopNil) (c := c27) (rn := []) (N := (0, 0)) (envCons_good good88 envNil_good) (no_loops (c := c27) (by kernel_rfl)) Tryz.func27 (by kernel_rfl) (by kernel_rfl) (fun _ => by kernel_rfl) ev27
noncomputable def G270 : Env := envNil
noncomputable def c270 : Code := bodyOf Tryz.f270
noncomputable def L.toTok (a1 a2 : Int) : Option (Int × Int) :=
(some (a1, a2))
noncomputable def sg270 : Sg := ⟨⟨[.agg (ho 2 [])], [], []⟩, (ki 2 []), ⟨[.agg (ho 2 [])], [], []⟩, (ki 2 [])⟩
noncomputable def E270 : Fun2 := eOf sg270 L.toTok
theorem ev270 (a : Args sg270.ks) : evS Tryz.prog G270 loopNil (0, 0) [] Tryz.f270 c270 (kOf sg270) (sg270.sk.fl (encP sg270.ks a)) = unc sg270.ks L.toTok a := by kernel_rfl
theorem good270 : Vm.Good Tryz.prog 270 E270 := good_gen (G := G270) (L := loopNil) (c := c270) (rn := []) (N := (0, 0)) envNil_good (no_loops (c := c270) (by kernel_rfl)) Tryz.func270 (by kernel_rfl) (by kernel_rfl) (fun _ => by kernel_rfl) ev270
noncomputable def G222 : Env := (envCons 270 [] E270 envNil)
noncomputable def c222 : Code := bodyOf Tryz.f222
noncomputable def c222_3 : Code := (loopsOf c222).getD 0 .skip
noncomputable def L.toTokS_l0 : Nat → ((List (Int × Int)) → Option ((List (Int × Int)))) → Int → (List (Int × Int)) → (List (Int × Int)) → Option ((List (Int × Int)))
  | 0, _, _, _, _ => none
  | m + 1, e3_0, a4, a5, a6 =>
    (bif (decide (a4 < (a5.length : Int))) then
    (bif decide ((0 : Int) ≤ a4 ∧ a4 < (a5.length : Int)) then
    (Option.bind (L.toTok ((nthI a5 a4 df2).1) ((nthI a5 a4 df2).2)) fun r9 =>
    (bif decide ((0 : Int) ≤ a4 ∧ a4 < (a6.length : Int)) then
    (L.toTokS_l0 m e3_0 (IntKind.wrap .i64 (a4 + 1)) a5 (a6.set (Int.toNat a4) (r9.1, r9.2)))
    else
    none))
    else
    none)
    else
    (e3_0 a6))
noncomputable def L.toTokS (a1 : List (Int × Int)) : Option ((List (Int × Int))) :=
(let v2 : Int := (a1.length : Int)
(bif decide ((0 : Int) ≤ v2 ∧ v2 ≤ v2 ∧ (16 : Int) * v2 ≤ 281474976710656 ∧ v2 ≤ 9223372036854775807) then
(L.toTokS_l0 fu (fun y12 =>
(some y12)) 0 a1 (List.replicate (Int.toNat v2) (0, 0)))
else
none))
noncomputable def H222_3 : LoopH := ⟨⟨((.one (.sl 0)) :: (hu 2 ((.one (.sl 1)) :: hh :: (hu 18 [])))), [], [(289, sh1, .ro), (255, sh1, .own)]⟩, ([1, 2] ++ rg 5 18), [], ([0, 1] ++ rg 4 19), [], []⟩
noncomputable def k222_3 : List PK := [.int .i64, .row sh1, .row sh1]
noncomputable def W222_3 (m : Nat) (k : Kont ((List (Int × Int)))) : Cur k222_3 (Option ((List (Int × Int)))) := L.toTokS_l0 m (exF k (.exit 0) ⟨(hu 3 ((.one (.sl 0)) :: (hu 19 []))), [], [(255, sh1, .own)]⟩ [.row sh1])
noncomputable def E222_3 (m : Nat) : List Prm → Kont ((List (Int × Int))) → Option ((List (Int × Int))) := eL k222_3 (W222_3 m)
theorem ev222_3 (m : Nat) (k : Kont ((List (Int × Int)))) (a : Args k222_3) : evL Tryz.prog G222 loopNil c222_3 (turn Tryz.prog (0, 0) H222_3 (E222_3 m) k) (H222_3.sk.fl (encP k222_3 a)) = unc k222_3 (W222_3 (m + 1) k) a := by kernel_rfl
theorem ok222_3 (m : Nat) : LoopOk Tryz.prog (0, 0) c222_3 (enter Tryz.prog (0, 0) H222_3 (E222_3 m)) := loop_gen (Fl := W222_3) (G := G222) (L := loopNil) (envCons_good good270 envNil_good) (no_loops (c := c222_3) (by kernel_rfl)) (fun _ _ => by kernel_rfl) ev222_3 m
noncomputable def L222 : LEnv ((List (Int × Int))) := (loopCons 3 (enter Tryz.prog (0, 0) H222_3 (E222_3 fu)) loopNil)
theorem lq222 : loopsOf c222 = [c222_3] := by kernel_rfl
theorem fr222_3 : firstReg c222_3 = some 3 := by kernel_rfl
theorem le222_3 : L222 3 = enter Tryz.prog (0, 0) H222_3 (E222_3 fu) := by kernel_rfl
theorem lm222 : ∀ x ∈ [c222_3], ∀ id, firstReg x = some id → LoopOk Tryz.prog (0, 0) x (L222 id) := (loops_cons fr222_3 le222_3 (ok222_3 fu) loops_nil)
theorem lp222 : ∀ x ∈ loopsOf c222, ∀ id, firstReg x = some id → LoopOk Tryz.prog (0, 0) x (L222 id) := loops_eq lq222 lm222
noncomputable def sg222 : Sg := ⟨⟨[.one (.sl 0)], [], [(289, sh1, .ro)]⟩, [.row sh1], ⟨[.one (.sl 0)], [], [(255, sh1, .own)]⟩, [.row sh1]⟩
noncomputable def E222 : Fun2 := eOf sg222 L.toTokS
theorem ev222 (a : Args sg222.ks) : evS Tryz.prog G222 L222 (0, 0) [] Tryz.f222 c222 (kOf sg222) (sg222.sk.fl (encP sg222.ks a)) = unc sg222.ks L.toTokS a := by kernel_rfl
theorem good222 : Vm.Good Tryz.prog 222 E222 := good_gen (G := G222) (L := L222) (c := c222) (rn := []) (N := (0, 0)) (envCons_good good270 envNil_good) lp222 Tryz.func222 (by kernel_rfl) (by kernel_rfl) (fun _ => by kernel_rfl) ev222
noncomputable def G11 : Env := envNil
noncomputable def c11 : Code := bodyOf Tryz.f11
noncomputable def L.toWinDef (a1 a2 a3 : Int) : Option (Int × Int × Int) :=
(some (a1, a2, a3))
noncomputable def sg11 : Sg := ⟨⟨[.agg (ho 3 [])], [], []⟩, (ki 3 []), ⟨[.agg (ho 3 [])], [], []⟩, (ki 3 [])⟩
noncomputable def E11 : Fun2 := eOf sg11 L.toWinDef
theorem ev11 (a : Args sg11.ks) : evS Tryz.prog G11 loopNil (0, 0) [] Tryz.f11 c11 (kOf sg11) (sg11.sk.fl (encP sg11.ks a)) = unc sg11.ks L.toWinDef a := by kernel_rfl
theorem good11 : Vm.Good Tryz.prog 11 E11 := good_gen (G := G11) (L := loopNil) (c := c11) (rn := []) (N := (0, 0)) envNil_good (no_loops (c := c11) (by kernel_rfl)) Tryz.func11 (by kernel_rfl) (by kernel_rfl) (fun _ => by kernel_rfl) ev11
noncomputable def G142 : Env := (envCons 222 [] E222 (envCons 11 [] E11 envNil))
noncomputable def c142 : Code := bodyOf Tryz.f142
noncomputable def L.toQuery (a1 a2 a3 a4 a5 : Int) (a6 a7 : List (Int × Int)) : Option (Int × Int × Int × Int × Int × (List (Int × Int)) × (List (Int × Int))) :=
(Option.bind (L.toTokS a6) fun r8 =>
(Option.bind (L.toTokS a7) fun r9 =>
(Option.bind (L.toWinDef a1 a2 a3) fun r10 =>
(some (r10.1, r10.2.1, r10.2.2, a4, a5, r8, r9)))))
noncomputable def sg142 : Sg := ⟨⟨[.agg ((.sl 0) :: (.sl 1) :: (ho 5 []))], [], [(289, sh1, .ro), (289, sh1, .ro)]⟩, (ki 5 [.row sh1, .row sh1]), ⟨[.agg ((.sl 0) :: (.sl 1) :: (ho 5 []))], [], [(255, sh1, .own), (255, sh1, .own)]⟩, (ki 5 [.row sh1, .row sh1])⟩
noncomputable def E142 : Fun2 := eOf sg142 L.toQuery
theorem ev142 (a : Args sg142.ks) : evS Tryz.prog G142 loopNil (0, 0) [] Tryz.f142 c142 (kOf sg142) (sg142.sk.fl (encP sg142.ks a)) = unc sg142.ks L.toQuery a := by kernel_rfl
theorem good142 : Vm.Good Tryz.prog 142 E142 := good_gen (G := G142) (L := loopNil) (c := c142) (rn := []) (N := (0, 0)) (envCons_good good222 (envCons_good good11 envNil_good)) (no_loops (c := c142) (by kernel_rfl)) Tryz.func142 (by kernel_rfl) (by kernel_rfl) (fun _ => by kernel_rfl) ev142
noncomputable def G62 : Env := (envCons 142 [] E142 envNil)
noncomputable def c62 : Code := bodyOf Tryz.f62
noncomputable def c62_3 : Code := (loopsOf c62).getD 0 .skip
noncomputable def L.toQueryS_l0 : Nat → ((List ty6) → Option ((List ty6))) → Int → (List ty6) → (List ty6) → Option ((List ty6))
  | 0, _, _, _, _ => none
  | m + 1, e3_0, a4, a5, a6 =>
    (bif (decide (a4 < (a5.length : Int))) then
    (bif decide ((0 : Int) ≤ a4 ∧ a4 < (a5.length : Int)) then
    (Option.bind (L.toQuery ((nthI a5 a4 ([], ([], (df1, df2)))).2.2.1.1) ((nthI a5 a4 ([], ([], (df1, df2)))).2.2.1.2.1) ((nthI a5 a4 ([], ([], (df1, df2)))).2.2.1.2.2) ((nthI a5 a4 ([], ([], (df1, df2)))).2.2.2.1) ((nthI a5 a4 ([], ([], (df1, df2)))).2.2.2.2) ((nthI a5 a4 ([], ([], (df1, df2)))).1) ((nthI a5 a4 ([], ([], (df1, df2)))).2.1)) fun r9 =>
    (bif decide ((0 : Int) ≤ a4 ∧ a4 < (a6.length : Int)) then
    (let v10 : List ty6 := (a6.set (Int.toNat a4) (r9.2.2.2.2.2.1, (r9.2.2.2.2.2.2, ((r9.1, (r9.2.1, r9.2.2.1)), (r9.2.2.2.1, r9.2.2.2.2.1)))))
    (L.toQueryS_l0 m e3_0 (IntKind.wrap .i64 (a4 + 1)) a5 v10))
    else
    none))
    else
    none)
    else
    (e3_0 a6))
noncomputable def L.toQueryS (a1 : List ty6) : Option ((List ty6)) :=
(let v2 : Int := (a1.length : Int)
(bif decide ((0 : Int) ≤ v2 ∧ v2 ≤ v2 ∧ (88 : Int) * v2 ≤ 281474976710656 ∧ v2 ≤ 9223372036854775807) then
(let v3 : List ty6 := (List.replicate (Int.toNat v2) ([], ([], ((0, (0, 0)), (0, 0)))))
(L.toQueryS_l0 fu (fun y12 =>
(some y12)) 0 a1 v3))
else
none))
noncomputable def H62_3 : LoopH := ⟨⟨((.one (.sl 0)) :: (hu 2 ((.one (.sl 1)) :: hh :: (hu 18 [])))), [], [(185, sh2, .ro), (190, sh5, .own)]⟩, ([1, 2] ++ rg 5 18), [], ([0, 1] ++ rg 4 19), [], []⟩
noncomputable def k62_3 : List PK := [.int .i64, .row sh2, .row sh5]
noncomputable def W62_3 (m : Nat) (k : Kont ((List ty6))) : Cur k62_3 (Option ((List ty6))) := L.toQueryS_l0 m (exF k (.exit 0) ⟨(hu 3 ((.one (.sl 0)) :: (hu 19 []))), [], [(190, sh5, .own)]⟩ [.row sh5])
noncomputable def E62_3 (m : Nat) : List Prm → Kont ((List ty6)) → Option ((List ty6)) := eL k62_3 (W62_3 m)
theorem ev62_3 (m : Nat) (k : Kont ((List ty6))) (a : Args k62_3) : evL Tryz.prog G62 loopNil c62_3 (turn Tryz.prog (0, 0) H62_3 (E62_3 m) k) (H62_3.sk.fl (encP k62_3 a)) = unc k62_3 (W62_3 (m + 1) k) a := by kernel_rfl
theorem ok62_3 (m : Nat) : LoopOk Tryz.prog (0, 0) c62_3 (enter Tryz.prog (0, 0) H62_3 (E62_3 m)) := loop_gen (Fl := W62_3) (G := G62) (L := loopNil) (envCons_good good142 envNil_good) (no_loops (c := c62_3) (by kernel_rfl)) (fun _ _ => by kernel_rfl) ev62_3 m
noncomputable def L62 : LEnv ((List ty6)) := (loopCons 3 (enter Tryz.prog (0, 0) H62_3 (E62_3 fu)) loopNil)
theorem lq62 : loopsOf c62 = [c62_3] := by kernel_rfl
theorem fr62_3 : firstReg c62_3 = some 3 := by kernel_rfl
theorem le62_3 : L62 3 = enter Tryz.prog (0, 0) H62_3 (E62_3 fu) := by kernel_rfl
theorem lm62 : ∀ x ∈ [c62_3], ∀ id, firstReg x = some id → LoopOk Tryz.prog (0, 0) x (L62 id) := (loops_cons fr62_3 le62_3 (ok62_3 fu) loops_nil)
theorem lp62 : ∀ x ∈ loopsOf c62, ∀ id, firstReg x = some id → LoopOk Tryz.prog (0, 0) x (L62 id) := loops_eq lq62 lm62
noncomputable def sg62 : Sg := ⟨⟨[.one (.sl 0)], [], [(185, sh2, .ro)]⟩, [.row sh2], ⟨[.one (.sl 0)], [], [(190, sh5, .own)]⟩, [.row sh5]⟩
noncomputable def E62 : Fun2 := eOf sg62 L.toQueryS
theorem ev62 (a : Args sg62.ks) : evS Tryz.prog G62 L62 (0, 0) [] Tryz.f62 c62 (kOf sg62) (sg62.sk.fl (encP sg62.ks a)) = unc sg62.ks L.toQueryS a := by kernel_rfl
theorem good62 : Vm.Good Tryz.prog 62 E62 := good_gen (G := G62) (L := L62) (c := c62) (rn := []) (N := (0, 0)) (envCons_good good142 envNil_good) lp62 Tryz.func62 (by kernel_rfl) (by kernel_rfl) (fun _ => by kernel_rfl) ev62
noncomputable def G143 : Env := envNil
noncomputable def c143 : Code := bodyOf Tryz.f143
noncomputable def L.toSub (a1 a2 a3 : Int) : Option (Int × Int × Int) :=
(some (a1, a2, a3))
noncomputable def sg143 : Sg := ⟨⟨[.agg (ho 3 [])], [], []⟩, (ki 3 []), ⟨[.agg (ho 3 [])], [], []⟩, (ki 3 [])⟩
noncomputable def E143 : Fun2 := eOf sg143 L.toSub
theorem ev143 (a : Args sg143.ks) : evS Tryz.prog G143 loopNil (0, 0) [] Tryz.f143 c143 (kOf sg143) (sg143.sk.fl (encP sg143.ks a)) = unc sg143.ks L.toSub a := by kernel_rfl
theorem good143 : Vm.Good Tryz.prog 143 E143 := good_gen (G := G143) (L := loopNil) (c := c143) (rn := []) (N := (0, 0)) envNil_good (no_loops (c := c143) (by kernel_rfl)) Tryz.func143 (by kernel_rfl) (by kernel_rfl) (fun _ => by kernel_rfl) ev143
noncomputable def G63 : Env := (envCons 143 [] E143 envNil)
noncomputable def c63 : Code := bodyOf Tryz.f63
noncomputable def c63_3 : Code := (loopsOf c63).getD 0 .skip
noncomputable def L.toSubS_l0 : Nat → ((List (Int × Int × Int)) → Option ((List (Int × Int × Int)))) → Int → (List (Int × Int × Int)) → (List (Int × Int × Int)) → Option ((List (Int × Int × Int)))
  | 0, _, _, _, _ => none
  | m + 1, e3_0, a4, a5, a6 =>
    (bif (decide (a4 < (a5.length : Int))) then
    (bif decide ((0 : Int) ≤ a4 ∧ a4 < (a5.length : Int)) then
    (Option.bind (L.toSub ((nthI a5 a4 df1).1) ((nthI a5 a4 df1).2.1) ((nthI a5 a4 df1).2.2)) fun r9 =>
    (bif decide ((0 : Int) ≤ a4 ∧ a4 < (a6.length : Int)) then
    (L.toSubS_l0 m e3_0 (IntKind.wrap .i64 (a4 + 1)) a5 (a6.set (Int.toNat a4) (r9.1, (r9.2.1, r9.2.2))))
    else
    none))
    else
    none)
    else
    (e3_0 a6))
noncomputable def L.toSubS (a1 : List (Int × Int × Int)) : Option ((List (Int × Int × Int))) :=
(let v2 : Int := (a1.length : Int)
(bif decide ((0 : Int) ≤ v2 ∧ v2 ≤ v2 ∧ (24 : Int) * v2 ≤ 281474976710656 ∧ v2 ≤ 9223372036854775807) then
(L.toSubS_l0 fu (fun y12 =>
(some y12)) 0 a1 (List.replicate (Int.toNat v2) (0, (0, 0))))
else
none))
noncomputable def H63_3 : LoopH := ⟨⟨((.one (.sl 0)) :: (hu 2 ((.one (.sl 1)) :: hh :: (hu 18 [])))), [], [(194, sh3, .ro), (126, sh3, .own)]⟩, ([1, 2] ++ rg 5 18), [], ([0, 1] ++ rg 4 19), [], []⟩
noncomputable def k63_3 : List PK := [.int .i64, .row sh3, .row sh3]
noncomputable def W63_3 (m : Nat) (k : Kont ((List (Int × Int × Int)))) : Cur k63_3 (Option ((List (Int × Int × Int)))) := L.toSubS_l0 m (exF k (.exit 0) ⟨(hu 3 ((.one (.sl 0)) :: (hu 19 []))), [], [(126, sh3, .own)]⟩ [.row sh3])
noncomputable def E63_3 (m : Nat) : List Prm → Kont ((List (Int × Int × Int))) → Option ((List (Int × Int × Int))) := eL k63_3 (W63_3 m)
theorem ev63_3 (m : Nat) (k : Kont ((List (Int × Int × Int)))) (a : Args k63_3) : evL Tryz.prog G63 loopNil c63_3 (turn Tryz.prog (0, 0) H63_3 (E63_3 m) k) (H63_3.sk.fl (encP k63_3 a)) = unc k63_3 (W63_3 (m + 1) k) a := by kernel_rfl
theorem ok63_3 (m : Nat) : LoopOk Tryz.prog (0, 0) c63_3 (enter Tryz.prog (0, 0) H63_3 (E63_3 m)) := loop_gen (Fl := W63_3) (G := G63) (L := loopNil) (envCons_good good143 envNil_good) (no_loops (c := c63_3) (by kernel_rfl)) (fun _ _ => by kernel_rfl) ev63_3 m
noncomputable def L63 : LEnv ((List (Int × Int × Int))) := (loopCons 3 (enter Tryz.prog (0, 0) H63_3 (E63_3 fu)) loopNil)
theorem lq63 : loopsOf c63 = [c63_3] := by kernel_rfl
theorem fr63_3 : firstReg c63_3 = some 3 := by kernel_rfl
theorem le63_3 : L63 3 = enter Tryz.prog (0, 0) H63_3 (E63_3 fu) := by kernel_rfl
theorem lm63 : ∀ x ∈ [c63_3], ∀ id, firstReg x = some id → LoopOk Tryz.prog (0, 0) x (L63 id) := (loops_cons fr63_3 le63_3 (ok63_3 fu) loops_nil)
theorem lp63 : ∀ x ∈ loopsOf c63, ∀ id, firstReg x = some id → LoopOk Tryz.prog (0, 0) x (L63 id) := loops_eq lq63 lm63
noncomputable def sg63 : Sg := ⟨⟨[.one (.sl 0)], [], [(194, sh3, .ro)]⟩, [.row sh3], ⟨[.one (.sl 0)], [], [(126, sh3, .own)]⟩, [.row sh3]⟩
noncomputable def E63 : Fun2 := eOf sg63 L.toSubS
theorem ev63 (a : Args sg63.ks) : evS Tryz.prog G63 L63 (0, 0) [] Tryz.f63 c63 (kOf sg63) (sg63.sk.fl (encP sg63.ks a)) = unc sg63.ks L.toSubS a := by kernel_rfl
theorem good63 : Vm.Good Tryz.prog 63 E63 := good_gen (G := G63) (L := L63) (c := c63) (rn := []) (N := (0, 0)) (envCons_good good143 envNil_good) lp63 Tryz.func63 (by kernel_rfl) (by kernel_rfl) (fun _ => by kernel_rfl) ev63
noncomputable def G144 : Env := envNil
noncomputable def c144 : Code := bodyOf Tryz.f144
noncomputable def L.toRule (a1 a2 a3 a4 a5 : Int) : Option (Int × Int × Int × Int × Int) :=
(some (a1, a2, a3, a4, a5))
noncomputable def sg144 : Sg := ⟨⟨[.agg (ho 5 [])], [], []⟩, (ki 5 []), ⟨[.agg (ho 5 [])], [], []⟩, (ki 5 [])⟩
noncomputable def E144 : Fun2 := eOf sg144 L.toRule
theorem ev144 (a : Args sg144.ks) : evS Tryz.prog G144 loopNil (0, 0) [] Tryz.f144 c144 (kOf sg144) (sg144.sk.fl (encP sg144.ks a)) = unc sg144.ks L.toRule a := by kernel_rfl
theorem good144 : Vm.Good Tryz.prog 144 E144 := good_gen (G := G144) (L := loopNil) (c := c144) (rn := []) (N := (0, 0)) envNil_good (no_loops (c := c144) (by kernel_rfl)) Tryz.func144 (by kernel_rfl) (by kernel_rfl) (fun _ => by kernel_rfl) ev144
noncomputable def G64 : Env := (envCons 144 [] E144 envNil)
noncomputable def c64 : Code := bodyOf Tryz.f64
noncomputable def c64_3 : Code := (loopsOf c64).getD 0 .skip
noncomputable def L.toRuleS_l0 : Nat → ((List ty10) → Option ((List ty10))) → Int → (List ty10) → (List ty10) → Option ((List ty10))
  | 0, _, _, _, _ => none
  | m + 1, e3_0, a4, a5, a6 =>
    (bif (decide (a4 < (a5.length : Int))) then
    (bif decide ((0 : Int) ≤ a4 ∧ a4 < (a5.length : Int)) then
    (Option.bind (L.toRule ((nthI a5 a4 df3).1) ((nthI a5 a4 df3).2.1) ((nthI a5 a4 df3).2.2.1) ((nthI a5 a4 df3).2.2.2.1) ((nthI a5 a4 df3).2.2.2.2)) fun r9 =>
    (bif decide ((0 : Int) ≤ a4 ∧ a4 < (a6.length : Int)) then
    (let v10 : List ty10 := (a6.set (Int.toNat a4) (r9.1, (r9.2.1, (r9.2.2.1, (r9.2.2.2.1, r9.2.2.2.2)))))
    (L.toRuleS_l0 m e3_0 (IntKind.wrap .i64 (a4 + 1)) a5 v10))
    else
    none))
    else
    none)
    else
    (e3_0 a6))
noncomputable def L.toRuleS (a1 : List ty10) : Option ((List ty10)) :=
(let v2 : Int := (a1.length : Int)
(bif decide ((0 : Int) ≤ v2 ∧ v2 ≤ v2 ∧ (40 : Int) * v2 ≤ 281474976710656 ∧ v2 ≤ 9223372036854775807) then
(L.toRuleS_l0 fu (fun y12 =>
(some y12)) 0 a1 (List.replicate (Int.toNat v2) (0, (0, (0, (0, 0))))))
else
none))
noncomputable def H64_3 : LoopH := ⟨⟨((.one (.sl 0)) :: (hu 2 ((.one (.sl 1)) :: hh :: (hu 18 [])))), [], [(196, sh4, .ro), (159, sh4, .own)]⟩, ([1, 2] ++ rg 5 18), [], ([0, 1] ++ rg 4 19), [], []⟩
noncomputable def k64_3 : List PK := [.int .i64, .row sh4, .row sh4]
noncomputable def W64_3 (m : Nat) (k : Kont ((List ty10))) : Cur k64_3 (Option ((List ty10))) := L.toRuleS_l0 m (exF k (.exit 0) ⟨(hu 3 ((.one (.sl 0)) :: (hu 19 []))), [], [(159, sh4, .own)]⟩ [.row sh4])
noncomputable def E64_3 (m : Nat) : List Prm → Kont ((List ty10)) → Option ((List ty10)) := eL k64_3 (W64_3 m)
theorem ev64_3 (m : Nat) (k : Kont ((List ty10))) (a : Args k64_3) : evL Tryz.prog G64 loopNil c64_3 (turn Tryz.prog (0, 0) H64_3 (E64_3 m) k) (H64_3.sk.fl (encP k64_3 a)) = unc k64_3 (W64_3 (m + 1) k) a := by kernel_rfl
theorem ok64_3 (m : Nat) : LoopOk Tryz.prog (0, 0) c64_3 (enter Tryz.prog (0, 0) H64_3 (E64_3 m)) := loop_gen (Fl := W64_3) (G := G64) (L := loopNil) (envCons_good good144 envNil_good) (no_loops (c := c64_3) (by kernel_rfl)) (fun _ _ => by kernel_rfl) ev64_3 m
noncomputable def L64 : LEnv ((List ty10)) := (loopCons 3 (enter Tryz.prog (0, 0) H64_3 (E64_3 fu)) loopNil)
theorem lq64 : loopsOf c64 = [c64_3] := by kernel_rfl
theorem fr64_3 : firstReg c64_3 = some 3 := by kernel_rfl
theorem le64_3 : L64 3 = enter Tryz.prog (0, 0) H64_3 (E64_3 fu) := by kernel_rfl
theorem lm64 : ∀ x ∈ [c64_3], ∀ id, firstReg x = some id → LoopOk Tryz.prog (0, 0) x (L64 id) := (loops_cons fr64_3 le64_3 (ok64_3 fu) loops_nil)
theorem lp64 : ∀ x ∈ loopsOf c64, ∀ id, firstReg x = some id → LoopOk Tryz.prog (0, 0) x (L64 id) := loops_eq lq64 lm64
noncomputable def sg64 : Sg := ⟨⟨[.one (.sl 0)], [], [(196, sh4, .ro)]⟩, [.row sh4], ⟨[.one (.sl 0)], [], [(159, sh4, .own)]⟩, [.row sh4]⟩
noncomputable def E64 : Fun2 := eOf sg64 L.toRuleS
theorem ev64 (a : Args sg64.ks) : evS Tryz.prog G64 L64 (0, 0) [] Tryz.f64 c64 (kOf sg64) (sg64.sk.fl (encP sg64.ks a)) = unc sg64.ks L.toRuleS a := by kernel_rfl
theorem good64 : Vm.Good Tryz.prog 64 E64 := good_gen (G := G64) (L := L64) (c := c64) (rn := []) (N := (0, 0)) (envCons_good good144 envNil_good) lp64 Tryz.func64 (by kernel_rfl) (by kernel_rfl) (fun _ => by kernel_rfl) ev64
noncomputable def G18 : Env := (envCons 27 [] E27 (envCons 62 [] E62 (envCons 63 [] E63 (envCons 64 [] E64 envNil))))
noncomputable def c18 : Code := bodyOf Tryz.f18
noncomputable def L.toConf (a1 a2 a3 : Int) (a4 : List Int) (a5 : List ty6) (a6 : List (Int × Int × Int)) (a7 : List ty10) : Option (Int × Int × Int × List Int × (List ty6) × (List (Int × Int × Int)) × (List ty10)) :=
(Option.bind (L.toLat a1 a4) fun r8 =>
(Option.bind (L.toQueryS a5) fun r9 =>
(Option.bind (L.toSubS a6) fun r10 =>
(Option.bind (L.toRuleS a7) fun r11 =>
(some (r8.1, a2, a3, r8.2, r9, r10, r11))))))
noncomputable def sg18 : Sg := ⟨⟨[.agg ((.hole) :: (.sl 0) :: (ho 2 [.sl 1, .sl 2, .sl 3]))], [], [(87, (.int .u64), .ro), (185, sh2, .ro), (194, sh3, .ro), (196, sh4, .ro)]⟩, (ki 3 [.row (.int .u64), .row sh2, .row sh3, .row sh4]), ⟨[.agg ((.hole) :: (.sl 0) :: (ho 2 [.sl 1, .sl 2, .sl 3]))], [], [(87, (.int .u64), .own), (190, sh5, .own), (126, sh3, .own), (159, sh4, .own)]⟩, (ki 3 [.row (.int .u64), .row sh5, .row sh3, .row sh4])⟩
noncomputable def E18 : Fun2 := eOf sg18 L.toConf
theorem ev18 (a : Args sg18.ks) : evS Tryz.prog G18 loopNil (0, 0) [] Tryz.f18 c18 (kOf sg18) (sg18.sk.fl (encP sg18.ks a)) = unc sg18.ks L.toConf a := by kernel_rfl
theorem good18 : Vm.Good Tryz.prog 18 E18 := good_gen (G := G18) (L := loopNil) (c := c18) (rn := []) (N := (0, 0)) (envCons_good good27 (envCons_good good62 (envCons_good good63 (envCons_good good64 envNil_good)))) (no_loops (c := c18) (by kernel_rfl)) Tryz.func18 (by kernel_rfl) (by kernel_rfl) (fun _ => by kernel_rfl) ev18
noncomputable def G167 : Env := envNil
noncomputable def c167 : Code := bodyOf Tryz.f167
noncomputable def S.l01Bit (a1 a2 : Int) : Option Bool :=
(let v3 : Int := (IntKind.wrap .u64 a2)
(bif decide ((0 : Int) ≤ v3) then
(some ((Go.bits .and .u64 (Int.fdiv a1 (2 ^ min (Int.toNat v3) (IntKind.bits .u64))) 1) == 1))
else
none))
noncomputable def sg167 : Sg := ⟨⟨[hh, hh], [], []⟩, [.int .u64, .int .i64], ⟨[hh], [], []⟩, [.bool]⟩
noncomputable def E167 : Fun2 := eOf sg167 S.l01Bit
theorem ev167 (a : Args sg167.ks) : evS Tryz.prog G167 loopNil (0, 0) [] Tryz.f167 c167 (kOf sg167) (sg167.sk.fl (encP sg167.ks a)) = unc sg167.ks S.l01Bit a := by kernel_rfl
theorem good167 : Vm.Good Tryz.prog 167 E167 := good_gen (G := G167) (L := loopNil) (c := c167) (rn := []) (N := (0, 0)) envNil_good (no_loops (c := c167) (by kernel_rfl)) Tryz.func167 (by kernel_rfl) (by kernel_rfl) (fun _ => by kernel_rfl) ev167
noncomputable def G219 : Env := envNil
noncomputable def c219 : Code := bodyOf Tryz.f219
noncomputable def c219_2 : Code := (loopsOf c219).getD 0 .skip
noncomputable def S.l01Power_l0 : Nat → (Int → Option Int) → Int → Int → Option Int
  | 0, _, _, _ => none
  | m + 1, e2_0, a2, a3 =>
    (bif (decide (0 < a2)) then
    (S.l01Power_l0 m e2_0 (IntKind.wrap .i64 (a2 - 1)) (IntKind.wrap .u64 (2 * a3)))
    else
    (e2_0 a3))
noncomputable def S.l01Power (a1 : Int) : Option Int :=
(S.l01Power_l0 fu (fun y7 =>
(some y7)) a1 1)
noncomputable def H219_2 : LoopH := ⟨⟨(hh :: (hu 2 (hh :: (hu 7 [])))), [], []⟩, ([1, 2] ++ rg 4 7), [], ([0, 1] ++ rg 4 7), [], []⟩
noncomputable def k219_2 : List PK := [.int .i64, .int .u64]
noncomputable def W219_2 (m : Nat) (k : Kont Int) : Cur k219_2 (Option Int) := S.l01Power_l0 m (exF k (.exit 0) ⟨(hu 3 (hh :: (hu 7 []))), [], []⟩ [.int .u64])
noncomputable def E219_2 (m : Nat) : List Prm → Kont Int → Option Int := eL k219_2 (W219_2 m)
theorem ev219_2 (m : Nat) (k : Kont Int) (a : Args k219_2) : evL Tryz.prog G219 loopNil c219_2 (turn Tryz.prog (0, 0) H219_2 (E219_2 m) k) (H219_2.sk.fl (encP k219_2 a)) = unc k219_2 (W219_2 (m + 1) k) a := by kernel_rfl
theorem ok219_2 (m : Nat) : LoopOk Tryz.prog (0, 0) c219_2 (enter Tryz.prog (0, 0) H219_2 (E219_2 m)) := loop_gen (Fl := W219_2) (G := G219) (L := loopNil) envNil_good (no_loops (c := c219_2) (by kernel_rfl)) (fun _ _ => by kernel_rfl) ev219_2 m
noncomputable def L219 : LEnv Int := (loopCons 2 (enter Tryz.prog (0, 0) H219_2 (E219_2 fu)) loopNil)
theorem lq219 : loopsOf c219 = [c219_2] := by kernel_rfl
theorem fr219_2 : firstReg c219_2 = some 2 := by kernel_rfl
theorem le219_2 : L219 2 = enter Tryz.prog (0, 0) H219_2 (E219_2 fu) := by kernel_rfl
theorem lm219 : ∀ x ∈ [c219_2], ∀ id, firstReg x = some id → LoopOk Tryz.prog (0, 0) x (L219 id) := (loops_cons fr219_2 le219_2 (ok219_2 fu) loops_nil)
theorem lp219 : ∀ x ∈ loopsOf c219, ∀ id, firstReg x = some id → LoopOk Tryz.prog (0, 0) x (L219 id) := loops_eq lq219 lm219
noncomputable def sg219 : Sg := ⟨⟨[hh], [], []⟩, [.int .i64], ⟨[hh], [], []⟩, [.int .u64]⟩
noncomputable def E219 : Fun2 := eOf sg219 S.l01Power
theorem ev219 (a : Args sg219.ks) : evS Tryz.prog G219 L219 (0, 0) [] Tryz.f219 c219 (kOf sg219) (sg219.sk.fl (encP sg219.ks a)) = unc sg219.ks S.l01Power a := by kernel_rfl
theorem good219 : Vm.Good Tryz.prog 219 E219 := good_gen (G := G219) (L := L219) (c := c219) (rn := []) (N := (0, 0)) envNil_good lp219 Tryz.func219 (by kernel_rfl) (by kernel_rfl) (fun _ => by kernel_rfl) ev219
noncomputable def G202 : Env := (envCons 167 [] E167 envNil)
noncomputable def c202 : Code := bodyOf Tryz.f202
noncomputable def S.l01Side (a1 a2 a3 : Int) (a4 : Bool) (a5 : List Int) : Option Bool :=
(bif a4 then
(bif decide ((0 : Int) ≤ a2 ∧ a2 < (a5.length : Int)) then
(Option.bind (S.l01Bit (nthI a5 a2 (0 : Int)) a3) fun r6 =>
(some r6))
else
none)
else
(bif decide ((0 : Int) ≤ a3 ∧ a3 < (a5.length : Int)) then
(Option.bind (S.l01Bit (nthI a5 a3 (0 : Int)) a2) fun r7 =>
(some r7))
else
none))
noncomputable def sg202 : Sg := ⟨⟨[.agg [.hole, .sl 0], hh, hh, hh], [], [(87, (.int .u64), .ro)]⟩, (ki 3 [.bool, .row (.int .u64)]), ⟨[hh], [], []⟩, [.bool]⟩
noncomputable def E202 : Fun2 := eOf sg202 S.l01Side
theorem ev202 (a : Args sg202.ks) : evS Tryz.prog G202 loopNil (0, 0) [] Tryz.f202 c202 (kOf sg202) (sg202.sk.fl (encP sg202.ks a)) = unc sg202.ks S.l01Side a := by kernel_rfl
theorem good202 : Vm.Good Tryz.prog 202 E202 := good_gen (G := G202) (L := loopNil) (c := c202) (rn := []) (N := (0, 0)) (envCons_good good167 envNil_good) (no_loops (c := c202) (by kernel_rfl)) Tryz.func202 (by kernel_rfl) (by kernel_rfl) (fun _ => by kernel_rfl) ev202
noncomputable def G122 : Env := (envCons 202 [] E202 envNil)
noncomputable def c122 : Code := bodyOf Tryz.f122
noncomputable def c122_2 : Code := (loopsOf c122).getD 0 .skip
noncomputable def c122_6 : Code := (loopsOf c122_2).getD 0 .skip
noncomputable def S.l01Bound_l1 : Nat → (Int → Int → Bool → Int → Bool → Int → List Int → Option Int) → Int → Int → Bool → Int → Bool → Int → Int → List Int → Option Int
  | 0, _, _, _, _, _, _, _, _, _ => none
  | m + 1, e6_0, a15, a16, a17, a18, a19, a20, a21, a22 =>
    (bif (decide (a20 < a21)) then
    (bif a19 then
    (Option.bind (S.l01Side a21 a15 a20 a17 a22) fun r24 =>
    (bif r24 then
    (Option.bind (S.l01Side a21 a16 a20 a17 a22) fun r25 =>
    (bif r25 then
    (Option.bind (S.l01Side a21 a18 a20 a17 a22) fun r26 =>
    (bif (!r26) then
    (S.l01Bound_l1 m e6_0 a15 a16 a17 a18 false (IntKind.wrap .i64 (a20 + 1)) a21 a22)
    else
    (S.l01Bound_l1 m e6_0 a15 a16 a17 a18 a19 (IntKind.wrap .i64 (a20 + 1)) a21 a22)))
    else
    (S.l01Bound_l1 m e6_0 a15 a16 a17 a18 a19 (IntKind.wrap .i64 (a20 + 1)) a21 a22)))
    else
    (S.l01Bound_l1 m e6_0 a15 a16 a17 a18 a19 (IntKind.wrap .i64 (a20 + 1)) a21 a22)))
    else
    (e6_0 a15 a16 a17 a18 a19 a21 a22))
    else
    (e6_0 a15 a16 a17 a18 a19 a21 a22))
noncomputable def S.l01Bound_l0 : Nat → (Int → Option Int) → (Option Int) → Int → Int → Bool → Int → Int → List Int → Option Int
  | 0, _, _, _, _, _, _, _, _ => none
  | m + 1, e2_0, e2_1, a6, a7, a8, a9, a10, a11 =>
    (bif (decide (a9 < a10)) then
    (Option.bind (S.l01Side a10 a6 a9 a8 a11) fun r13 =>
    (bif r13 then
    (Option.bind (S.l01Side a10 a7 a9 a8 a11) fun r14 =>
    (S.l01Bound_l1 fu (fun y31 y32 y33 y34 y35 y36 y37 =>
    (bif y35 then
    (e2_0 y34)
    else
    (S.l01Bound_l0 m e2_0 e2_1 y31 y32 y33 (IntKind.wrap .i64 (y34 + 1)) y36 y37))) a6 a7 a8 a9 r14 0 a10 a11))
    else
    (S.l01Bound_l1 fu (fun y39 y40 y41 y42 y43 y44 y45 =>
    (bif y43 then
    (e2_0 y42)
    else
    (S.l01Bound_l0 m e2_0 e2_1 y39 y40 y41 (IntKind.wrap .i64 (y42 + 1)) y44 y45))) a6 a7 a8 a9 false 0 a10 a11)))
    else
    e2_1)
noncomputable def S.l01Bound (a1 a2 a3 : Int) (a4 : Bool) (a5 : List Int) : Option Int :=
(S.l01Bound_l0 fu (fun y47 =>
(some y47)) (some (-1)) a2 a3 a4 0 a1 a5)
noncomputable def H122_6 : LoopH := ⟨⟨((.one (.unk)) :: hh :: hh :: hh :: (.one (.ptr 0 0)) :: (hu 4 (hh :: hh :: hh :: (hu 49 [])))), [(44, [.hole, .sl 0])], [(87, (.int .u64), .ro)]⟩, ([0] ++ rg 5 4 ++ rg 12 49), [], ([0, 5, 6, 7] ++ rg 11 50), [], []⟩
noncomputable def k122_6 : List PK := (ki 2 ((.bool) :: (.int .i64) :: (.bool) :: (ki 2 [.row (.int .u64)])))
noncomputable def W122_6 (m : Nat) (k : Kont Int) : Cur k122_6 (Option Int) := S.l01Bound_l1 m (exF k (.exit 2) ⟨((.one (.unk)) :: hh :: hh :: hh :: (.one (.ptr 0 0)) :: (hu 4 (hh :: hh :: (hu 50 [])))), [(44, [.hole, .sl 0])], [(87, (.int .u64), .ro)]⟩ (ki 2 [.bool, .int .i64, .bool, .int .i64, .row (.int .u64)]))
noncomputable def E122_6 (m : Nat) : List Prm → Kont Int → Option Int := eL k122_6 (W122_6 m)
theorem ev122_6 (m : Nat) (k : Kont Int) (a : Args k122_6) : evL Tryz.prog G122 loopNil c122_6 (turn Tryz.prog (0, 0) H122_6 (E122_6 m) k) (H122_6.sk.fl (encP k122_6 a)) = unc k122_6 (W122_6 (m + 1) k) a := by kernel_rfl
theorem ok122_6 (m : Nat) : LoopOk Tryz.prog (0, 0) c122_6 (enter Tryz.prog (0, 0) H122_6 (E122_6 m)) := loop_gen (Fl := W122_6) (G := G122) (L := loopNil) (envCons_good good202 envNil_good) (no_loops (c := c122_6) (by kernel_rfl)) (fun _ _ => by kernel_rfl) ev122_6 m
noncomputable def L122_2 : LEnv Int := (loopCons 6 (enter Tryz.prog (0, 0) H122_6 (E122_6 fu)) loopNil)
theorem lq122_2 : loopsOf c122_2 = [c122_6] := by kernel_rfl
theorem fr122_6 : firstReg c122_6 = some 6 := by kernel_rfl
theorem le122_6 : L122_2 6 = enter Tryz.prog (0, 0) H122_6 (E122_6 fu) := by kernel_rfl
theorem lm122_2 : ∀ x ∈ [c122_6], ∀ id, firstReg x = some id → LoopOk Tryz.prog (0, 0) x (L122_2 id) := (loops_cons fr122_6 le122_6 (ok122_6 fu) loops_nil)
theorem lp122_2 : ∀ x ∈ loopsOf c122_2, ∀ id, firstReg x = some id → LoopOk Tryz.prog (0, 0) x (L122_2 id) := loops_eq lq122_2 lm122_2
noncomputable def H122_2 : LoopH := ⟨⟨((.one (.unk)) :: hh :: hh :: hh :: (.one (.ptr 0 0)) :: (hu 4 (hh :: (hu 51 [])))), [(44, [.hole, .sl 0])], [(87, (.int .u64), .ro)]⟩, ([0] ++ rg 5 4 ++ rg 10 51), [], (rg 0 8 ++ rg 9 52), [], []⟩
noncomputable def k122_2 : List PK := (ki 2 ((.bool) :: (ki 2 [.row (.int .u64)])))
noncomputable def W122_2 (m : Nat) (k : Kont Int) : Cur k122_2 (Option Int) := S.l01Bound_l0 m (exF k .ret ⟨(hu 8 (hh :: (hu 52 []))), [], []⟩ [.int .i64]) (exF k (.exit 0) ⟨(hu 61 []), [], []⟩ [])
noncomputable def E122_2 (m : Nat) : List Prm → Kont Int → Option Int := eL k122_2 (W122_2 m)
theorem ev122_2 (m : Nat) (k : Kont Int) (a : Args k122_2) : evL Tryz.prog G122 L122_2 c122_2 (turn Tryz.prog (0, 0) H122_2 (E122_2 m) k) (H122_2.sk.fl (encP k122_2 a)) = unc k122_2 (W122_2 (m + 1) k) a := by kernel_rfl
theorem ok122_2 (m : Nat) : LoopOk Tryz.prog (0, 0) c122_2 (enter Tryz.prog (0, 0) H122_2 (E122_2 m)) := loop_gen (Fl := W122_2) (G := G122) (L := L122_2) (envCons_good good202 envNil_good) lp122_2 (fun _ _ => by kernel_rfl) ev122_2 m
noncomputable def L122 : LEnv Int := (loopCons 2 (enter Tryz.prog (0, 0) H122_2 (E122_2 fu)) loopNil)
theorem lq122 : loopsOf c122 = [c122_2] := by kernel_rfl
theorem fr122_2 : firstReg c122_2 = some 2 := by kernel_rfl
theorem le122_2 : L122 2 = enter Tryz.prog (0, 0) H122_2 (E122_2 fu) := by kernel_rfl
theorem lm122 : ∀ x ∈ [c122_2], ∀ id, firstReg x = some id → LoopOk Tryz.prog (0, 0) x (L122 id) := (loops_cons fr122_2 le122_2 (ok122_2 fu) loops_nil)
theorem lp122 : ∀ x ∈ loopsOf c122, ∀ id, firstReg x = some id → LoopOk Tryz.prog (0, 0) x (L122 id) := loops_eq lq122 lm122
noncomputable def sg122 : Sg := ⟨⟨[.agg [.hole, .sl 0], hh, hh, hh], [], [(87, (.int .u64), .ro)]⟩, (ki 3 [.bool, .row (.int .u64)]), ⟨[hh], [], []⟩, [.int .i64]⟩
noncomputable def E122 : Fun2 := eOf sg122 S.l01Bound
theorem ev122 (a : Args sg122.ks) : evS Tryz.prog G122 L122 (0, 0) [] Tryz.f122 c122 (kOf sg122) (sg122.sk.fl (encP sg122.ks a)) = unc sg122.ks S.l01Bound a := by kernel_rfl
theorem good122 : Vm.Good Tryz.prog 122 E122 := good_gen (G := G122) (L := L122) (c := c122) (rn := []) (N := (0, 0)) (envCons_good good202 envNil_good) lp122 Tryz.func122 (by kernel_rfl) (by kernel_rfl) (fun _ => by kernel_rfl) ev122
noncomputable def G138 : Env := (envCons 167 [] E167 (envCons 219 [] E219 (envCons 122 [] E122 envNil)))
noncomputable def c138 : Code := bodyOf Tryz.f138
noncomputable def c138_4 : Code := (loopsOf c138).getD 0 .skip
noncomputable def c138_9 : Code := (loopsOf c138_4).getD 0 .skip
noncomputable def c138_14 : Code := (loopsOf c138_9).getD 0 .skip
noncomputable def c138_19 : Code := (loopsOf c138).getD 1 .skip
noncomputable def c138_22 : Code := (loopsOf c138_19).getD 0 .skip
noncomputable def S.LatOk_l2 : Nat → (Bool → Int → Int → Int → List Int → Option Bool) → (Int → Int → Int → List Int → Option Bool) → Int → Int → Int → Int → List Int → Option Bool
  | 0, _, _, _, _, _, _, _ => none
  | m + 1, e14_0, e14_1, a20, a21, a22, a23, a24 =>
    (bif (decide (a22 < a23)) then
    (bif decide ((0 : Int) ≤ a20 ∧ a20 < (a24.length : Int)) then
    (Option.bind (S.l01Bit (nthI a24 a20 (0 : Int)) a21) fun r26 =>
    (bif r26 then
    (bif decide ((0 : Int) ≤ a21 ∧ a21 < (a24.length : Int)) then
    (Option.bind (S.l01Bit (nthI a24 a21 (0 : Int)) a22) fun r27 =>
    (bif r27 then
    (bif decide ((0 : Int) ≤ a20 ∧ a20 < (a24.length : Int)) then
    (Option.bind (S.l01Bit (nthI a24 a20 (0 : Int)) a22) fun r28 =>
    (bif (!r28) then
    (e14_0 false a20 a21 a23 a24)
    else
    (S.LatOk_l2 m e14_0 e14_1 a20 a21 (IntKind.wrap .i64 (a22 + 1)) a23 a24)))
    else
    none)
    else
    (S.LatOk_l2 m e14_0 e14_1 a20 a21 (IntKind.wrap .i64 (a22 + 1)) a23 a24)))
    else
    none)
    else
    (S.LatOk_l2 m e14_0 e14_1 a20 a21 (IntKind.wrap .i64 (a22 + 1)) a23 a24)))
    else
    none)
    else
    (e14_1 a20 a21 a23 a24))
noncomputable def S.LatOk_l1 : Nat → (Bool → Int → Int → List Int → Option Bool) → (Int → Int → List Int → Option Bool) → Int → Int → Int → List Int → Option Bool
  | 0, _, _, _, _, _, _ => none
  | m + 1, e9_0, e9_1, a13, a14, a15, a16 =>
    (bif (decide (a14 < a15)) then
    (bif (a13 != a14) then
    (bif decide ((0 : Int) ≤ a13 ∧ a13 < (a16.length : Int)) then
    (Option.bind (S.l01Bit (nthI a16 a13 (0 : Int)) a14) fun r18 =>
    (bif r18 then
    (bif decide ((0 : Int) ≤ a14 ∧ a14 < (a16.length : Int)) then
    (Option.bind (S.l01Bit (nthI a16 a14 (0 : Int)) a13) fun r19 =>
    (bif r19 then
    (e9_0 false a13 a15 a16)
    else
    (S.LatOk_l2 fu (fun y32 y33 y34 y35 y36 =>
    (e9_0 y32 y33 y35 y36)) (fun y37 y38 y39 y40 =>
    (S.LatOk_l1 m e9_0 e9_1 y37 (IntKind.wrap .i64 (y38 + 1)) y39 y40)) a13 a14 0 a15 a16)))
    else
    none)
    else
    (S.LatOk_l2 fu (fun y42 y43 y44 y45 y46 =>
    (e9_0 y42 y43 y45 y46)) (fun y47 y48 y49 y50 =>
    (S.LatOk_l1 m e9_0 e9_1 y47 (IntKind.wrap .i64 (y48 + 1)) y49 y50)) a13 a14 0 a15 a16)))
    else
    none)
    else
    (S.LatOk_l2 fu (fun y52 y53 y54 y55 y56 =>
    (e9_0 y52 y53 y55 y56)) (fun y57 y58 y59 y60 =>
    (S.LatOk_l1 m e9_0 e9_1 y57 (IntKind.wrap .i64 (y58 + 1)) y59 y60)) a13 a14 0 a15 a16))
    else
    (e9_1 a13 a15 a16))
noncomputable def S.LatOk_l0 : Nat → (Bool → Int → List Int → Option Bool) → (Int → List Int → Option Bool) → Int → Int → List Int → Option Bool
  | 0, _, _, _, _, _ => none
  | m + 1, e4_0, e4_1, a6, a7, a8 =>
    (bif (decide (a6 < a7)) then
    (bif decide ((0 : Int) ≤ a6 ∧ a6 < (a8.length : Int)) then
    (Option.bind (S.l01Bit (nthI a8 a6 (0 : Int)) a6) fun r10 =>
    (bif (!r10) then
    (e4_0 false a7 a8)
    else
    (bif decide ((0 : Int) ≤ a6 ∧ a6 < (a8.length : Int)) then
    (Option.bind (S.l01Power a7) fun r11 =>
    (bif (decide (r11 ≤ (nthI a8 a6 (0 : Int)))) then
    (e4_0 false a7 a8)
    else
    (S.LatOk_l1 fu (fun y62 y63 y64 y65 =>
    (e4_0 y62 y64 y65)) (fun y66 y67 y68 =>
    (S.LatOk_l0 m e4_0 e4_1 (IntKind.wrap .i64 (y66 + 1)) y67 y68)) a6 0 a7 a8)))
    else
    none)))
    else
    none)
    else
    (e4_1 a7 a8))
noncomputable def S.LatOk_l4 : Nat → (Bool → Int → Int → List Int → Option Bool) → (Int → Int → List Int → Option Bool) → Int → Int → Int → List Int → Option Bool
  | 0, _, _, _, _, _, _ => none
  | m + 1, e22_0, e22_1, a79, a80, a81, a82 =>
    (bif (decide (a80 < a79)) then
    (Option.bind (S.l01Bound a81 a79 a80 true a82) fun r84 =>
    (bif (decide (r84 < 0)) then
    (e22_0 false a79 a81 a82)
    else
    (Option.bind (S.l01Bound a81 a79 a80 false a82) fun r86 =>
    (bif (decide (r86 < 0)) then
    (e22_0 false a79 a81 a82)
    else
    (S.LatOk_l4 m e22_0 e22_1 a79 (IntKind.wrap .i64 (a80 + 1)) a81 a82)))))
    else
    (e22_1 a79 a81 a82))
noncomputable def S.LatOk_l3 : Nat → (Bool → Option Bool) → (Option Bool) → Int → Int → List Int → Option Bool
  | 0, _, _, _, _, _ => none
  | m + 1, e19_0, e19_1, a75, a76, a77 =>
    (bif (decide (a75 < a76)) then
    (S.LatOk_l4 fu (fun y89 y90 y91 y92 =>
    (e19_0 y89)) (fun y93 y94 y95 =>
    (S.LatOk_l3 m e19_0 e19_1 (IntKind.wrap .i64 (y93 + 1)) y94 y95)) a75 0 a76 a77)
    else
    e19_1)
noncomputable def S.LatOk (a1 : Int) (a2 : List Int) : Option Bool :=
(bif (decide (a1 < 1)) then
(some false)
else
(bif (decide (16 < a1)) then
(some false)
else
(bif ((a2.length : Int) != a1) then
(some false)
else
(S.LatOk_l0 fu (fun y70 y71 y72 =>
(some y70)) (fun y73 y74 =>
(S.LatOk_l3 fu (fun y97 =>
(some y97)) (some true) 0 y73 y74)) 0 a1 a2))))
noncomputable def H138_14 : LoopH := ⟨⟨((.one (.unk)) :: (.one (.ptr 0 0)) :: (.one (.unk)) :: hh :: hh :: hh :: (hu 125 [])), [(44, [.hole, .sl 0])], [(87, (.int .u64), .ro)]⟩, ([0, 2] ++ rg 6 125), [], ([0] ++ rg 5 126), [], []⟩
noncomputable def k138_14 : List PK := (ki 4 [.row (.int .u64)])
noncomputable def W138_14 (m : Nat) (k : Kont Bool) : Cur k138_14 (Option Bool) := S.LatOk_l2 m (exF k .ret ⟨((.one (.unk)) :: (.one (.ptr 0 0)) :: hh :: hh :: hh :: (hu 126 [])), [(44, [.hole, .sl 0])], [(87, (.int .u64), .ro)]⟩ ((.bool) :: (ki 3 [.row (.int .u64)]))) (exF k (.exit 4) ⟨((.one (.unk)) :: (.one (.ptr 0 0)) :: (.one (.unk)) :: hh :: hh :: (hu 126 [])), [(44, [.hole, .sl 0])], [(87, (.int .u64), .ro)]⟩ (ki 3 [.row (.int .u64)]))
noncomputable def E138_14 (m : Nat) : List Prm → Kont Bool → Option Bool := eL k138_14 (W138_14 m)
theorem ev138_14 (m : Nat) (k : Kont Bool) (a : Args k138_14) : evL Tryz.prog G138 loopNil c138_14 (turn Tryz.prog (0, 0) H138_14 (E138_14 m) k) (H138_14.sk.fl (encP k138_14 a)) = unc k138_14 (W138_14 (m + 1) k) a := by kernel_rfl
theorem ok138_14 (m : Nat) : LoopOk Tryz.prog (0, 0) c138_14 (enter Tryz.prog (0, 0) H138_14 (E138_14 m)) := loop_gen (Fl := W138_14) (G := G138) (L := loopNil) (envCons_good good167 (envCons_good good219 (envCons_good good122 envNil_good))) (no_loops (c := c138_14) (by kernel_rfl)) (fun _ _ => by kernel_rfl) ev138_14 m
noncomputable def L138_9 : LEnv Bool := (loopCons 14 (enter Tryz.prog (0, 0) H138_14 (E138_14 fu)) loopNil)
theorem lq138_9 : loopsOf c138_9 = [c138_14] := by kernel_rfl
theorem fr138_14 : firstReg c138_14 = some 14 := by kernel_rfl
theorem le138_14 : L138_9 14 = enter Tryz.prog (0, 0) H138_14 (E138_14 fu) := by kernel_rfl
theorem lm138_9 : ∀ x ∈ [c138_14], ∀ id, firstReg x = some id → LoopOk Tryz.prog (0, 0) x (L138_9 id) := (loops_cons fr138_14 le138_14 (ok138_14 fu) loops_nil)
theorem lp138_9 : ∀ x ∈ loopsOf c138_9, ∀ id, firstReg x = some id → LoopOk Tryz.prog (0, 0) x (L138_9 id) := loops_eq lq138_9 lm138_9
noncomputable def H138_9 : LoopH := ⟨⟨((.one (.unk)) :: (.one (.ptr 0 0)) :: (.one (.unk)) :: hh :: hh :: (hu 126 [])), [(44, [.hole, .sl 0])], [(87, (.int .u64), .ro)]⟩, ([0, 2] ++ rg 5 126), [], ([0] ++ rg 4 127), [], []⟩
noncomputable def k138_9 : List PK := (ki 3 [.row (.int .u64)])
noncomputable def W138_9 (m : Nat) (k : Kont Bool) : Cur k138_9 (Option Bool) := S.LatOk_l1 m (exF k .ret ⟨((.one (.unk)) :: (.one (.ptr 0 0)) :: hh :: hh :: (hu 127 [])), [(44, [.hole, .sl 0])], [(87, (.int .u64), .ro)]⟩ ((.bool) :: (ki 2 [.row (.int .u64)]))) (exF k (.exit 2) ⟨((.one (.unk)) :: (.one (.ptr 0 0)) :: (.one (.unk)) :: hh :: (hu 127 [])), [(44, [.hole, .sl 0])], [(87, (.int .u64), .ro)]⟩ (ki 2 [.row (.int .u64)]))
noncomputable def E138_9 (m : Nat) : List Prm → Kont Bool → Option Bool := eL k138_9 (W138_9 m)
theorem ev138_9 (m : Nat) (k : Kont Bool) (a : Args k138_9) : evL Tryz.prog G138 L138_9 c138_9 (turn Tryz.prog (0, 0) H138_9 (E138_9 m) k) (H138_9.sk.fl (encP k138_9 a)) = unc k138_9 (W138_9 (m + 1) k) a := by kernel_rfl
theorem ok138_9 (m : Nat) : LoopOk Tryz.prog (0, 0) c138_9 (enter Tryz.prog (0, 0) H138_9 (E138_9 m)) := loop_gen (Fl := W138_9) (G := G138) (L := L138_9) (envCons_good good167 (envCons_good good219 (envCons_good good122 envNil_good))) lp138_9 (fun _ _ => by kernel_rfl) ev138_9 m
noncomputable def L138_4 : LEnv Bool := (loopCons 9 (enter Tryz.prog (0, 0) H138_9 (E138_9 fu)) loopNil)
theorem lq138_4 : loopsOf c138_4 = [c138_9] := by kernel_rfl
theorem fr138_9 : firstReg c138_9 = some 9 := by kernel_rfl
theorem le138_9 : L138_4 9 = enter Tryz.prog (0, 0) H138_9 (E138_9 fu) := by kernel_rfl
theorem lm138_4 : ∀ x ∈ [c138_9], ∀ id, firstReg x = some id → LoopOk Tryz.prog (0, 0) x (L138_4 id) := (loops_cons fr138_9 le138_9 (ok138_9 fu) loops_nil)
theorem lp138_4 : ∀ x ∈ loopsOf c138_4, ∀ id, firstReg x = some id → LoopOk Tryz.prog (0, 0) x (L138_4 id) := loops_eq lq138_4 lm138_4
noncomputable def H138_4 : LoopH := ⟨⟨((.one (.unk)) :: (.one (.ptr 0 0)) :: (.one (.unk)) :: hh :: (hu 127 [])), [(44, [.hole, .sl 0])], [(87, (.int .u64), .ro)]⟩, ([0, 2] ++ rg 4 127), [], ([0] ++ rg 3 128), [], []⟩
noncomputable def k138_4 : List PK := (ki 2 [.row (.int .u64)])
noncomputable def W138_4 (m : Nat) (k : Kont Bool) : Cur k138_4 (Option Bool) := S.LatOk_l0 m (exF k .ret ⟨((.one (.unk)) :: (.one (.ptr 0 0)) :: hh :: (hu 128 [])), [(44, [.hole, .sl 0])], [(87, (.int .u64), .ro)]⟩ [.bool, .int .i64, .row (.int .u64)]) (exF k (.exit 0) ⟨((.one (.unk)) :: (.one (.ptr 0 0)) :: (hu 129 [])), [(44, [.hole, .sl 0])], [(87, (.int .u64), .ro)]⟩ [.int .i64, .row (.int .u64)])
noncomputable def E138_4 (m : Nat) : List Prm → Kont Bool → Option Bool := eL k138_4 (W138_4 m)
theorem ev138_4 (m : Nat) (k : Kont Bool) (a : Args k138_4) : evL Tryz.prog G138 L138_4 c138_4 (turn Tryz.prog (0, 0) H138_4 (E138_4 m) k) (H138_4.sk.fl (encP k138_4 a)) = unc k138_4 (W138_4 (m + 1) k) a := by kernel_rfl
theorem ok138_4 (m : Nat) : LoopOk Tryz.prog (0, 0) c138_4 (enter Tryz.prog (0, 0) H138_4 (E138_4 m)) := loop_gen (Fl := W138_4) (G := G138) (L := L138_4) (envCons_good good167 (envCons_good good219 (envCons_good good122 envNil_good))) lp138_4 (fun _ _ => by kernel_rfl) ev138_4 m
noncomputable def H138_22 : LoopH := ⟨⟨((.one (.unk)) :: (.one (.ptr 0 0)) :: (hu 4 (hh :: hh :: (hu 123 [])))), [(44, [.hole, .sl 0])], [(87, (.int .u64), .ro)]⟩, ([0] ++ rg 2 4 ++ rg 8 123), [], ([0, 3, 4, 5] ++ rg 7 124), [], []⟩
noncomputable def k138_22 : List PK := (ki 3 [.row (.int .u64)])
noncomputable def W138_22 (m : Nat) (k : Kont Bool) : Cur k138_22 (Option Bool) := S.LatOk_l4 m (exF k .ret ⟨((.one (.unk)) :: (.one (.ptr 0 0)) :: hh :: (hu 3 (hh :: (hu 124 [])))), [(44, [.hole, .sl 0])], [(87, (.int .u64), .ro)]⟩ ((.bool) :: (ki 2 [.row (.int .u64)]))) (exF k (.exit 8) ⟨((.one (.unk)) :: (.one (.ptr 0 0)) :: (hu 4 (hh :: (hu 124 [])))), [(44, [.hole, .sl 0])], [(87, (.int .u64), .ro)]⟩ (ki 2 [.row (.int .u64)]))
noncomputable def E138_22 (m : Nat) : List Prm → Kont Bool → Option Bool := eL k138_22 (W138_22 m)
theorem ev138_22 (m : Nat) (k : Kont Bool) (a : Args k138_22) : evL Tryz.prog G138 loopNil c138_22 (turn Tryz.prog (0, 0) H138_22 (E138_22 m) k) (H138_22.sk.fl (encP k138_22 a)) = unc k138_22 (W138_22 (m + 1) k) a := by kernel_rfl
theorem ok138_22 (m : Nat) : LoopOk Tryz.prog (0, 0) c138_22 (enter Tryz.prog (0, 0) H138_22 (E138_22 m)) := loop_gen (Fl := W138_22) (G := G138) (L := loopNil) (envCons_good good167 (envCons_good good219 (envCons_good good122 envNil_good))) (no_loops (c := c138_22) (by kernel_rfl)) (fun _ _ => by kernel_rfl) ev138_22 m
noncomputable def L138_19 : LEnv Bool := (loopCons 22 (enter Tryz.prog (0, 0) H138_22 (E138_22 fu)) loopNil)
theorem lq138_19 : loopsOf c138_19 = [c138_22] := by kernel_rfl
theorem fr138_22 : firstReg c138_22 = some 22 := by kernel_rfl
theorem le138_22 : L138_19 22 = enter Tryz.prog (0, 0) H138_22 (E138_22 fu) := by kernel_rfl
theorem lm138_19 : ∀ x ∈ [c138_22], ∀ id, firstReg x = some id → LoopOk Tryz.prog (0, 0) x (L138_19 id) := (loops_cons fr138_22 le138_22 (ok138_22 fu) loops_nil)
theorem lp138_19 : ∀ x ∈ loopsOf c138_19, ∀ id, firstReg x = some id → LoopOk Tryz.prog (0, 0) x (L138_19 id) := loops_eq lq138_19 lm138_19
noncomputable def H138_19 : LoopH := ⟨⟨((.one (.unk)) :: (.one (.ptr 0 0)) :: (hu 4 (hh :: (hu 124 [])))), [(44, [.hole, .sl 0])], [(87, (.int .u64), .ro)]⟩, ([0] ++ rg 2 4 ++ rg 7 124), [], ([0, 1] ++ rg 3 128), [], []⟩
noncomputable def k138_19 : List PK := (ki 2 [.row (.int .u64)])
noncomputable def W138_19 (m : Nat) (k : Kont Bool) : Cur k138_19 (Option Bool) := S.LatOk_l3 m (exF k .ret ⟨(hu 2 (hh :: (hu 128 []))), [], []⟩ [.bool]) (exF k (.exit 6) ⟨(hu 131 []), [], []⟩ [])
noncomputable def E138_19 (m : Nat) : List Prm → Kont Bool → Option Bool := eL k138_19 (W138_19 m)
theorem ev138_19 (m : Nat) (k : Kont Bool) (a : Args k138_19) : evL Tryz.prog G138 L138_19 c138_19 (turn Tryz.prog (0, 0) H138_19 (E138_19 m) k) (H138_19.sk.fl (encP k138_19 a)) = unc k138_19 (W138_19 (m + 1) k) a := by kernel_rfl
theorem ok138_19 (m : Nat) : LoopOk Tryz.prog (0, 0) c138_19 (enter Tryz.prog (0, 0) H138_19 (E138_19 m)) := loop_gen (Fl := W138_19) (G := G138) (L := L138_19) (envCons_good good167 (envCons_good good219 (envCons_good good122 envNil_good))) lp138_19 (fun _ _ => by kernel_rfl) ev138_19 m
noncomputable def L138 : LEnv Bool := (loopCons 4 (enter Tryz.prog (0, 0) H138_4 (E138_4 fu)) (loopCons 19 (enter Tryz.prog (0, 0) H138_19 (E138_19 fu)) loopNil))
theorem lq138 : loopsOf c138 = [c138_4, c138_19] := by kernel_rfl
theorem fr138_4 : firstReg c138_4 = some 4 := by kernel_rfl
theorem le138_4 : L138 4 = enter Tryz.prog (0, 0) H138_4 (E138_4 fu) := by kernel_rfl
theorem fr138_19 : firstReg c138_19 = some 19 := by kernel_rfl
theorem le138_19 : L138 19 = enter Tryz.prog (0, 0) H138_19 (E138_19 fu) := by kernel_rfl
theorem lm138 : ∀ x ∈ [c138_4, c138_19], ∀ id, firstReg x = some id → LoopOk Tryz.prog (0, 0) x (L138 id) := (loops_cons fr138_4 le138_4 (ok138_4 fu) (loops_cons fr138_19 le138_19 (ok138_19 fu) loops_nil))
theorem lp138 : ∀ x ∈ loopsOf c138, ∀ id, firstReg x = some id → LoopOk Tryz.prog (0, 0) x (L138 id) := loops_eq lq138 lm138
noncomputable def sg138 : Sg := ⟨⟨[.agg [.hole, .sl 0]], [], [(87, (.int .u64), .ro)]⟩, [.int .i64, .row (.int .u64)], ⟨[hh], [], []⟩, [.bool]⟩
noncomputable def E138 : Fun2 := eOf sg138 S.LatOk
theorem ev138 (a : Args sg138.ks) : evS Tryz.prog G138 L138 (0, 0) [] Tryz.f138 c138 (kOf sg138) (sg138.sk.fl (encP sg138.ks a)) = unc sg138.ks S.LatOk a := by kernel_rfl
theorem good138 : Vm.Good Tryz.prog 138 E138 := good_gen (G := G138) (L := L138) (c := c138) (rn := []) (N := (0, 0)) (envCons_good good167 (envCons_good good219 (envCons_good good122 envNil_good))) lp138 Tryz.func138 (by kernel_rfl) (by kernel_rfl) (fun _ => by kernel_rfl) ev138
noncomputable def G299 : Env := envNil
noncomputable def c299 : Code := bodyOf Tryz.f299
noncomputable def S.l03Takes (a1 : Int) : Option Int :=
(bif (decide (a1 ≤ 3)) then
(some 0)
else
(bif (a1 == 11) then
(some 1)
else
(some 2)))
noncomputable def sg299 : Sg := ⟨⟨[hh], [], []⟩, [.int .i64], ⟨[hh], [], []⟩, [.int .i64]⟩
noncomputable def E299 : Fun2 := eOf sg299 S.l03Takes
theorem ev299 (a : Args sg299.ks) : evS Tryz.prog G299 loopNil (0, 0) [] Tryz.f299 c299 (kOf sg299) (sg299.sk.fl (encP sg299.ks a)) = unc sg299.ks S.l03Takes a := by kernel_rfl
theorem good299 : Vm.Good Tryz.prog 299 E299 := good_gen (G := G299) (L := loopNil) (c := c299) (rn := []) (N := (0, 0)) envNil_good (no_loops (c := c299) (by kernel_rfl)) Tryz.func299 (by kernel_rfl) (by kernel_rfl) (fun _ => by kernel_rfl) ev299
noncomputable def G269 : Env := (envCons 299 [] E299 envNil)
noncomputable def c269 : Code := bodyOf Tryz.f269
noncomputable def c269_6 : Code := (loopsOf c269).getD 0 .skip
noncomputable def S.l03Depth_l0 : Nat → (Int → Int → Int → Option Int) → (Int → Int → Option Int) → Int → Int → Int → (List (Int × Int)) → Option Int
  | 0, _, _, _, _, _, _ => none
  | m + 1, e6_0, e6_1, a6, a7, a8, a9 =>
    (bif (decide (a8 < (a9.length : Int))) then
    (bif decide ((0 : Int) ≤ a8 ∧ a8 < (a9.length : Int)) then
    (bif (decide ((nthI a9 a8 df2).1 < 0)) then
    (e6_0 (-1) a6 a7)
    else
    (bif decide ((0 : Int) ≤ a8 ∧ a8 < (a9.length : Int)) then
    (bif (decide (11 < (nthI a9 a8 df2).1)) then
    (e6_0 (-1) a6 a7)
    else
    (bif decide ((0 : Int) ≤ a8 ∧ a8 < (a9.length : Int)) then
    (bif ((nthI a9 a8 df2).1 != 0) then
    (bif decide ((0 : Int) ≤ a8 ∧ a8 < (a9.length : Int)) then
    (bif ((nthI a9 a8 df2).2 != 0) then
    (e6_0 (-1) a6 a7)
    else
    (bif decide ((0 : Int) ≤ a8 ∧ a8 < (a9.length : Int)) then
    (Option.bind (S.l03Takes ((nthI a9 a8 df2).1)) fun r16 =>
    (bif (decide (a6 < r16)) then
    (e6_0 (-1) a6 a7)
    else
    (bif decide ((0 : Int) ≤ a8 ∧ a8 < (a9.length : Int)) then
    (Option.bind (S.l03Takes ((nthI a9 a8 df2).1)) fun r18 =>
    (let v20 : Int := (IntKind.wrap .i64 ((IntKind.wrap .i64 (a6 - r18)) + 1))
    (S.l03Depth_l0 m e6_0 e6_1 v20 (if v20 > a7 then v20 else a7) (IntKind.wrap .i64 (a8 + 1)) a9)))
    else
    none)))
    else
    none))
    else
    none)
    else
    (bif decide ((0 : Int) ≤ a8 ∧ a8 < (a9.length : Int)) then
    (Option.bind (S.l03Takes ((nthI a9 a8 df2).1)) fun r23 =>
    (bif (decide (a6 < r23)) then
    (e6_0 (-1) a6 a7)
    else
    (bif decide ((0 : Int) ≤ a8 ∧ a8 < (a9.length : Int)) then
    (Option.bind (S.l03Takes ((nthI a9 a8 df2).1)) fun r25 =>
    (let v27 : Int := (IntKind.wrap .i64 ((IntKind.wrap .i64 (a6 - r25)) + 1))
    (S.l03Depth_l0 m e6_0 e6_1 v27 (if v27 > a7 then v27 else a7) (IntKind.wrap .i64 (a8 + 1)) a9)))
    else
    none)))
    else
    none))
    else
    none))
    else
    none))
    else
    none)
    else
    (e6_1 a6 a7))
noncomputable def S.l03Depth (a1 : List (Int × Int)) : Option Int :=
(bif (decide ((a1.length : Int) < 1)) then
(some (-1))
else
(bif (decide (20 < (a1.length : Int))) then
(some (-1))
else
(S.l03Depth_l0 fu (fun y30 y31 y32 =>
(some y30)) (fun y33 y34 =>
(bif (y33 != 1) then
(some (-1))
else
(some y34))) 0 0 0 a1)))
noncomputable def H269_6 : LoopH := ⟨⟨((.one (.sl 0)) :: (hu 2 (hh :: hh :: hh :: (hu 69 [])))), [], [(255, sh1, .ro)]⟩, ([1, 2] ++ rg 6 69), [], ([0, 1] ++ rg 5 70), [], []⟩
noncomputable def k269_6 : List PK := (ki 3 [.row sh1])
noncomputable def W269_6 (m : Nat) (k : Kont Int) : Cur k269_6 (Option Int) := S.l03Depth_l0 m (exF k .ret ⟨(hu 2 (hh :: hh :: hh :: (hu 70 []))), [], []⟩ (ki 3 [])) (exF k (.exit 0) ⟨(hu 3 (hh :: hh :: (hu 70 []))), [], []⟩ (ki 2 []))
noncomputable def E269_6 (m : Nat) : List Prm → Kont Int → Option Int := eL k269_6 (W269_6 m)
theorem ev269_6 (m : Nat) (k : Kont Int) (a : Args k269_6) : evL Tryz.prog G269 loopNil c269_6 (turn Tryz.prog (0, 0) H269_6 (E269_6 m) k) (H269_6.sk.fl (encP k269_6 a)) = unc k269_6 (W269_6 (m + 1) k) a := by kernel_rfl
theorem ok269_6 (m : Nat) : LoopOk Tryz.prog (0, 0) c269_6 (enter Tryz.prog (0, 0) H269_6 (E269_6 m)) := loop_gen (Fl := W269_6) (G := G269) (L := loopNil) (envCons_good good299 envNil_good) (no_loops (c := c269_6) (by kernel_rfl)) (fun _ _ => by kernel_rfl) ev269_6 m
noncomputable def L269 : LEnv Int := (loopCons 6 (enter Tryz.prog (0, 0) H269_6 (E269_6 fu)) loopNil)
theorem lq269 : loopsOf c269 = [c269_6] := by kernel_rfl
theorem fr269_6 : firstReg c269_6 = some 6 := by kernel_rfl
theorem le269_6 : L269 6 = enter Tryz.prog (0, 0) H269_6 (E269_6 fu) := by kernel_rfl
theorem lm269 : ∀ x ∈ [c269_6], ∀ id, firstReg x = some id → LoopOk Tryz.prog (0, 0) x (L269 id) := (loops_cons fr269_6 le269_6 (ok269_6 fu) loops_nil)
theorem lp269 : ∀ x ∈ loopsOf c269, ∀ id, firstReg x = some id → LoopOk Tryz.prog (0, 0) x (L269 id) := loops_eq lq269 lm269
noncomputable def sg269 : Sg := ⟨⟨[.one (.sl 0)], [], [(255, sh1, .ro)]⟩, [.row sh1], ⟨[hh], [], []⟩, [.int .i64]⟩
noncomputable def E269 : Fun2 := eOf sg269 S.l03Depth
theorem ev269 (a : Args sg269.ks) : evS Tryz.prog G269 L269 (0, 0) [] Tryz.f269 c269 (kOf sg269) (sg269.sk.fl (encP sg269.ks a)) = unc sg269.ks S.l03Depth a := by kernel_rfl
theorem good269 : Vm.Good Tryz.prog 269 E269 := good_gen (G := G269) (L := L269) (c := c269) (rn := []) (N := (0, 0)) (envCons_good good299 envNil_good) lp269 Tryz.func269 (by kernel_rfl) (by kernel_rfl) (fun _ => by kernel_rfl) ev269
noncomputable def G220 : Env := (envCons 269 [] E269 envNil)
noncomputable def c220 : Code := bodyOf Tryz.f220
noncomputable def S.ExprOk (a1 : List (Int × Int)) : Option Bool :=
(Option.bind (S.l03Depth a1) fun r2 =>
(some (decide (0 ≤ r2))))
noncomputable def sg220 : Sg := ⟨⟨[.one (.sl 0)], [], [(255, sh1, .ro)]⟩, [.row sh1], ⟨[hh], [], []⟩, [.bool]⟩
noncomputable def E220 : Fun2 := eOf sg220 S.ExprOk
theorem ev220 (a : Args sg220.ks) : evS Tryz.prog G220 loopNil (0, 0) [] Tryz.f220 c220 (kOf sg220) (sg220.sk.fl (encP sg220.ks a)) = unc sg220.ks S.ExprOk a := by kernel_rfl
theorem good220 : Vm.Good Tryz.prog 220 E220 := good_gen (G := G220) (L := loopNil) (c := c220) (rn := []) (N := (0, 0)) (envCons_good good269 envNil_good) (no_loops (c := c220) (by kernel_rfl)) Tryz.func220 (by kernel_rfl) (by kernel_rfl) (fun _ => by kernel_rfl) ev220
noncomputable def G110 : Env := envNil
noncomputable def c110 : Code := bodyOf Tryz.f110
noncomputable def S.WinOk (a1 a2 a3 : Int) : Option Bool :=
(bif (decide (a1 < 1)) then
(some false)
else
(bif (decide (3 < a1)) then
(some false)
else
(bif (decide (a2 < 1)) then
(some false)
else
(bif (decide (100 < a2)) then
(some false)
else
(bif (a1 != 2) then
(some (a3 == 0))
else
(bif (decide (1 ≤ a3)) then
(bif (decide (a3 ≤ a2)) then
(some (decide (a2 ≤ (IntKind.wrap .i64 (8 * a3)))))
else
(some false))
else
(some false)))))))
noncomputable def sg110 : Sg := ⟨⟨[.agg (ho 3 [])], [], []⟩, (ki 3 []), ⟨[hh], [], []⟩, [.bool]⟩
noncomputable def E110 : Fun2 := eOf sg110 S.WinOk
theorem ev110 (a : Args sg110.ks) : evS Tryz.prog G110 loopNil (0, 0) [] Tryz.f110 c110 (kOf sg110) (sg110.sk.fl (encP sg110.ks a)) = unc sg110.ks S.WinOk a := by kernel_rfl
theorem good110 : Vm.Good Tryz.prog 110 E110 := good_gen (G := G110) (L := loopNil) (c := c110) (rn := []) (N := (0, 0)) envNil_good (no_loops (c := c110) (by kernel_rfl)) Tryz.func110 (by kernel_rfl) (by kernel_rfl) (fun _ => by kernel_rfl) ev110
noncomputable def G221 : Env := envNil
noncomputable def c221 : Code := bodyOf Tryz.f221
noncomputable def S.AggKind (a1 a2 : Int) : Option Bool :=
(bif (a1 == 6) then
(bif (decide (1 ≤ a2)) then
(some (decide (a2 ≤ 4)))
else
(some false))
else
(bif (decide (1 ≤ a1)) then
(bif (decide (a1 < 6)) then
(some (a2 == 0))
else
(some false))
else
(some false)))
noncomputable def sg221 : Sg := ⟨⟨[hh, hh], [], []⟩, (ki 2 []), ⟨[hh], [], []⟩, [.bool]⟩
noncomputable def E221 : Fun2 := eOf sg221 S.AggKind
theorem ev221 (a : Args sg221.ks) : evS Tryz.prog G221 loopNil (0, 0) [] Tryz.f221 c221 (kOf sg221) (sg221.sk.fl (encP sg221.ks a)) = unc sg221.ks S.AggKind a := by kernel_rfl
theorem good221 : Vm.Good Tryz.prog 221 E221 := good_gen (G := G221) (L := loopNil) (c := c221) (rn := []) (N := (0, 0)) envNil_good (no_loops (c := c221) (by kernel_rfl)) Tryz.func221 (by kernel_rfl) (by kernel_rfl) (fun _ => by kernel_rfl) ev221
noncomputable def G139 : Env := (envCons 220 [] E220 (envCons 110 [] E110 (envCons 221 [] E221 envNil)))
noncomputable def c139 : Code := bodyOf Tryz.f139
noncomputable def S.QueryOk (a1 a2 a3 a4 a5 : Int) (a6 a7 : List (Int × Int)) : Option Bool :=
(Option.bind (S.ExprOk a6) fun r8 =>
(bif r8 then
(Option.bind (S.ExprOk a7) fun r9 =>
(bif r9 then
(Option.bind (S.WinOk a1 a2 a3) fun r10 =>
(bif r10 then
(Option.bind (S.AggKind a4 a5) fun r11 =>
(some r11))
else
(some false)))
else
(some false)))
else
(some false)))
noncomputable def sg139 : Sg := ⟨⟨[.agg ((.sl 0) :: (.sl 1) :: (ho 5 []))], [], [(255, sh1, .ro), (255, sh1, .ro)]⟩, (ki 5 [.row sh1, .row sh1]), ⟨[hh], [], []⟩, [.bool]⟩
noncomputable def E139 : Fun2 := eOf sg139 S.QueryOk
theorem ev139 (a : Args sg139.ks) : evS Tryz.prog G139 loopNil (0, 0) [] Tryz.f139 c139 (kOf sg139) (sg139.sk.fl (encP sg139.ks a)) = unc sg139.ks S.QueryOk a := by kernel_rfl
theorem good139 : Vm.Good Tryz.prog 139 E139 := good_gen (G := G139) (L := loopNil) (c := c139) (rn := []) (N := (0, 0)) (envCons_good good220 (envCons_good good110 (envCons_good good221 envNil_good))) (no_loops (c := c139) (by kernel_rfl)) Tryz.func139 (by kernel_rfl) (by kernel_rfl) (fun _ => by kernel_rfl) ev139
noncomputable def G85 : Env := envNil
noncomputable def c85 : Code := bodyOf Tryz.f85
noncomputable def S.l01Here (a1 a2 : Int) (a3 : List Int) : Option Bool :=
(bif (decide (0 ≤ a2)) then
(some (decide (a2 < a1)))
else
(some false))
noncomputable def sg85 : Sg := ⟨⟨[.agg [.hole, .sl 0], hh], [], [(87, (.int .u64), .ro)]⟩, (ki 2 [.row (.int .u64)]), ⟨[hh], [], []⟩, [.bool]⟩
noncomputable def E85 : Fun2 := eOf sg85 S.l01Here
theorem ev85 (a : Args sg85.ks) : evS Tryz.prog G85 loopNil (0, 0) [] Tryz.f85 c85 (kOf sg85) (sg85.sk.fl (encP sg85.ks a)) = unc sg85.ks S.l01Here a := by kernel_rfl
theorem good85 : Vm.Good Tryz.prog 85 E85 := good_gen (G := G85) (L := loopNil) (c := c85) (rn := []) (N := (0, 0)) envNil_good (no_loops (c := c85) (by kernel_rfl)) Tryz.func85 (by kernel_rfl) (by kernel_rfl) (fun _ => by kernel_rfl) ev85
noncomputable def G140 : Env := envNil
noncomputable def c140 : Code := bodyOf Tryz.f140
noncomputable def S.l10Cap (a1 : Int) : Option Bool :=
(bif (decide (1 ≤ a1)) then
(some (decide (a1 ≤ 50)))
else
(some false))
noncomputable def sg140 : Sg := ⟨⟨[hh], [], []⟩, [.int .i64], ⟨[hh], [], []⟩, [.bool]⟩
noncomputable def E140 : Fun2 := eOf sg140 S.l10Cap
theorem ev140 (a : Args sg140.ks) : evS Tryz.prog G140 loopNil (0, 0) [] Tryz.f140 c140 (kOf sg140) (sg140.sk.fl (encP sg140.ks a)) = unc sg140.ks S.l10Cap a := by kernel_rfl
theorem good140 : Vm.Good Tryz.prog 140 E140 := good_gen (G := G140) (L := loopNil) (c := c140) (rn := []) (N := (0, 0)) envNil_good (no_loops (c := c140) (by kernel_rfl)) Tryz.func140 (by kernel_rfl) (by kernel_rfl) (fun _ => by kernel_rfl) ev140
noncomputable def G100 : Env := envNil
noncomputable def c100 : Code := bodyOf Tryz.f100
noncomputable def S.l11Query (a1 a2 a3 a4 : Int) (a5 : List Int) (a6 : List ty6) (a7 : List (Int × Int × Int)) (a8 : List ty10) : Option Bool :=
(bif (decide (0 ≤ a1)) then
(some (decide (a1 < (a6.length : Int))))
else
(some false))
noncomputable def sg100 : Sg := ⟨⟨[hh, .agg ((.hole) :: (.sl 0) :: (ho 2 [.sl 1, .sl 2, .sl 3]))], [], [(87, (.int .u64), .ro), (190, sh5, .ro), (126, sh3, .ro), (159, sh4, .ro)]⟩, (ki 4 [.row (.int .u64), .row sh5, .row sh3, .row sh4]), ⟨[hh], [], []⟩, [.bool]⟩
noncomputable def E100 : Fun2 := eOf sg100 S.l11Query
theorem ev100 (a : Args sg100.ks) : evS Tryz.prog G100 loopNil (0, 0) [] Tryz.f100 c100 (kOf sg100) (sg100.sk.fl (encP sg100.ks a)) = unc sg100.ks S.l11Query a := by kernel_rfl
theorem good100 : Vm.Good Tryz.prog 100 E100 := good_gen (G := G100) (L := loopNil) (c := c100) (rn := []) (N := (0, 0)) envNil_good (no_loops (c := c100) (by kernel_rfl)) Tryz.func100 (by kernel_rfl) (by kernel_rfl) (fun _ => by kernel_rfl) ev100
noncomputable def G58 : Env := (envCons 138 [] E138 (envCons 139 [] E139 (envCons 85 [] E85 (envCons 140 [] E140 (envCons 100 [] E100 envNil)))))
noncomputable def c58 : Code := bodyOf Tryz.f58
noncomputable def c58_6 : Code := (loopsOf c58).getD 0 .skip
noncomputable def c58_11 : Code := (loopsOf c58).getD 1 .skip
noncomputable def c58_17 : Code := (loopsOf c58).getD 2 .skip
noncomputable def S.ConfOk_l0 : Nat → (Bool → Int → Int → Int → List Int → (List ty6) → (List (Int × Int × Int)) → (List ty10) → Option Bool) → (Int → Int → Int → List Int → (List ty6) → (List (Int × Int × Int)) → (List ty10) → Option Bool) → Int → Int → Int → Int → List Int → (List ty6) → (List (Int × Int × Int)) → (List ty10) → Option Bool
  | 0, _, _, _, _, _, _, _, _, _, _ => none
  | m + 1, e6_0, e6_1, a23, a24, a25, a26, a27, a28, a29, a30 =>
    (bif (decide (a23 < (a28.length : Int))) then
    (bif decide ((0 : Int) ≤ a23 ∧ a23 < (a28.length : Int)) then
    (Option.bind (S.QueryOk ((nthI a28 a23 ([], ([], (df1, df2)))).2.2.1.1) ((nthI a28 a23 ([], ([], (df1, df2)))).2.2.1.2.1) ((nthI a28 a23 ([], ([], (df1, df2)))).2.2.1.2.2) ((nthI a28 a23 ([], ([], (df1, df2)))).2.2.2.1) ((nthI a28 a23 ([], ([], (df1, df2)))).2.2.2.2) ((nthI a28 a23 ([], ([], (df1, df2)))).1) ((nthI a28 a23 ([], ([], (df1, df2)))).2.1)) fun r33 =>
    (bif (!r33) then
    (e6_0 false a24 a25 a26 a27 a28 a29 a30)
    else
    (S.ConfOk_l0 m e6_0 e6_1 (IntKind.wrap .i64 (a23 + 1)) a24 a25 a26 a27 a28 a29 a30)))
    else
    none)
    else
    (e6_1 a24 a25 a26 a27 a28 a29 a30))
noncomputable def S.ConfOk_l1 : Nat → (Bool → Int → Int → Int → List Int → (List ty6) → (List (Int × Int × Int)) → (List ty10) → Option Bool) → (Int → Int → Int → List Int → (List ty6) → (List (Int × Int × Int)) → (List ty10) → Option Bool) → Int → Int → Int → Int → List Int → (List ty6) → (List (Int × Int × Int)) → (List ty10) → Option Bool
  | 0, _, _, _, _, _, _, _, _, _, _ => none
  | m + 1, e11_0, e11_1, a50, a51, a52, a53, a54, a55, a56, a57 =>
    (bif (decide (a50 < (a56.length : Int))) then
    (bif decide ((0 : Int) ≤ a50 ∧ a50 < (a56.length : Int)) then
    (Option.bind (S.l01Here a51 ((nthI a56 a50 df1).1) a54) fun r60 =>
    (bif (!r60) then
    (e11_0 false a51 a52 a53 a54 a55 a56 a57)
    else
    (Option.bind (S.l10Cap ((nthI a56 a50 df1).2.1)) fun r61 =>
    (bif (!r61) then
    (e11_0 false a51 a52 a53 a54 a55 a56 a57)
    else
    (Option.bind (S.l10Cap ((nthI a56 a50 df1).2.2)) fun r62 =>
    (bif (!r62) then
    (e11_0 false a51 a52 a53 a54 a55 a56 a57)
    else
    (S.ConfOk_l1 m e11_0 e11_1 (IntKind.wrap .i64 (a50 + 1)) a51 a52 a53 a54 a55 a56 a57)))))))
    else
    none)
    else
    (e11_1 a51 a52 a53 a54 a55 a56 a57))
noncomputable def S.ConfOk_l2 : Nat → (Bool → Option Bool) → (Option Bool) → Int → Int → Int → Int → List Int → (List ty6) → (List (Int × Int × Int)) → (List ty10) → Option Bool
  | 0, _, _, _, _, _, _, _, _, _, _ => none
  | m + 1, e17_0, e17_1, a79, a80, a81, a82, a83, a84, a85, a86 =>
    (bif (decide (a79 < (a86.length : Int))) then
    (bif decide ((0 : Int) ≤ a79 ∧ a79 < (a86.length : Int)) then
    (Option.bind (S.l11Query ((nthI a86 a79 df3).1) a80 a81 a82 a83 a84 a85 a86) fun r89 =>
    (bif (!r89) then
    (e17_0 false)
    else
    (Option.bind (S.l01Here a80 ((nthI a86 a79 df3).2.1) a83) fun r90 =>
    (bif (!r90) then
    (e17_0 false)
    else
    (Option.bind (S.l01Here a80 ((nthI a86 a79 df3).2.2.1) a83) fun r91 =>
    (bif (!r91) then
    (e17_0 false)
    else
    (let v92 : Bool := (decide ((nthI a86 a79 df3).2.2.2.1 < 1))
    (bif v92 then
    (e17_0 false)
    else
    (let v93 : Bool := (decide (1000000 < (nthI a86 a79 df3).2.2.2.1))
    (bif v93 then
    (e17_0 false)
    else
    (let v94 : Bool := (decide ((nthI a86 a79 df3).2.2.2.2 < 0))
    (bif v94 then
    (e17_0 false)
    else
    (let v95 : Bool := (decide (20 < (nthI a86 a79 df3).2.2.2.2))
    (bif v95 then
    (e17_0 false)
    else
    (S.ConfOk_l2 m e17_0 e17_1 (IntKind.wrap .i64 (a79 + 1)) a80 a81 a82 a83 a84 a85 a86)))))))))))))))
    else
    none)
    else
    e17_1)
noncomputable def S.ConfOk (a1 a2 a3 : Int) (a4 : List Int) (a5 : List ty6) (a6 : List (Int × Int × Int)) (a7 : List ty10) : Option Bool :=
(Option.bind (S.LatOk a1 a4) fun r8 =>
(bif (!r8) then
(some false)
else
(bif (decide (a2 < 1)) then
(some false)
else
(bif (decide (4 < a2)) then
(some false)
else
(bif (decide (a3 < 1)) then
(some false)
else
(bif (decide (30 < a3)) then
(some false)
else
(bif (decide ((a5.length : Int) < 1)) then
(some false)
else
(bif (decide (4 < (a5.length : Int))) then
(some false)
else
(bif (decide ((a6.length : Int) < 1)) then
(some false)
else
(bif (decide (4 < (a6.length : Int))) then
(some false)
else
(bif (decide (3 < (a7.length : Int))) then
(some false)
else
(S.ConfOk_l0 fu (fun y35 y36 y37 y38 y39 y40 y41 y42 =>
(some y35)) (fun y43 y44 y45 y46 y47 y48 y49 =>
(S.ConfOk_l1 fu (fun y64 y65 y66 y67 y68 y69 y70 y71 =>
(some y64)) (fun y72 y73 y74 y75 y76 y77 y78 =>
(S.ConfOk_l2 fu (fun y97 =>
(some y97)) (some true) 0 y72 y73 y74 y75 y76 y77 y78)) 0 y43 y44 y45 y46 y47 y48 y49)) 0 a1 a2 a3 a4 a5 a6 a7))))))))))))
noncomputable def H58_6 : LoopH := ⟨⟨((.one (.unk)) :: (.one (.ptr 0 0)) :: (.one (.unk)) :: hh :: (hu 153 [])), [(49, ((.hole) :: (.sl 0) :: (ho 2 [.sl 1, .sl 2, .sl 3])))], [(87, (.int .u64), .ro), (190, sh5, .ro), (126, sh3, .ro), (159, sh4, .ro)]⟩, ([0, 2] ++ rg 4 153), [], ([0] ++ rg 3 154), [], []⟩
noncomputable def k58_6 : List PK := (ki 4 [.row (.int .u64), .row sh5, .row sh3, .row sh4])
noncomputable def W58_6 (m : Nat) (k : Kont Bool) : Cur k58_6 (Option Bool) := S.ConfOk_l0 m (exF k .ret ⟨((.one (.unk)) :: (.one (.ptr 0 0)) :: hh :: (hu 154 [])), [(49, ((.hole) :: (.sl 0) :: (ho 2 [.sl 1, .sl 2, .sl 3])))], [(87, (.int .u64), .ro), (190, sh5, .ro), (126, sh3, .ro), (159, sh4, .ro)]⟩ ((.bool) :: (ki 3 [.row (.int .u64), .row sh5, .row sh3, .row sh4]))) (exF k (.exit 0) ⟨((.one (.unk)) :: (.one (.ptr 0 0)) :: (hu 155 [])), [(49, ((.hole) :: (.sl 0) :: (ho 2 [.sl 1, .sl 2, .sl 3])))], [(87, (.int .u64), .ro), (190, sh5, .ro), (126, sh3, .ro), (159, sh4, .ro)]⟩ (ki 3 [.row (.int .u64), .row sh5, .row sh3, .row sh4]))
noncomputable def E58_6 (m : Nat) : List Prm → Kont Bool → Option Bool := eL k58_6 (W58_6 m)
theorem ev58_6 (m : Nat) (k : Kont Bool) (a : Args k58_6) : evL Tryz.prog G58 loopNil c58_6 (turn Tryz.prog (0, 0) H58_6 (E58_6 m) k) (H58_6.sk.fl (encP k58_6 a)) = unc k58_6 (W58_6 (m + 1) k) a := by kernel_rfl
theorem ok58_6 (m : Nat) : LoopOk Tryz.prog (0, 0) c58_6 (enter Tryz.prog (0, 0) H58_6 (E58_6 m)) := loop_gen (Fl := W58_6) (G := G58) (L := loopNil) (envCons_good good138 (envCons_good good139 (envCons_good good85 (envCons_good good140 (envCons_good good100 envNil_good))))) (no_loops (c := c58_6) (by kernel_rfl)) (fun _ _ => by kernel_rfl) ev58_6 m
noncomputable def H58_11 : LoopH := ⟨⟨((.one (.unk)) :: (.one (.ptr 0 0)) :: (hu 2 (hh :: (hu 152 [])))), [(49, ((.hole) :: (.sl 0) :: (ho 2 [.sl 1, .sl 2, .sl 3])))], [(87, (.int .u64), .ro), (190, sh5, .ro), (126, sh3, .ro), (159, sh4, .ro)]⟩, ([0, 2, 3] ++ rg 5 152), [], ([0] ++ rg 3 154), [], []⟩
noncomputable def k58_11 : List PK := (ki 4 [.row (.int .u64), .row sh5, .row sh3, .row sh4])
noncomputable def W58_11 (m : Nat) (k : Kont Bool) : Cur k58_11 (Option Bool) := S.ConfOk_l1 m (exF k .ret ⟨((.one (.unk)) :: (.one (.ptr 0 0)) :: hh :: (hu 154 [])), [(49, ((.hole) :: (.sl 0) :: (ho 2 [.sl 1, .sl 2, .sl 3])))], [(87, (.int .u64), .ro), (190, sh5, .ro), (126, sh3, .ro), (159, sh4, .ro)]⟩ ((.bool) :: (ki 3 [.row (.int .u64), .row sh5, .row sh3, .row sh4]))) (exF k (.exit 2) ⟨((.one (.unk)) :: (.one (.ptr 0 0)) :: (hu 155 [])), [(49, ((.hole) :: (.sl 0) :: (ho 2 [.sl 1, .sl 2, .sl 3])))], [(87, (.int .u64), .ro), (190, sh5, .ro), (126, sh3, .ro), (159, sh4, .ro)]⟩ (ki 3 [.row (.int .u64), .row sh5, .row sh3, .row sh4]))
noncomputable def E58_11 (m : Nat) : List Prm → Kont Bool → Option Bool := eL k58_11 (W58_11 m)
theorem ev58_11 (m : Nat) (k : Kont Bool) (a : Args k58_11) : evL Tryz.prog G58 loopNil c58_11 (turn Tryz.prog (0, 0) H58_11 (E58_11 m) k) (H58_11.sk.fl (encP k58_11 a)) = unc k58_11 (W58_11 (m + 1) k) a := by kernel_rfl
theorem ok58_11 (m : Nat) : LoopOk Tryz.prog (0, 0) c58_11 (enter Tryz.prog (0, 0) H58_11 (E58_11 m)) := loop_gen (Fl := W58_11) (G := G58) (L := loopNil) (envCons_good good138 (envCons_good good139 (envCons_good good85 (envCons_good good140 (envCons_good good100 envNil_good))))) (no_loops (c := c58_11) (by kernel_rfl)) (fun _ _ => by kernel_rfl) ev58_11 m
noncomputable def H58_17 : LoopH := ⟨⟨((.one (.unk)) :: (.one (.ptr 0 0)) :: (hu 4 (hh :: (hu 150 [])))), [(49, ((.hole) :: (.sl 0) :: (ho 2 [.sl 1, .sl 2, .sl 3])))], [(87, (.int .u64), .ro), (190, sh5, .ro), (126, sh3, .ro), (159, sh4, .ro)]⟩, ([0] ++ rg 2 4 ++ rg 7 150), [], ([0, 1] ++ rg 3 154), [], []⟩
noncomputable def k58_17 : List PK := (ki 4 [.row (.int .u64), .row sh5, .row sh3, .row sh4])
noncomputable def W58_17 (m : Nat) (k : Kont Bool) : Cur k58_17 (Option Bool) := S.ConfOk_l2 m (exF k .ret ⟨(hu 2 (hh :: (hu 154 []))), [], []⟩ [.bool]) (exF k (.exit 4) ⟨(hu 157 []), [], []⟩ [])
noncomputable def E58_17 (m : Nat) : List Prm → Kont Bool → Option Bool := eL k58_17 (W58_17 m)
theorem ev58_17 (m : Nat) (k : Kont Bool) (a : Args k58_17) : evL Tryz.prog G58 loopNil c58_17 (turn Tryz.prog (0, 0) H58_17 (E58_17 m) k) (H58_17.sk.fl (encP k58_17 a)) = unc k58_17 (W58_17 (m + 1) k) a := by kernel_rfl
theorem ok58_17 (m : Nat) : LoopOk Tryz.prog (0, 0) c58_17 (enter Tryz.prog (0, 0) H58_17 (E58_17 m)) := loop_gen (Fl := W58_17) (G := G58) (L := loopNil) (envCons_good good138 (envCons_good good139 (envCons_good good85 (envCons_good good140 (envCons_good good100 envNil_good))))) (no_loops (c := c58_17) (by kernel_rfl)) (fun _ _ => by kernel_rfl) ev58_17 m
noncomputable def L58 : LEnv Bool := (loopCons 6 (enter Tryz.prog (0, 0) H58_6 (E58_6 fu)) (loopCons 11 (enter Tryz.prog (0, 0) H58_11 (E58_11 fu)) (loopCons 17 (enter Tryz.prog (0, 0) H58_17 (E58_17 fu)) loopNil)))
theorem lq58 : loopsOf c58 = [c58_6, c58_11, c58_17] := by kernel_rfl
theorem fr58_6 : firstReg c58_6 = some 6 := by kernel_rfl
theorem le58_6 : L58 6 = enter Tryz.prog (0, 0) H58_6 (E58_6 fu) := by kernel_rfl
theorem fr58_11 : firstReg c58_11 = some 11 := by kernel_rfl
theorem le58_11 : L58 11 = enter Tryz.prog (0, 0) H58_11 (E58_11 fu) := by kernel_rfl
theorem fr58_17 : firstReg c58_17 = some 17 := by kernel_rfl
theorem le58_17 : L58 17 = enter Tryz.prog (0, 0) H58_17 (E58_17 fu) := by kernel_rfl
theorem lm58 : ∀ x ∈ [c58_6, c58_11, c58_17], ∀ id, firstReg x = some id → LoopOk Tryz.prog (0, 0) x (L58 id) := (loops_cons fr58_6 le58_6 (ok58_6 fu) (loops_cons fr58_11 le58_11 (ok58_11 fu) (loops_cons fr58_17 le58_17 (ok58_17 fu) loops_nil)))
theorem lp58 : ∀ x ∈ loopsOf c58, ∀ id, firstReg x = some id → LoopOk Tryz.prog (0, 0) x (L58 id) := loops_eq lq58 lm58
noncomputable def sg58 : Sg := ⟨⟨[.agg ((.hole) :: (.sl 0) :: (ho 2 [.sl 1, .sl 2, .sl 3]))], [], [(87, (.int .u64), .ro), (190, sh5, .ro), (126, sh3, .ro), (159, sh4, .ro)]⟩, (ki 3 [.row (.int .u64), .row sh5, .row sh3, .row sh4]), ⟨[hh], [], []⟩, [.bool]⟩
noncomputable def E58 : Fun2 := eOf sg58 S.ConfOk
theorem ev58 (a : Args sg58.ks) : evS Tryz.prog G58 L58 (0, 0) [] Tryz.f58 c58 (kOf sg58) (sg58.sk.fl (encP sg58.ks a)) = unc sg58.ks S.ConfOk a := by kernel_rfl
theorem good58 : Vm.Good Tryz.prog 58 E58 := good_gen (G := G58) (L := L58) (c := c58) (rn := []) (N := (0, 0)) (envCons_good good138 (envCons_good good139 (envCons_good good85 (envCons_good good140 (envCons_good good100 envNil_good))))) lp58 Tryz.func58 (by kernel_rfl) (by kernel_rfl) (fun _ => by kernel_rfl) ev58
noncomputable def G141 : Env := envNil
noncomputable def c141 : Code := bodyOf Tryz.f141
noncomputable def S.l11Toks (a1 : List (Int × Int)) : Option ((List (Int × Int))) :=
(bif decide ((([] : List (Int × Int)).length + a1.length) * 16 ≤ 140737488355328) then
(some (([] : List (Int × Int)) ++ a1))
else
none)
noncomputable def sg141 : Sg := ⟨⟨[.one (.sl 0)], [], [(255, sh1, .ro)]⟩, [.row sh1], ⟨[.one (.sl 0)], [], [(255, sh1, .own)]⟩, [.row sh1]⟩
noncomputable def E141 : Fun2 := eOf sg141 S.l11Toks
theorem ev141 (a : Args sg141.ks) : evS Tryz.prog G141 loopNil (0, 0) [] Tryz.f141 c141 (kOf sg141) (sg141.sk.fl (encP sg141.ks a)) = unc sg141.ks S.l11Toks a := by kernel_rfl
theorem good141 : Vm.Good Tryz.prog 141 E141 := good_gen (G := G141) (L := loopNil) (c := c141) (rn := []) (N := (0, 0)) envNil_good (no_loops (c := c141) (by kernel_rfl)) Tryz.func141 (by kernel_rfl) (by kernel_rfl) (fun _ => by kernel_rfl) ev141
noncomputable def G59 : Env := (envCons 141 [] E141 envNil)
noncomputable def c59 : Code := bodyOf Tryz.f59
noncomputable def c59_5 : Code := (loopsOf c59).getD 0 .skip
noncomputable def S.l11Conf_l0 : Nat → (Int → Int → Int → Int → Int → Int → Int → Int → Int → List Int → (List ty6) → (List (Int × Int × Int)) → (List ty10) → List Int → (List ty6) → Option (Int × Int × Int × List Int × (List ty6) × (List (Int × Int × Int)) × (List ty10))) → Int → Int → Int → Int → Int → Int → Int → Int → Int → Int → List Int → (List ty6) → (List (Int × Int × Int)) → (List ty10) → List Int → (List ty6) → Option (Int × Int × Int × List Int × (List ty6) × (List (Int × Int × Int)) × (List ty10))
  | 0, _, _, _, _, _, _, _, _, _, _, _, _, _, _, _, _, _ => none
  | m + 1, e5_0, a9, a10, a11, a12, a13, a14, a15, a16, a17, a18, a19, a20, a21, a22, a23, a24 =>
    (bif (decide (a9 < (a20.length : Int))) then
    (bif decide ((0 : Int) ≤ a9 ∧ a9 < (a20.length : Int)) then
    (Option.bind (S.l11Toks ((nthI a20 a9 ([], ([], (df1, df2)))).1)) fun r27 =>
    (Option.bind (S.l11Toks ((nthI a20 a9 ([], ([], (df1, df2)))).2.1)) fun r28 =>
    (let v29 : List ty6 := [(r27, (r28, (((nthI a20 a9 ([], ([], (df1, df2)))).2.2.1.1, ((nthI a20 a9 ([], ([], (df1, df2)))).2.2.1.2.1, (nthI a20 a9 ([], ([], (df1, df2)))).2.2.1.2.2)), ((nthI a20 a9 ([], ([], (df1, df2)))).2.2.2.1, (nthI a20 a9 ([], ([], (df1, df2)))).2.2.2.2))))]
    (bif decide ((a24.length + v29.length) * 88 ≤ 140737488355328) then
    (S.l11Conf_l0 m e5_0 (IntKind.wrap .i64 (a9 + 1)) a10 a11 a12 a13 a14 a15 a16 a17 a18 a19 a20 a21 a22 a23 (a24 ++ v29))
    else
    none))))
    else
    none)
    else
    (e5_0 a10 a11 a12 a13 a14 a15 a16 a17 a18 a19 a20 a21 a22 a23 a24))
noncomputable def S.l11Conf (a1 a2 a3 : Int) (a4 : List Int) (a5 : List ty6) (a6 : List (Int × Int × Int)) (a7 : List ty10) : Option (Int × Int × Int × List Int × (List ty6) × (List (Int × Int × Int)) × (List ty10)) :=
(bif decide ((([] : List (Int)).length + a4.length) * 8 ≤ 140737488355328) then
(S.l11Conf_l0 fu (fun y31 y32 y33 y34 y35 y36 y37 y38 y39 y40 y41 y42 y43 y44 y45 =>
(bif decide ((([] : List (Int × Int × Int)).length + y42.length) * 24 ≤ 140737488355328) then
(bif decide ((([] : List ty10).length + y43.length) * 40 ≤ 140737488355328) then
(some (y37, y38, y39, y44, y45, (([] : List (Int × Int × Int)) ++ y42), (([] : List ty10) ++ y43)))
else
none)
else
none)) 0 a1 a2 a3 0 0 0 a1 a2 a3 a4 a5 a6 a7 (([] : List (Int)) ++ a4) [])
else
none)
noncomputable def H59_5 : LoopH := ⟨⟨((.one (.unk)) :: (.one (.ptr 0 0)) :: (.one (.ptr 1 0)) :: (.one (.ptr 2 0)) :: hh :: (hu 47 [])), [(49, ((.hole) :: (.sl 0) :: (ho 2 [.sl 1, .sl 2, .sl 3]))), (49, (ho 7 [])), (49, ((.hole) :: (.sl 4) :: (ho 2 [.sl 5, .sl 2, .sl 3])))], [(87, (.int .u64), .ro), (190, sh5, .ro), (126, sh3, .ro), (159, sh4, .ro), (87, (.int .u64), .own), (190, sh5, .own)]⟩, ([0] ++ rg 5 47), [], ([0] ++ rg 4 48), [], [(3, 4, 190)]⟩
noncomputable def k59_5 : List PK := (ki 5 ((.nil) :: (ki 2 ((.nil) :: (.nil) :: (.nil) :: (ki 3 [.row (.int .u64), .row sh5, .row sh3, .row sh4, .row (.int .u64), .row sh5])))))
noncomputable def W59_5 (m : Nat) (k : Kont (Int × Int × Int × List Int × (List ty6) × (List (Int × Int × Int)) × (List ty10))) : Cur k59_5 (Option (Int × Int × Int × List Int × (List ty6) × (List (Int × Int × Int)) × (List ty10))) := S.l11Conf_l0 m (exF k (.exit 0) ⟨((.one (.unk)) :: (.one (.ptr 0 0)) :: (.one (.ptr 1 0)) :: (.one (.ptr 2 0)) :: (hu 48 [])), [(49, ((.hole) :: (.sl 0) :: (ho 2 [.sl 1, .sl 2, .sl 3]))), (49, (ho 7 [])), (49, ((.hole) :: (.sl 4) :: (ho 2 [.sl 5, .sl 2, .sl 3])))], [(87, (.int .u64), .ro), (190, sh5, .ro), (126, sh3, .ro), (159, sh4, .ro), (87, (.int .u64), .own), (190, sh5, .own)]⟩ (ki 4 ((.nil) :: (ki 2 ((.nil) :: (.nil) :: (.nil) :: (ki 3 [.row (.int .u64), .row sh5, .row sh3, .row sh4, .row (.int .u64), .row sh5]))))))
noncomputable def E59_5 (m : Nat) : List Prm → Kont (Int × Int × Int × List Int × (List ty6) × (List (Int × Int × Int)) × (List ty10)) → Option (Int × Int × Int × List Int × (List ty6) × (List (Int × Int × Int)) × (List ty10)) := eL k59_5 (W59_5 m)
theorem ev59_5 (m : Nat) (k : Kont (Int × Int × Int × List Int × (List ty6) × (List (Int × Int × Int)) × (List ty10))) (a : Args k59_5) : evL Tryz.prog G59 loopNil c59_5 (turn Tryz.prog (0, 0) H59_5 (E59_5 m) k) (H59_5.sk.fl (encP k59_5 a)) = unc k59_5 (W59_5 (m + 1) k) a := by kernel_rfl
theorem ok59_5 (m : Nat) : LoopOk Tryz.prog (0, 0) c59_5 (enter Tryz.prog (0, 0) H59_5 (E59_5 m)) := loop_gen (Fl := W59_5) (G := G59) (L := loopNil) (envCons_good good141 envNil_good) (no_loops (c := c59_5) (by kernel_rfl)) (fun _ _ => by kernel_rfl) ev59_5 m
noncomputable def L59 : LEnv (Int × Int × Int × List Int × (List ty6) × (List (Int × Int × Int)) × (List ty10)) := (loopCons 5 (enter Tryz.prog (0, 0) H59_5 (E59_5 fu)) loopNil)
theorem lq59 : loopsOf c59 = [c59_5] := by kernel_rfl
theorem fr59_5 : firstReg c59_5 = some 5 := by kernel_rfl
theorem le59_5 : L59 5 = enter Tryz.prog (0, 0) H59_5 (E59_5 fu) := by kernel_rfl
theorem lm59 : ∀ x ∈ [c59_5], ∀ id, firstReg x = some id → LoopOk Tryz.prog (0, 0) x (L59 id) := (loops_cons fr59_5 le59_5 (ok59_5 fu) loops_nil)
theorem lp59 : ∀ x ∈ loopsOf c59, ∀ id, firstReg x = some id → LoopOk Tryz.prog (0, 0) x (L59 id) := loops_eq lq59 lm59
noncomputable def sg59 : Sg := ⟨⟨[.agg ((.hole) :: (.sl 0) :: (ho 2 [.sl 1, .sl 2, .sl 3]))], [], [(87, (.int .u64), .ro), (190, sh5, .ro), (126, sh3, .ro), (159, sh4, .ro)]⟩, (ki 3 [.row (.int .u64), .row sh5, .row sh3, .row sh4]), ⟨[.agg ((.hole) :: (.sl 0) :: (ho 2 [.sl 1, .sl 2, .sl 3]))], [], [(87, (.int .u64), .own), (190, sh5, .own), (126, sh3, .own), (159, sh4, .own)]⟩, (ki 3 [.row (.int .u64), .row sh5, .row sh3, .row sh4])⟩
noncomputable def E59 : Fun2 := eOf sg59 S.l11Conf
theorem ev59 (a : Args sg59.ks) : evS Tryz.prog G59 L59 (0, 0) [] Tryz.f59 c59 (kOf sg59) (sg59.sk.fl (encP sg59.ks a)) = unc sg59.ks S.l11Conf a := by kernel_rfl
theorem good59 : Vm.Good Tryz.prog 59 E59 := good_gen (G := G59) (L := L59) (c := c59) (rn := []) (N := (0, 0)) (envCons_good good141 envNil_good) lp59 Tryz.func59 (by kernel_rfl) (by kernel_rfl) (fun _ => by kernel_rfl) ev59
noncomputable def G60 : Env := envNil
noncomputable def c60 : Code := bodyOf Tryz.f60
noncomputable def S.MarksNew (a1 : Int) : Option (Int × (List (Int × Bool))) :=
(bif (decide (a1 < 1)) then
(some (0, []))
else
(bif (decide (4 < a1)) then
(some (0, []))
else
(bif decide ((0 : Int) ≤ a1 ∧ a1 ≤ a1 ∧ (16 : Int) * a1 ≤ 281474976710656 ∧ a1 ≤ 9223372036854775807) then
(some (0, (List.replicate (Int.toNat a1) (0, false))))
else
none)))
noncomputable def sg60 : Sg := ⟨⟨[hh], [], []⟩, [.int .i64], ⟨[.agg [.hole, .sl 0]], [], [(225, sh6, .own)]⟩, [.int .i64, .row sh6]⟩
noncomputable def E60 : Fun2 := eOf sg60 S.MarksNew
theorem ev60 (a : Args sg60.ks) : evS Tryz.prog G60 loopNil (0, 0) [] Tryz.f60 c60 (kOf sg60) (sg60.sk.fl (encP sg60.ks a)) = unc sg60.ks S.MarksNew a := by kernel_rfl
theorem good60 : Vm.Good Tryz.prog 60 E60 := good_gen (G := G60) (L := loopNil) (c := c60) (rn := []) (N := (0, 0)) envNil_good (no_loops (c := c60) (by kernel_rfl)) Tryz.func60 (by kernel_rfl) (by kernel_rfl) (fun _ => by kernel_rfl) ev60
noncomputable def G61 : Env := (envCons 140 [] E140 envNil)
noncomputable def c61 : Code := bodyOf Tryz.f61
noncomputable def S.BoxNew (a1 a2 : Int) : Option (Int × Int × Int × Int × Bool × (List ty7) × (List (Int × Int × Int))) :=
(Option.bind (S.l10Cap a1) fun r3 =>
(bif (!r3) then
(some (0, 0, 0, 0, false, [], []))
else
(Option.bind (S.l10Cap a2) fun r4 =>
(bif (!r4) then
(some (0, 0, 0, 0, false, [], []))
else
(some (a1, a2, 0, 0, true, [], []))))))
noncomputable def sg61 : Sg := ⟨⟨[hh, hh], [], []⟩, (ki 2 []), ⟨[.agg (ho 4 [.sl 0, .sl 1]), hh], [], [(230, sh7, .own), (233, sh3, .own)]⟩, (ki 4 [.bool, .row sh7, .row sh3])⟩
noncomputable def E61 : Fun2 := eOf sg61 S.BoxNew
theorem ev61 (a : Args sg61.ks) : evS Tryz.prog G61 loopNil (0, 0) [] Tryz.f61 c61 (kOf sg61) (sg61.sk.fl (encP sg61.ks a)) = unc sg61.ks S.BoxNew a := by kernel_rfl
theorem good61 : Vm.Good Tryz.prog 61 E61 := good_gen (G := G61) (L := loopNil) (c := c61) (rn := []) (N := (0, 0)) (envCons_good good140 envNil_good) (no_loops (c := c61) (by kernel_rfl)) Tryz.func61 (by kernel_rfl) (by kernel_rfl) (fun _ => by kernel_rfl) ev61
noncomputable def G17 : Env := (envCons 58 [] E58 (envCons 59 [] E59 (envCons 60 [] E60 (envCons 61 [] E61 envNil))))
noncomputable def c17 : Code := bodyOf Tryz.f17
noncomputable def c17_5 : Code := (loopsOf c17).getD 0 .skip
noncomputable def S.EngNew_l0 : Nat → (Int → Int → Int → Int → Int → Int → Int → Int → List Int → (List ty6) → (List (Int × Int × Int)) → (List ty10) → (List (Int × Bool)) → List Int → List Int → (List ty3) → Option (Int × Int × Int × Int × Bool × List Int × (List ty6) × (List (Int × Int × Int)) × (List ty10) × (List (Int × Int × Int × Int)) × (List (Int × Bool)) × (List ty5) × List Int × List Int × (List ty3))) → Int → Int → Int → Int → Int → Int → Int → Int → Int → Int → Int → Int → List Int → (List ty6) → (List (Int × Int × Int)) → (List ty10) → List Int → (List ty6) → (List (Int × Int × Int)) → (List ty10) → (List (Int × Bool)) → List Int → List Int → (List ty3) → Option (Int × Int × Int × Int × Bool × List Int × (List ty6) × (List (Int × Int × Int)) × (List ty10) × (List (Int × Int × Int × Int)) × (List (Int × Bool)) × (List ty5) × List Int × List Int × (List ty3))
  | 0, _, _, _, _, _, _, _, _, _, _, _, _, _, _, _, _, _, _, _, _, _, _, _, _, _ => none
  | m + 1, e5_0, a214, a215, a216, a217, a218, a219, a220, a221, a222, a223, a224, a225, a226, a227, a228, a229, a230, a231, a232, a233, a234, a235, a236, a237 =>
    (bif (decide (a214 < (a228.length : Int))) then
    (bif decide ((0 : Int) ≤ a214 ∧ a214 < (a228.length : Int)) then
    (bif decide ((0 : Int) ≤ a214 ∧ a214 < (a228.length : Int)) then
    (dup (Option.bind (S.BoxNew ((nthI a228 a214 df1).2.1) ((nthI a228 a214 df1).2.2)) fun r240 =>
    (let v241 : List ty3 := [(r240.1, (r240.2.1, (r240.2.2.1, (r240.2.2.2.1, (r240.2.2.2.2.2.1, r240.2.2.2.2.2.2)))))]
    (bif decide ((a237.length + v241.length) * 80 ≤ 140737488355328) then
    (S.EngNew_l0 m e5_0 (IntKind.wrap .i64 (a214 + 1)) a215 a216 a217 a218 a219 a220 a221 a222 a223 a224 a225 a226 a227 a228 a229 a230 a231 a232 a233 a234 a235 a236 (a237 ++ v241))
    else
    none))))
    else
    none)
    else
    none)
    else
    (e5_0 a218 a219 a220 a221 a222 a223 a224 a225 a230 a231 a232 a233 a234 a235 a236 a237))
noncomputable def S.EngNew (a1 a2 a3 : Int) (a4 : List Int) (a5 : List ty6) (a6 : List (Int × Int × Int)) (a7 : List ty10) : Option (Int × Int × Int × Int × Bool × List Int × (List ty6) × (List (Int × Int × Int)) × (List ty10) × (List (Int × Int × Int × Int)) × (List (Int × Bool)) × (List ty5) × List Int × List Int × (List ty3)) :=
(Option.bind (S.ConfOk a1 a2 a3 a4 a5 a6 a7) fun r8 =>
(bif (!r8) then
(some (0, 0, 0, 0, false, [], [], [], [], [], [], [], [], [], []))
else
(let j1_1 : (Int × Int × Int × List Int × (List ty6) × (List (Int × Int × Int)) × (List ty10)) → (Int × (List (Int × Bool))) → List Int → List Int → Option (Int × Int × Int × Int × Bool × List Int × (List ty6) × (List (Int × Int × Int)) × (List ty10) × (List (Int × Int × Int × Int)) × (List (Int × Bool)) × (List ty5) × List Int × List Int × (List ty3)) := (fun r10 r11 v12 v13 =>
(S.EngNew_l0 fu (fun y214 y215 y216 y217 y218 y219 y220 y221 y222 y223 y224 y225 y226 y227 y228 y229 =>
(some (y218, y219, y220, y221, true, y222, y223, y224, y225, [], y226, [], y227, y228, y229))) 0 a1 a2 a3 0 0 0 0 r10.1 r10.2.1 r10.2.2.1 r11.1 a4 a5 a6 a7 r10.2.2.2.1 r10.2.2.2.2.1 r10.2.2.2.2.2.1 r10.2.2.2.2.2.2 r11.2 v12 v13 []))
(let v9 : Int := (a7.length : Int)
(same (Option.bind (S.l11Conf a1 a2 a3 a4 a5 a6 a7) fun r10 =>
(same (Option.bind (S.MarksNew a2) fun r11 =>
(same (bif decide ((0 : Int) ≤ a1 ∧ a1 ≤ a1 ∧ (8 : Int) * a1 ≤ 281474976710656 ∧ a1 ≤ 9223372036854775807) then
(let v12 : List Int := (List.replicate (Int.toNat a1) (0 : Int))
(same (bif decide ((0 : Int) ≤ v9 ∧ v9 ≤ v9 ∧ (8 : Int) * v9 ≤ 281474976710656 ∧ v9 ≤ 9223372036854775807) then
(let v13 : List Int := (List.replicate (Int.toNat v9) (0 : Int))
(S.EngNew_l0 fu (fun y243 y244 y245 y246 y247 y248 y249 y250 y251 y252 y253 y254 y255 y256 y257 y258 =>
(some (y247, y248, y249, y250, true, y251, y252, y253, y254, [], y255, [], y256, y257, y258))) 0 a1 a2 a3 0 0 0 0 r10.1 r10.2.1 r10.2.2.1 r11.1 a4 a5 a6 a7 r10.2.2.2.1 r10.2.2.2.2.1 r10.2.2.2.2.2.1 r10.2.2.2.2.2.2 r11.2 v12 v13 []))
else
none)
(bif decide ((0 : Int) ≤ v9 ∧ v9 ≤ v9 ∧ (8 : Int) * v9 ≤ 281474976710656 ∧ v9 ≤ 9223372036854775807) then
(let v13 : List Int := (List.replicate (Int.toNat v9) (0 : Int))
(j1_1 r10 r11 v12 v13))
else
none)))
else
none)
(same (bif decide ((0 : Int) ≤ v9 ∧ v9 ≤ v9 ∧ (8 : Int) * v9 ≤ 281474976710656 ∧ v9 ≤ 9223372036854775807) then
(let v12 : List Int := (List.replicate (Int.toNat v9) (0 : Int))
(same (bif decide ((0 : Int) ≤ a1 ∧ a1 ≤ a1 ∧ (8 : Int) * a1 ≤ 281474976710656 ∧ a1 ≤ 9223372036854775807) then
(let v13 : List Int := (List.replicate (Int.toNat a1) (0 : Int))
(j1_1 r10 r11 v13 v12))
else
none)
(bif decide ((0 : Int) ≤ a1 ∧ a1 ≤ a1 ∧ (8 : Int) * a1 ≤ 281474976710656 ∧ a1 ≤ 9223372036854775807) then
(let v13 : List Int := (List.replicate (Int.toNat a1) (0 : Int))
(j1_1 r10 r11 v13 v12))
else
none)))
else
none)
(same (bif decide ((0 : Int) ≤ a1 ∧ a1 ≤ a1 ∧ (8 : Int) * a1 ≤ 281474976710656 ∧ a1 ≤ 9223372036854775807) then
(let v12 : List Int := (List.replicate (Int.toNat a1) (0 : Int))
(bif decide ((0 : Int) ≤ v9 ∧ v9 ≤ v9 ∧ (8 : Int) * v9 ≤ 281474976710656 ∧ v9 ≤ 9223372036854775807) then
(let v13 : List Int := (List.replicate (Int.toNat v9) (0 : Int))
(j1_1 r10 r11 v12 v13))
else
none))
else
none)
(bif decide ((0 : Int) ≤ v9 ∧ v9 ≤ v9 ∧ (8 : Int) * v9 ≤ 281474976710656 ∧ v9 ≤ 9223372036854775807) then
(let v12 : List Int := (List.replicate (Int.toNat v9) (0 : Int))
(bif decide ((0 : Int) ≤ a1 ∧ a1 ≤ a1 ∧ (8 : Int) * a1 ≤ 281474976710656 ∧ a1 ≤ 9223372036854775807) then
(let v13 : List Int := (List.replicate (Int.toNat a1) (0 : Int))
(j1_1 r10 r11 v13 v12))
else
none))
else
none)))))
(same (bif decide ((0 : Int) ≤ a1 ∧ a1 ≤ a1 ∧ (8 : Int) * a1 ≤ 281474976710656 ∧ a1 ≤ 9223372036854775807) then
(let v11 : List Int := (List.replicate (Int.toNat a1) (0 : Int))
(same (Option.bind (S.MarksNew a2) fun r12 =>
(same (bif decide ((0 : Int) ≤ v9 ∧ v9 ≤ v9 ∧ (8 : Int) * v9 ≤ 281474976710656 ∧ v9 ≤ 9223372036854775807) then
(let v13 : List Int := (List.replicate (Int.toNat v9) (0 : Int))
(j1_1 r10 r12 v11 v13))
else
none)
(bif decide ((0 : Int) ≤ v9 ∧ v9 ≤ v9 ∧ (8 : Int) * v9 ≤ 281474976710656 ∧ v9 ≤ 9223372036854775807) then
(let v13 : List Int := (List.replicate (Int.toNat v9) (0 : Int))
(j1_1 r10 r12 v11 v13))
else
none)))
(same (bif decide ((0 : Int) ≤ v9 ∧ v9 ≤ v9 ∧ (8 : Int) * v9 ≤ 281474976710656 ∧ v9 ≤ 9223372036854775807) then
(let v12 : List Int := (List.replicate (Int.toNat v9) (0 : Int))
(same (Option.bind (S.MarksNew a2) fun r13 =>
(j1_1 r10 r13 v11 v12))
(Option.bind (S.MarksNew a2) fun r13 =>
(j1_1 r10 r13 v11 v12))))
else
none)
(same (Option.bind (S.MarksNew a2) fun r12 =>
(bif decide ((0 : Int) ≤ v9 ∧ v9 ≤ v9 ∧ (8 : Int) * v9 ≤ 281474976710656 ∧ v9 ≤ 9223372036854775807) then
(let v13 : List Int := (List.replicate (Int.toNat v9) (0 : Int))
(j1_1 r10 r12 v11 v13))
else
none))
(bif decide ((0 : Int) ≤ v9 ∧ v9 ≤ v9 ∧ (8 : Int) * v9 ≤ 281474976710656 ∧ v9 ≤ 9223372036854775807) then
(let v12 : List Int := (List.replicate (Int.toNat v9) (0 : Int))
(Option.bind (S.MarksNew a2) fun r13 =>
(j1_1 r10 r13 v11 v12)))
else
none)))))
else
none)
(same (bif decide ((0 : Int) ≤ v9 ∧ v9 ≤ v9 ∧ (8 : Int) * v9 ≤ 281474976710656 ∧ v9 ≤ 9223372036854775807) then
(let v11 : List Int := (List.replicate (Int.toNat v9) (0 : Int))
(same (Option.bind (S.MarksNew a2) fun r12 =>
(same (bif decide ((0 : Int) ≤ a1 ∧ a1 ≤ a1 ∧ (8 : Int) * a1 ≤ 281474976710656 ∧ a1 ≤ 9223372036854775807) then
(let v13 : List Int := (List.replicate (Int.toNat a1) (0 : Int))
(j1_1 r10 r12 v13 v11))
else
none)
(bif decide ((0 : Int) ≤ a1 ∧ a1 ≤ a1 ∧ (8 : Int) * a1 ≤ 281474976710656 ∧ a1 ≤ 9223372036854775807) then
(let v13 : List Int := (List.replicate (Int.toNat a1) (0 : Int))
(j1_1 r10 r12 v13 v11))
else
none)))
(same (bif decide ((0 : Int) ≤ a1 ∧ a1 ≤ a1 ∧ (8 : Int) * a1 ≤ 281474976710656 ∧ a1 ≤ 9223372036854775807) then
(let v12 : List Int := (List.replicate (Int.toNat a1) (0 : Int))
(same (Option.bind (S.MarksNew a2) fun r13 =>
(j1_1 r10 r13 v12 v11))
(Option.bind (S.MarksNew a2) fun r13 =>
(j1_1 r10 r13 v12 v11))))
else
none)
(same (Option.bind (S.MarksNew a2) fun r12 =>
(bif decide ((0 : Int) ≤ a1 ∧ a1 ≤ a1 ∧ (8 : Int) * a1 ≤ 281474976710656 ∧ a1 ≤ 9223372036854775807) then
(let v13 : List Int := (List.replicate (Int.toNat a1) (0 : Int))
(j1_1 r10 r12 v13 v11))
else
none))
(bif decide ((0 : Int) ≤ a1 ∧ a1 ≤ a1 ∧ (8 : Int) * a1 ≤ 281474976710656 ∧ a1 ≤ 9223372036854775807) then
(let v12 : List Int := (List.replicate (Int.toNat a1) (0 : Int))
(Option.bind (S.MarksNew a2) fun r13 =>
(j1_1 r10 r13 v12 v11)))
else
none)))))
else
none)
(same (Option.bind (S.MarksNew a2) fun r11 =>
(same (bif decide ((0 : Int) ≤ a1 ∧ a1 ≤ a1 ∧ (8 : Int) * a1 ≤ 281474976710656 ∧ a1 ≤ 9223372036854775807) then
(let v12 : List Int := (List.replicate (Int.toNat a1) (0 : Int))
(bif decide ((0 : Int) ≤ v9 ∧ v9 ≤ v9 ∧ (8 : Int) * v9 ≤ 281474976710656 ∧ v9 ≤ 9223372036854775807) then
(let v13 : List Int := (List.replicate (Int.toNat v9) (0 : Int))
(j1_1 r10 r11 v12 v13))
else
none))
else
none)
(bif decide ((0 : Int) ≤ v9 ∧ v9 ≤ v9 ∧ (8 : Int) * v9 ≤ 281474976710656 ∧ v9 ≤ 9223372036854775807) then
(let v12 : List Int := (List.replicate (Int.toNat v9) (0 : Int))
(bif decide ((0 : Int) ≤ a1 ∧ a1 ≤ a1 ∧ (8 : Int) * a1 ≤ 281474976710656 ∧ a1 ≤ 9223372036854775807) then
(let v13 : List Int := (List.replicate (Int.toNat a1) (0 : Int))
(j1_1 r10 r11 v13 v12))
else
none))
else
none)))
(same (bif decide ((0 : Int) ≤ a1 ∧ a1 ≤ a1 ∧ (8 : Int) * a1 ≤ 281474976710656 ∧ a1 ≤ 9223372036854775807) then
(let v11 : List Int := (List.replicate (Int.toNat a1) (0 : Int))
(same (Option.bind (S.MarksNew a2) fun r12 =>
(bif decide ((0 : Int) ≤ v9 ∧ v9 ≤ v9 ∧ (8 : Int) * v9 ≤ 281474976710656 ∧ v9 ≤ 9223372036854775807) then
(let v13 : List Int := (List.replicate (Int.toNat v9) (0 : Int))
(j1_1 r10 r12 v11 v13))
else
none))
(bif decide ((0 : Int) ≤ v9 ∧ v9 ≤ v9 ∧ (8 : Int) * v9 ≤ 281474976710656 ∧ v9 ≤ 9223372036854775807) then
(let v12 : List Int := (List.replicate (Int.toNat v9) (0 : Int))
(Option.bind (S.MarksNew a2) fun r13 =>
(j1_1 r10 r13 v11 v12)))
else
none)))
else
none)
(bif decide ((0 : Int) ≤ v9 ∧ v9 ≤ v9 ∧ (8 : Int) * v9 ≤ 281474976710656 ∧ v9 ≤ 9223372036854775807) then
(let v11 : List Int := (List.replicate (Int.toNat v9) (0 : Int))
(same (Option.bind (S.MarksNew a2) fun r12 =>
(bif decide ((0 : Int) ≤ a1 ∧ a1 ≤ a1 ∧ (8 : Int) * a1 ≤ 281474976710656 ∧ a1 ≤ 9223372036854775807) then
(let v13 : List Int := (List.replicate (Int.toNat a1) (0 : Int))
(j1_1 r10 r12 v13 v11))
else
none))
(bif decide ((0 : Int) ≤ a1 ∧ a1 ≤ a1 ∧ (8 : Int) * a1 ≤ 281474976710656 ∧ a1 ≤ 9223372036854775807) then
(let v12 : List Int := (List.replicate (Int.toNat a1) (0 : Int))
(Option.bind (S.MarksNew a2) fun r13 =>
(j1_1 r10 r13 v12 v11)))
else
none)))
else
none)))))))
(same (bif decide ((0 : Int) ≤ a1 ∧ a1 ≤ a1 ∧ (8 : Int) * a1 ≤ 281474976710656 ∧ a1 ≤ 9223372036854775807) then
(let v10 : List Int := (List.replicate (Int.toNat a1) (0 : Int))
(same (Option.bind (S.l11Conf a1 a2 a3 a4 a5 a6 a7) fun r11 =>
(same (Option.bind (S.MarksNew a2) fun r12 =>
(same (bif decide ((0 : Int) ≤ v9 ∧ v9 ≤ v9 ∧ (8 : Int) * v9 ≤ 281474976710656 ∧ v9 ≤ 9223372036854775807) then
(let v13 : List Int := (List.replicate (Int.toNat v9) (0 : Int))
(j1_1 r11 r12 v10 v13))
else
none)
(bif decide ((0 : Int) ≤ v9 ∧ v9 ≤ v9 ∧ (8 : Int) * v9 ≤ 281474976710656 ∧ v9 ≤ 9223372036854775807) then
(let v13 : List Int := (List.replicate (Int.toNat v9) (0 : Int))
(j1_1 r11 r12 v10 v13))
else
none)))
(same (bif decide ((0 : Int) ≤ v9 ∧ v9 ≤ v9 ∧ (8 : Int) * v9 ≤ 281474976710656 ∧ v9 ≤ 9223372036854775807) then
(let v12 : List Int := (List.replicate (Int.toNat v9) (0 : Int))
(same (Option.bind (S.MarksNew a2) fun r13 =>
(j1_1 r11 r13 v10 v12))
(Option.bind (S.MarksNew a2) fun r13 =>
(j1_1 r11 r13 v10 v12))))
else
none)
(same (Option.bind (S.MarksNew a2) fun r12 =>
(bif decide ((0 : Int) ≤ v9 ∧ v9 ≤ v9 ∧ (8 : Int) * v9 ≤ 281474976710656 ∧ v9 ≤ 9223372036854775807) then
(let v13 : List Int := (List.replicate (Int.toNat v9) (0 : Int))
(j1_1 r11 r12 v10 v13))
else
none))
(bif decide ((0 : Int) ≤ v9 ∧ v9 ≤ v9 ∧ (8 : Int) * v9 ≤ 281474976710656 ∧ v9 ≤ 9223372036854775807) then
(let v12 : List Int := (List.replicate (Int.toNat v9) (0 : Int))
(Option.bind (S.MarksNew a2) fun r13 =>
(j1_1 r11 r13 v10 v12)))
else
none)))))
(same (bif decide ((0 : Int) ≤ v9 ∧ v9 ≤ v9 ∧ (8 : Int) * v9 ≤ 281474976710656 ∧ v9 ≤ 9223372036854775807) then
(let v11 : List Int := (List.replicate (Int.toNat v9) (0 : Int))
(same (Option.bind (S.l11Conf a1 a2 a3 a4 a5 a6 a7) fun r12 =>
(same (Option.bind (S.MarksNew a2) fun r13 =>
(j1_1 r12 r13 v10 v11))
(Option.bind (S.MarksNew a2) fun r13 =>
(j1_1 r12 r13 v10 v11))))
(Option.bind (S.l11Conf a1 a2 a3 a4 a5 a6 a7) fun r12 =>
(Option.bind (S.MarksNew a2) fun r13 =>
(j1_1 r12 r13 v10 v11)))))
else
none)
(same (Option.bind (S.l11Conf a1 a2 a3 a4 a5 a6 a7) fun r11 =>
(same (Option.bind (S.MarksNew a2) fun r12 =>
(bif decide ((0 : Int) ≤ v9 ∧ v9 ≤ v9 ∧ (8 : Int) * v9 ≤ 281474976710656 ∧ v9 ≤ 9223372036854775807) then
(let v13 : List Int := (List.replicate (Int.toNat v9) (0 : Int))
(j1_1 r11 r12 v10 v13))
else
none))
(bif decide ((0 : Int) ≤ v9 ∧ v9 ≤ v9 ∧ (8 : Int) * v9 ≤ 281474976710656 ∧ v9 ≤ 9223372036854775807) then
(let v12 : List Int := (List.replicate (Int.toNat v9) (0 : Int))
(Option.bind (S.MarksNew a2) fun r13 =>
(j1_1 r11 r13 v10 v12)))
else
none)))
(bif decide ((0 : Int) ≤ v9 ∧ v9 ≤ v9 ∧ (8 : Int) * v9 ≤ 281474976710656 ∧ v9 ≤ 9223372036854775807) then
(let v11 : List Int := (List.replicate (Int.toNat v9) (0 : Int))
(Option.bind (S.l11Conf a1 a2 a3 a4 a5 a6 a7) fun r12 =>
(Option.bind (S.MarksNew a2) fun r13 =>
(j1_1 r12 r13 v10 v11))))
else
none)))))
else
none)
(same (bif decide ((0 : Int) ≤ v9 ∧ v9 ≤ v9 ∧ (8 : Int) * v9 ≤ 281474976710656 ∧ v9 ≤ 9223372036854775807) then
(let v10 : List Int := (List.replicate (Int.toNat v9) (0 : Int))
(same (Option.bind (S.l11Conf a1 a2 a3 a4 a5 a6 a7) fun r11 =>
(same (Option.bind (S.MarksNew a2) fun r12 =>
(same (bif decide ((0 : Int) ≤ a1 ∧ a1 ≤ a1 ∧ (8 : Int) * a1 ≤ 281474976710656 ∧ a1 ≤ 9223372036854775807) then
(let v13 : List Int := (List.replicate (Int.toNat a1) (0 : Int))
(j1_1 r11 r12 v13 v10))
else
none)
(bif decide ((0 : Int) ≤ a1 ∧ a1 ≤ a1 ∧ (8 : Int) * a1 ≤ 281474976710656 ∧ a1 ≤ 9223372036854775807) then
(let v13 : List Int := (List.replicate (Int.toNat a1) (0 : Int))
(j1_1 r11 r12 v13 v10))
else
none)))
(same (bif decide ((0 : Int) ≤ a1 ∧ a1 ≤ a1 ∧ (8 : Int) * a1 ≤ 281474976710656 ∧ a1 ≤ 9223372036854775807) then
(let v12 : List Int := (List.replicate (Int.toNat a1) (0 : Int))
(same (Option.bind (S.MarksNew a2) fun r13 =>
(j1_1 r11 r13 v12 v10))
(Option.bind (S.MarksNew a2) fun r13 =>
(j1_1 r11 r13 v12 v10))))
else
none)
(same (Option.bind (S.MarksNew a2) fun r12 =>
(bif decide ((0 : Int) ≤ a1 ∧ a1 ≤ a1 ∧ (8 : Int) * a1 ≤ 281474976710656 ∧ a1 ≤ 9223372036854775807) then
(let v13 : List Int := (List.replicate (Int.toNat a1) (0 : Int))
(j1_1 r11 r12 v13 v10))
else
none))
(bif decide ((0 : Int) ≤ a1 ∧ a1 ≤ a1 ∧ (8 : Int) * a1 ≤ 281474976710656 ∧ a1 ≤ 9223372036854775807) then
(let v12 : List Int := (List.replicate (Int.toNat a1) (0 : Int))
(Option.bind (S.MarksNew a2) fun r13 =>
(j1_1 r11 r13 v12 v10)))
else
none)))))
(same (bif decide ((0 : Int) ≤ a1 ∧ a1 ≤ a1 ∧ (8 : Int) * a1 ≤ 281474976710656 ∧ a1 ≤ 9223372036854775807) then
(let v11 : List Int := (List.replicate (Int.toNat a1) (0 : Int))
(same (Option.bind (S.l11Conf a1 a2 a3 a4 a5 a6 a7) fun r12 =>
(same (Option.bind (S.MarksNew a2) fun r13 =>
(j1_1 r12 r13 v11 v10))
(Option.bind (S.MarksNew a2) fun r13 =>
(j1_1 r12 r13 v11 v10))))
(Option.bind (S.l11Conf a1 a2 a3 a4 a5 a6 a7) fun r12 =>
(Option.bind (S.MarksNew a2) fun r13 =>
(j1_1 r12 r13 v11 v10)))))
else
none)
(same (Option.bind (S.l11Conf a1 a2 a3 a4 a5 a6 a7) fun r11 =>
(same (Option.bind (S.MarksNew a2) fun r12 =>
(bif decide ((0 : Int) ≤ a1 ∧ a1 ≤ a1 ∧ (8 : Int) * a1 ≤ 281474976710656 ∧ a1 ≤ 9223372036854775807) then
(let v13 : List Int := (List.replicate (Int.toNat a1) (0 : Int))
(j1_1 r11 r12 v13 v10))
else
none))
(bif decide ((0 : Int) ≤ a1 ∧ a1 ≤ a1 ∧ (8 : Int) * a1 ≤ 281474976710656 ∧ a1 ≤ 9223372036854775807) then
(let v12 : List Int := (List.replicate (Int.toNat a1) (0 : Int))
(Option.bind (S.MarksNew a2) fun r13 =>
(j1_1 r11 r13 v12 v10)))
else
none)))
(bif decide ((0 : Int) ≤ a1 ∧ a1 ≤ a1 ∧ (8 : Int) * a1 ≤ 281474976710656 ∧ a1 ≤ 9223372036854775807) then
(let v11 : List Int := (List.replicate (Int.toNat a1) (0 : Int))
(Option.bind (S.l11Conf a1 a2 a3 a4 a5 a6 a7) fun r12 =>
(Option.bind (S.MarksNew a2) fun r13 =>
(j1_1 r12 r13 v11 v10))))
else
none)))))
else
none)
(same (Option.bind (S.l11Conf a1 a2 a3 a4 a5 a6 a7) fun r10 =>
(same (Option.bind (S.MarksNew a2) fun r11 =>
(same (bif decide ((0 : Int) ≤ a1 ∧ a1 ≤ a1 ∧ (8 : Int) * a1 ≤ 281474976710656 ∧ a1 ≤ 9223372036854775807) then
(let v12 : List Int := (List.replicate (Int.toNat a1) (0 : Int))
(bif decide ((0 : Int) ≤ v9 ∧ v9 ≤ v9 ∧ (8 : Int) * v9 ≤ 281474976710656 ∧ v9 ≤ 9223372036854775807) then
(let v13 : List Int := (List.replicate (Int.toNat v9) (0 : Int))
(j1_1 r10 r11 v12 v13))
else
none))
else
none)
(bif decide ((0 : Int) ≤ v9 ∧ v9 ≤ v9 ∧ (8 : Int) * v9 ≤ 281474976710656 ∧ v9 ≤ 9223372036854775807) then
(let v12 : List Int := (List.replicate (Int.toNat v9) (0 : Int))
(bif decide ((0 : Int) ≤ a1 ∧ a1 ≤ a1 ∧ (8 : Int) * a1 ≤ 281474976710656 ∧ a1 ≤ 9223372036854775807) then
(let v13 : List Int := (List.replicate (Int.toNat a1) (0 : Int))
(j1_1 r10 r11 v13 v12))
else
none))
else
none)))
(same (bif decide ((0 : Int) ≤ a1 ∧ a1 ≤ a1 ∧ (8 : Int) * a1 ≤ 281474976710656 ∧ a1 ≤ 9223372036854775807) then
(let v11 : List Int := (List.replicate (Int.toNat a1) (0 : Int))
(same (Option.bind (S.MarksNew a2) fun r12 =>
(bif decide ((0 : Int) ≤ v9 ∧ v9 ≤ v9 ∧ (8 : Int) * v9 ≤ 281474976710656 ∧ v9 ≤ 9223372036854775807) then
(let v13 : List Int := (List.replicate (Int.toNat v9) (0 : Int))
(j1_1 r10 r12 v11 v13))
else
none))
(bif decide ((0 : Int) ≤ v9 ∧ v9 ≤ v9 ∧ (8 : Int) * v9 ≤ 281474976710656 ∧ v9 ≤ 9223372036854775807) then
(let v12 : List Int := (List.replicate (Int.toNat v9) (0 : Int))
(Option.bind (S.MarksNew a2) fun r13 =>
(j1_1 r10 r13 v11 v12)))
else
none)))
else
none)
(bif decide ((0 : Int) ≤ v9 ∧ v9 ≤ v9 ∧ (8 : Int) * v9 ≤ 281474976710656 ∧ v9 ≤ 9223372036854775807) then
(let v11 : List Int := (List.replicate (Int.toNat v9) (0 : Int))
(same (Option.bind (S.MarksNew a2) fun r12 =>
(bif decide ((0 : Int) ≤ a1 ∧ a1 ≤ a1 ∧ (8 : Int) * a1 ≤ 281474976710656 ∧ a1 ≤ 9223372036854775807) then
(let v13 : List Int := (List.replicate (Int.toNat a1) (0 : Int))
(j1_1 r10 r12 v13 v11))
else
none))
(bif decide ((0 : Int) ≤ a1 ∧ a1 ≤ a1 ∧ (8 : Int) * a1 ≤ 281474976710656 ∧ a1 ≤ 9223372036854775807) then
(let v12 : List Int := (List.replicate (Int.toNat a1) (0 : Int))
(Option.bind (S.MarksNew a2) fun r13 =>
(j1_1 r10 r13 v12 v11)))
else
none)))
else
none))))
(same (bif decide ((0 : Int) ≤ a1 ∧ a1 ≤ a1 ∧ (8 : Int) * a1 ≤ 281474976710656 ∧ a1 ≤ 9223372036854775807) then
(let v10 : List Int := (List.replicate (Int.toNat a1) (0 : Int))
(same (Option.bind (S.l11Conf a1 a2 a3 a4 a5 a6 a7) fun r11 =>
(same (Option.bind (S.MarksNew a2) fun r12 =>
(bif decide ((0 : Int) ≤ v9 ∧ v9 ≤ v9 ∧ (8 : Int) * v9 ≤ 281474976710656 ∧ v9 ≤ 9223372036854775807) then
(let v13 : List Int := (List.replicate (Int.toNat v9) (0 : Int))
(j1_1 r11 r12 v10 v13))
else
none))
(bif decide ((0 : Int) ≤ v9 ∧ v9 ≤ v9 ∧ (8 : Int) * v9 ≤ 281474976710656 ∧ v9 ≤ 9223372036854775807) then
(let v12 : List Int := (List.replicate (Int.toNat v9) (0 : Int))
(Option.bind (S.MarksNew a2) fun r13 =>
(j1_1 r11 r13 v10 v12)))
else
none)))
(bif decide ((0 : Int) ≤ v9 ∧ v9 ≤ v9 ∧ (8 : Int) * v9 ≤ 281474976710656 ∧ v9 ≤ 9223372036854775807) then
(let v11 : List Int := (List.replicate (Int.toNat v9) (0 : Int))
(Option.bind (S.l11Conf a1 a2 a3 a4 a5 a6 a7) fun r12 =>
(Option.bind (S.MarksNew a2) fun r13 =>
(j1_1 r12 r13 v10 v11))))
else
none)))
else
none)
(bif decide ((0 : Int) ≤ v9 ∧ v9 ≤ v9 ∧ (8 : Int) * v9 ≤ 281474976710656 ∧ v9 ≤ 9223372036854775807) then
(let v10 : List Int := (List.replicate (Int.toNat v9) (0 : Int))
(same (Option.bind (S.l11Conf a1 a2 a3 a4 a5 a6 a7) fun r11 =>
(same (Option.bind (S.MarksNew a2) fun r12 =>
(bif decide ((0 : Int) ≤ a1 ∧ a1 ≤ a1 ∧ (8 : Int) * a1 ≤ 281474976710656 ∧ a1 ≤ 9223372036854775807) then
(let v13 : List Int := (List.replicate (Int.toNat a1) (0 : Int))
(j1_1 r11 r12 v13 v10))
else
none))
(bif decide ((0 : Int) ≤ a1 ∧ a1 ≤ a1 ∧ (8 : Int) * a1 ≤ 281474976710656 ∧ a1 ≤ 9223372036854775807) then
(let v12 : List Int := (List.replicate (Int.toNat a1) (0 : Int))
(Option.bind (S.MarksNew a2) fun r13 =>
(j1_1 r11 r13 v12 v10)))
else
none)))
(bif decide ((0 : Int) ≤ a1 ∧ a1 ≤ a1 ∧ (8 : Int) * a1 ≤ 281474976710656 ∧ a1 ≤ 9223372036854775807) then
(let v11 : List Int := (List.replicate (Int.toNat a1) (0 : Int))
(Option.bind (S.l11Conf a1 a2 a3 a4 a5 a6 a7) fun r12 =>
(Option.bind (S.MarksNew a2) fun r13 =>
(j1_1 r12 r13 v11 v10))))
else
none)))
else
none))))))))))
noncomputable def H17_5 : LoopH := ⟨⟨((.one (.unk)) :: (.one (.ptr 0 0)) :: (.one (.ptr 1 0)) :: (.one (.unk)) :: (.one (.ptr 2 0)) :: hh :: (hu 50 [])), [(49, ((.hole) :: (.sl 0) :: (ho 2 [.sl 1, .sl 2, .sl 3]))), (57, (ho 14 [])), (57, ((.hole) :: (.sl 4) :: (ho 2 ((.sl 5) :: (.sl 6) :: (.sl 7) :: (ho 2 [.sl 8, .hole, .sl 9, .sl 10, .sl 11])))))], [(87, (.int .u64), .ro), (190, sh5, .ro), (126, sh3, .ro), (159, sh4, .ro), (87, (.int .u64), .own), (190, sh5, .own), (126, sh3, .own), (159, sh4, .own), (225, sh6, .own), (3, (.int .i64), .own), (3, (.int .i64), .own), (122, sh8, .own)]⟩, ([0, 3] ++ rg 6 50), [], ([0, 1] ++ rg 5 51), [], [(4, 13, 122)]⟩
noncomputable def k17_5 : List PK := (ki 5 ((.nil) :: (ki 2 ((.nil) :: (.nil) :: (.nil) :: (.nil) :: (.int .i64) :: (.nil) :: (.nil) :: (.nil) :: (.nil) :: (.nil) :: (ki 3 [.nil, .int .i64, .nil, .row (.int .u64), .row sh5, .row sh3, .row sh4, .row (.int .u64), .row sh5, .row sh3, .row sh4, .row sh6, .row (.int .i64), .row (.int .i64), .row sh8])))))
noncomputable def W17_5 (m : Nat) (k : Kont (Int × Int × Int × Int × Bool × List Int × (List ty6) × (List (Int × Int × Int)) × (List ty10) × (List (Int × Int × Int × Int)) × (List (Int × Bool)) × (List ty5) × List Int × List Int × (List ty3))) : Cur k17_5 (Option (Int × Int × Int × Int × Bool × List Int × (List ty6) × (List (Int × Int × Int)) × (List ty10) × (List (Int × Int × Int × Int)) × (List (Int × Bool)) × (List ty5) × List Int × List Int × (List ty3))) := S.EngNew_l0 m (exF k (.exit 0) ⟨(hu 2 ((.one (.ptr 0 0)) :: (.one (.unk)) :: (.one (.ptr 1 0)) :: (hu 51 []))), [(57, (ho 14 [])), (57, ((.hole) :: (.sl 0) :: (ho 2 ((.sl 1) :: (.sl 2) :: (.sl 3) :: (ho 2 [.sl 4, .hole, .sl 5, .sl 6, .sl 7])))))], [(87, (.int .u64), .own), (190, sh5, .own), (126, sh3, .own), (159, sh4, .own), (225, sh6, .own), (3, (.int .i64), .own), (3, (.int .i64), .own), (122, sh8, .own)]⟩ ((.int .i64) :: (.nil) :: (ki 2 ((.nil) :: (.nil) :: (.nil) :: (.nil) :: (.int .i64) :: (.nil) :: (.nil) :: (.nil) :: (.nil) :: (.nil) :: (ki 3 [.nil, .int .i64, .nil, .row (.int .u64), .row sh5, .row sh3, .row sh4, .row sh6, .row (.int .i64), .row (.int .i64), .row sh8])))))
noncomputable def E17_5 (m : Nat) : List Prm → Kont (Int × Int × Int × Int × Bool × List Int × (List ty6) × (List (Int × Int × Int)) × (List ty10) × (List (Int × Int × Int × Int)) × (List (Int × Bool)) × (List ty5) × List Int × List Int × (List ty3)) → Option (Int × Int × Int × Int × Bool × List Int × (List ty6) × (List (Int × Int × Int)) × (List ty10) × (List (Int × Int × Int × Int)) × (List (Int × Bool)) × (List ty5) × List Int × List Int × (List ty3)) := eL k17_5 (W17_5 m)
theorem ev17_5 (m : Nat) (k : Kont (Int × Int × Int × Int × Bool × List Int × (List ty6) × (List (Int × Int × Int)) × (List ty10) × (List (Int × Int × Int × Int)) × (List (Int × Bool)) × (List ty5) × List Int × List Int × (List ty3))) (a : Args k17_5) : evL Tryz.prog G17 loopNil c17_5 (turn Tryz.prog (0, 0) H17_5 (E17_5 m) k) (H17_5.sk.fl (encP k17_5 a)) = unc k17_5 (W17_5 (m + 1) k) a := by kernel_rfl
theorem ok17_5 (m : Nat) : LoopOk Tryz.prog (0, 0) c17_5 (enter Tryz.prog (0, 0) H17_5 (E17_5 m)) := loop_gen (Fl := W17_5) (G := G17) (L := loopNil) (envCons_good good58 (envCons_good good59 (envCons_good good60 (envCons_good good61 envNil_good)))) (no_loops (c := c17_5) (by kernel_rfl)) (fun _ _ => by kernel_rfl) ev17_5 m
noncomputable def L17 : LEnv (Int × Int × Int × Int × Bool × List Int × (List ty6) × (List (Int × Int × Int)) × (List ty10) × (List (Int × Int × Int × Int)) × (List (Int × Bool)) × (List ty5) × List Int × List Int × (List ty3)) := (loopCons 5 (enter Tryz.prog (0, 0) H17_5 (E17_5 fu)) loopNil)
theorem lq17 : loopsOf c17 = [c17_5] := by kernel_rfl
theorem fr17_5 : firstReg c17_5 = some 5 := by kernel_rfl
theorem le17_5 : L17 5 = enter Tryz.prog (0, 0) H17_5 (E17_5 fu) := by kernel_rfl
theorem lm17 : ∀ x ∈ [c17_5], ∀ id, firstReg x = some id → LoopOk Tryz.prog (0, 0) x (L17 id) := (loops_cons fr17_5 le17_5 (ok17_5 fu) loops_nil)
theorem lp17 : ∀ x ∈ loopsOf c17, ∀ id, firstReg x = some id → LoopOk Tryz.prog (0, 0) x (L17 id) := loops_eq lq17 lm17
noncomputable def sg17 : Sg := ⟨⟨[.agg ((.hole) :: (.sl 0) :: (ho 2 [.sl 1, .sl 2, .sl 3]))], [], [(87, (.int .u64), .ro), (190, sh5, .ro), (126, sh3, .ro), (159, sh4, .ro)]⟩, (ki 3 [.row (.int .u64), .row sh5, .row sh3, .row sh4]), ⟨[.agg ((.hole) :: (.sl 0) :: (ho 2 [.sl 1, .sl 2, .sl 3, .sl 4, .hole, .sl 5, .sl 6, .sl 7, .sl 8, .sl 9])), hh], [], [(87, (.int .u64), .own), (190, sh5, .own), (126, sh3, .own), (159, sh4, .own), (156, sh9, .own), (225, sh6, .own), (105, sh10, .own), (3, (.int .i64), .own), (3, (.int .i64), .own), (122, sh8, .own)]⟩, (ki 4 [.bool, .row (.int .u64), .row sh5, .row sh3, .row sh4, .row sh9, .row sh6, .row sh10, .row (.int .i64), .row (.int .i64), .row sh8])⟩
noncomputable def E17 : Fun2 := eOf sg17 S.EngNew
theorem ev17 (a : Args sg17.ks) : evS Tryz.prog G17 L17 (0, 0) [] Tryz.f17 c17 (kOf sg17) (sg17.sk.fl (encP sg17.ks a)) = unc sg17.ks S.EngNew a := by kernel_rfl
theorem good17 : Vm.Good Tryz.prog 17 E17 := good_gen (G := G17) (L := L17) (c := c17) (rn := []) (N := (0, 0)) (envCons_good good58 (envCons_good good59 (envCons_good good60 (envCons_good good61 envNil_good)))) lp17 Tryz.func17 (by kernel_rfl) (by kernel_rfl) (fun _ => by kernel_rfl) ev17
noncomputable def G127 : Env := envNil
noncomputable def c127 : Code := bodyOf Tryz.f127
noncomputable def I.in (a1 a2 a3 : Int) : Option Bool :=
(bif (decide (a2 ≤ a1)) then
(some (decide (a1 ≤ a3)))
else
(some false))
noncomputable def sg127 : Sg := ⟨⟨[hh, hh, hh], [], []⟩, (ki 3 []), ⟨[hh], [], []⟩, [.bool]⟩
noncomputable def E127 : Fun2 := eOf sg127 I.in
theorem ev127 (a : Args sg127.ks) : evS Tryz.prog G127 loopNil (0, 0) [] Tryz.f127 c127 (kOf sg127) (sg127.sk.fl (encP sg127.ks a)) = unc sg127.ks I.in a := by kernel_rfl
theorem good127 : Vm.Good Tryz.prog 127 E127 := good_gen (G := G127) (L := loopNil) (c := c127) (rn := []) (N := (0, 0)) envNil_good (no_loops (c := c127) (by kernel_rfl)) Tryz.func127 (by kernel_rfl) (by kernel_rfl) (fun _ => by kernel_rfl) ev127
noncomputable def G170 : Env := envNil
noncomputable def c170 : Code := bodyOf Tryz.f170
noncomputable def I.Lat_le (a1 a2 a3 : Int) (a4 : List Int) : Option Bool :=
(bif decide ((0 : Int) ≤ a2 ∧ a2 < (a4.length : Int)) then
(bif decide ((0 : Int) ≤ a3) then
(let v5 : Int := (Int.fdiv (nthI a4 a2 (0 : Int)) (2 ^ min (Int.toNat a3) (IntKind.bits .u64)))
(some ((Go.bits .and .u64 v5 1) == 1)))
else
none)
else
none)
noncomputable def sg170 : Sg := ⟨⟨[.agg [.hole, .sl 0], hh, hh], [], [(87, (.int .u64), .ro)]⟩, (ki 3 [.row (.int .u64)]), ⟨[hh], [], []⟩, [.bool]⟩
noncomputable def E170 : Fun2 := eOf sg170 I.Lat_le
theorem ev170 (a : Args sg170.ks) : evS Tryz.prog G170 loopNil (0, 0) [] Tryz.f170 c170 (kOf sg170) (sg170.sk.fl (encP sg170.ks a)) = unc sg170.ks I.Lat_le a := by kernel_rfl
theorem good170 : Vm.Good Tryz.prog 170 E170 := good_gen (G := G170) (L := loopNil) (c := c170) (rn := []) (N := (0, 0)) envNil_good (no_loops (c := c170) (by kernel_rfl)) Tryz.func170 (by kernel_rfl) (by kernel_rfl) (fun _ => by kernel_rfl) ev170
noncomputable def G223 : Env := (envCons 170 [] E170 envNil)
noncomputable def c223 : Code := bodyOf Tryz.f223
noncomputable def c223_2 : Code := (loopsOf c223).getD 0 .skip
noncomputable def c223_7 : Code := (loopsOf c223_2).getD 0 .skip
noncomputable def c223_12 : Code := (loopsOf c223_7).getD 0 .skip
noncomputable def I.Lat_isOrder_l2 : Nat → (Bool → Int → Int → Int → Int → Int → Int → List Int → Option Bool) → (Int → Int → Int → Int → Int → Int → List Int → Option Bool) → Int → Int → Int → Int → Int → Int → Int → Int → Int → List Int → Option Bool
  | 0, _, _, _, _, _, _, _, _, _, _, _, _ => none
  | m + 1, e12_0, e12_1, a19, a20, a21, a22, a23, a24, a25, a26, a27, a28 =>
    (bif (decide (a26 < a25)) then
    (Option.bind (I.Lat_le a27 a19 a20 a28) fun r30 =>
    (bif r30 then
    (Option.bind (I.Lat_le a27 a20 a26 a28) fun r31 =>
    (bif r31 then
    (Option.bind (I.Lat_le a27 a19 a26 a28) fun r32 =>
    (bif (!r32) then
    (e12_0 false a19 a21 a22 a23 a24 a27 a28)
    else
    (I.Lat_isOrder_l2 m e12_0 e12_1 a19 a20 a21 a22 a23 a24 a25 (IntKind.wrap .i64 (a26 + 1)) a27 a28)))
    else
    (I.Lat_isOrder_l2 m e12_0 e12_1 a19 a20 a21 a22 a23 a24 a25 (IntKind.wrap .i64 (a26 + 1)) a27 a28)))
    else
    (I.Lat_isOrder_l2 m e12_0 e12_1 a19 a20 a21 a22 a23 a24 a25 (IntKind.wrap .i64 (a26 + 1)) a27 a28)))
    else
    (e12_1 a19 a21 a22 a23 a24 a27 a28))
noncomputable def I.Lat_isOrder_l1 : Nat → (Bool → Int → Int → Int → List Int → Option Bool) → (Int → Int → Int → List Int → Option Bool) → Int → Int → Int → Int → Int → Int → List Int → Option Bool
  | 0, _, _, _, _, _, _, _, _, _ => none
  | m + 1, e7_0, e7_1, a9, a10, a11, a12, a13, a14, a15 =>
    (bif (decide (a13 < a12)) then
    (bif (a9 != a13) then
    (Option.bind (I.Lat_le a14 a9 a13 a15) fun r17 =>
    (bif r17 then
    (Option.bind (I.Lat_le a14 a13 a9 a15) fun r18 =>
    (bif r18 then
    (e7_0 false a10 a11 a14 a15)
    else
    (I.Lat_isOrder_l2 fu (fun y36 y37 y38 y39 y40 y41 y42 y43 =>
    (e7_0 y36 y38 y39 y42 y43)) (fun y44 y45 y46 y47 y48 y49 y50 =>
    (I.Lat_isOrder_l1 m e7_0 e7_1 y44 y45 y46 y47 (IntKind.wrap .i64 (y48 + 1)) y49 y50)) a9 a13 a10 a11 a12 a13 a14 0 a14 a15)))
    else
    (I.Lat_isOrder_l2 fu (fun y52 y53 y54 y55 y56 y57 y58 y59 =>
    (e7_0 y52 y54 y55 y58 y59)) (fun y60 y61 y62 y63 y64 y65 y66 =>
    (I.Lat_isOrder_l1 m e7_0 e7_1 y60 y61 y62 y63 (IntKind.wrap .i64 (y64 + 1)) y65 y66)) a9 a13 a10 a11 a12 a13 a14 0 a14 a15)))
    else
    (I.Lat_isOrder_l2 fu (fun y68 y69 y70 y71 y72 y73 y74 y75 =>
    (e7_0 y68 y70 y71 y74 y75)) (fun y76 y77 y78 y79 y80 y81 y82 =>
    (I.Lat_isOrder_l1 m e7_0 e7_1 y76 y77 y78 y79 (IntKind.wrap .i64 (y80 + 1)) y81 y82)) a9 a13 a10 a11 a12 a13 a14 0 a14 a15))
    else
    (e7_1 a10 a11 a14 a15))
noncomputable def I.Lat_isOrder_l0 : Nat → (Bool → Option Bool) → (Option Bool) → Int → Int → Int → List Int → Option Bool
  | 0, _, _, _, _, _, _ => none
  | m + 1, e2_0, e2_1, a3, a4, a5, a6 =>
    (bif (decide (a4 < a3)) then
    (Option.bind (I.Lat_le a5 a4 a4 a6) fun r8 =>
    (bif (!r8) then
    (e2_0 false)
    else
    (I.Lat_isOrder_l1 fu (fun y84 y85 y86 y87 y88 =>
    (e2_0 y84)) (fun y89 y90 y91 y92 =>
    (I.Lat_isOrder_l0 m e2_0 e2_1 y89 (IntKind.wrap .i64 (y90 + 1)) y91 y92)) a4 a3 a4 a5 0 a5 a6)))
    else
    e2_1)
noncomputable def I.Lat_isOrder (a1 : Int) (a2 : List Int) : Option Bool :=
(I.Lat_isOrder_l0 fu (fun y94 =>
(some y94)) (some true) a1 0 a1 a2)
noncomputable def H223_12 : LoopH := ⟨⟨((.one (.unk)) :: (.one (.ptr 0 0)) :: (.one (.unk)) :: hh :: hh :: (hu 2 (hh :: hh :: (hu 8 (hh :: hh :: (hu 18 (hh :: hh :: (hu 22 [])))))))), [(44, [.hole, .sl 0])], [(87, (.int .u64), .ro)]⟩, ([0, 2, 5, 6] ++ rg 9 8 ++ rg 19 18 ++ rg 39 22), [], ([0, 4, 5, 6] ++ rg 9 8 ++ rg 19 42), [], []⟩
noncomputable def k223_12 : List PK := (ki 9 [.row (.int .u64)])
noncomputable def W223_12 (m : Nat) (k : Kont Bool) : Cur k223_12 (Option Bool) := I.Lat_isOrder_l2 m (exF k .ret ⟨((.one (.unk)) :: (.one (.ptr 0 0)) :: hh :: hh :: (hu 3 (hh :: hh :: (hu 8 (hh :: hh :: (hu 42 [])))))), [(44, [.hole, .sl 0])], [(87, (.int .u64), .ro)]⟩ ((.bool) :: (ki 6 [.row (.int .u64)]))) (exF k (.exit 4) ⟨((.one (.unk)) :: (.one (.ptr 0 0)) :: (.one (.unk)) :: hh :: (hu 3 (hh :: hh :: (hu 8 (hh :: hh :: (hu 42 [])))))), [(44, [.hole, .sl 0])], [(87, (.int .u64), .ro)]⟩ (ki 6 [.row (.int .u64)]))
noncomputable def E223_12 (m : Nat) : List Prm → Kont Bool → Option Bool := eL k223_12 (W223_12 m)
theorem ev223_12 (m : Nat) (k : Kont Bool) (a : Args k223_12) : evL Tryz.prog G223 loopNil c223_12 (turn Tryz.prog (0, 0) H223_12 (E223_12 m) k) (H223_12.sk.fl (encP k223_12 a)) = unc k223_12 (W223_12 (m + 1) k) a := by kernel_rfl
theorem ok223_12 (m : Nat) : LoopOk Tryz.prog (0, 0) c223_12 (enter Tryz.prog (0, 0) H223_12 (E223_12 m)) := loop_gen (Fl := W223_12) (G := G223) (L := loopNil) (envCons_good good170 envNil_good) (no_loops (c := c223_12) (by kernel_rfl)) (fun _ _ => by kernel_rfl) ev223_12 m
noncomputable def L223_7 : LEnv Bool := (loopCons 12 (enter Tryz.prog (0, 0) H223_12 (E223_12 fu)) loopNil)
theorem lq223_7 : loopsOf c223_7 = [c223_12] := by kernel_rfl
theorem fr223_12 : firstReg c223_12 = some 12 := by kernel_rfl
theorem le223_12 : L223_7 12 = enter Tryz.prog (0, 0) H223_12 (E223_12 fu) := by kernel_rfl
theorem lm223_7 : ∀ x ∈ [c223_12], ∀ id, firstReg x = some id → LoopOk Tryz.prog (0, 0) x (L223_7 id) := (loops_cons fr223_12 le223_12 (ok223_12 fu) loops_nil)
theorem lp223_7 : ∀ x ∈ loopsOf c223_7, ∀ id, firstReg x = some id → LoopOk Tryz.prog (0, 0) x (L223_7 id) := loops_eq lq223_7 lm223_7
noncomputable def H223_7 : LoopH := ⟨⟨((.one (.unk)) :: (.one (.ptr 0 0)) :: (.one (.unk)) :: hh :: (hu 3 (hh :: hh :: (hu 8 (hh :: hh :: (hu 42 [])))))), [(44, [.hole, .sl 0])], [(87, (.int .u64), .ro)]⟩, ([0, 2, 4, 5, 6] ++ rg 9 8 ++ rg 19 42), [], ([0] ++ rg 3 4 ++ rg 9 52), [], []⟩
noncomputable def k223_7 : List PK := (ki 6 [.row (.int .u64)])
noncomputable def W223_7 (m : Nat) (k : Kont Bool) : Cur k223_7 (Option Bool) := I.Lat_isOrder_l1 m (exF k .ret ⟨((.one (.unk)) :: (.one (.ptr 0 0)) :: hh :: (hu 4 (hh :: hh :: (hu 52 [])))), [(44, [.hole, .sl 0])], [(87, (.int .u64), .ro)]⟩ ((.bool) :: (ki 3 [.row (.int .u64)]))) (exF k (.exit 2) ⟨((.one (.unk)) :: (.one (.ptr 0 0)) :: (hu 5 (hh :: hh :: (hu 52 [])))), [(44, [.hole, .sl 0])], [(87, (.int .u64), .ro)]⟩ (ki 3 [.row (.int .u64)]))
noncomputable def E223_7 (m : Nat) : List Prm → Kont Bool → Option Bool := eL k223_7 (W223_7 m)
theorem ev223_7 (m : Nat) (k : Kont Bool) (a : Args k223_7) : evL Tryz.prog G223 L223_7 c223_7 (turn Tryz.prog (0, 0) H223_7 (E223_7 m) k) (H223_7.sk.fl (encP k223_7 a)) = unc k223_7 (W223_7 (m + 1) k) a := by kernel_rfl
theorem ok223_7 (m : Nat) : LoopOk Tryz.prog (0, 0) c223_7 (enter Tryz.prog (0, 0) H223_7 (E223_7 m)) := loop_gen (Fl := W223_7) (G := G223) (L := L223_7) (envCons_good good170 envNil_good) lp223_7 (fun _ _ => by kernel_rfl) ev223_7 m
noncomputable def L223_2 : LEnv Bool := (loopCons 7 (enter Tryz.prog (0, 0) H223_7 (E223_7 fu)) loopNil)
theorem lq223_2 : loopsOf c223_2 = [c223_7] := by kernel_rfl
theorem fr223_7 : firstReg c223_7 = some 7 := by kernel_rfl
theorem le223_7 : L223_2 7 = enter Tryz.prog (0, 0) H223_7 (E223_7 fu) := by kernel_rfl
theorem lm223_2 : ∀ x ∈ [c223_7], ∀ id, firstReg x = some id → LoopOk Tryz.prog (0, 0) x (L223_2 id) := (loops_cons fr223_7 le223_7 (ok223_7 fu) loops_nil)
theorem lp223_2 : ∀ x ∈ loopsOf c223_2, ∀ id, firstReg x = some id → LoopOk Tryz.prog (0, 0) x (L223_2 id) := loops_eq lq223_2 lm223_2
noncomputable def H223_2 : LoopH := ⟨⟨((.one (.unk)) :: (.one (.ptr 0 0)) :: (hu 5 (hh :: hh :: (hu 52 [])))), [(44, [.hole, .sl 0])], [(87, (.int .u64), .ro)]⟩, ([0] ++ rg 2 5 ++ rg 9 52), [], ([0, 1] ++ rg 3 58), [], []⟩
noncomputable def k223_2 : List PK := (ki 3 [.row (.int .u64)])
noncomputable def W223_2 (m : Nat) (k : Kont Bool) : Cur k223_2 (Option Bool) := I.Lat_isOrder_l0 m (exF k .ret ⟨(hu 2 (hh :: (hu 58 []))), [], []⟩ [.bool]) (exF k (.exit 0) ⟨(hu 61 []), [], []⟩ [])
noncomputable def E223_2 (m : Nat) : List Prm → Kont Bool → Option Bool := eL k223_2 (W223_2 m)
theorem ev223_2 (m : Nat) (k : Kont Bool) (a : Args k223_2) : evL Tryz.prog G223 L223_2 c223_2 (turn Tryz.prog (0, 0) H223_2 (E223_2 m) k) (H223_2.sk.fl (encP k223_2 a)) = unc k223_2 (W223_2 (m + 1) k) a := by kernel_rfl
theorem ok223_2 (m : Nat) : LoopOk Tryz.prog (0, 0) c223_2 (enter Tryz.prog (0, 0) H223_2 (E223_2 m)) := loop_gen (Fl := W223_2) (G := G223) (L := L223_2) (envCons_good good170 envNil_good) lp223_2 (fun _ _ => by kernel_rfl) ev223_2 m
noncomputable def L223 : LEnv Bool := (loopCons 2 (enter Tryz.prog (0, 0) H223_2 (E223_2 fu)) loopNil)
theorem lq223 : loopsOf c223 = [c223_2] := by kernel_rfl
theorem fr223_2 : firstReg c223_2 = some 2 := by kernel_rfl
theorem le223_2 : L223 2 = enter Tryz.prog (0, 0) H223_2 (E223_2 fu) := by kernel_rfl
theorem lm223 : ∀ x ∈ [c223_2], ∀ id, firstReg x = some id → LoopOk Tryz.prog (0, 0) x (L223 id) := (loops_cons fr223_2 le223_2 (ok223_2 fu) loops_nil)
theorem lp223 : ∀ x ∈ loopsOf c223, ∀ id, firstReg x = some id → LoopOk Tryz.prog (0, 0) x (L223 id) := loops_eq lq223 lm223
noncomputable def sg223 : Sg := ⟨⟨[.agg [.hole, .sl 0]], [], [(87, (.int .u64), .ro)]⟩, [.int .i64, .row (.int .u64)], ⟨[hh], [], []⟩, [.bool]⟩
noncomputable def E223 : Fun2 := eOf sg223 I.Lat_isOrder
theorem ev223 (a : Args sg223.ks) : evS Tryz.prog G223 L223 (0, 0) [] Tryz.f223 c223 (kOf sg223) (sg223.sk.fl (encP sg223.ks a)) = unc sg223.ks I.Lat_isOrder a := by kernel_rfl
theorem good223 : Vm.Good Tryz.prog 223 E223 := good_gen (G := G223) (L := L223) (c := c223) (rn := []) (N := (0, 0)) (envCons_good good170 envNil_good) lp223 Tryz.func223 (by kernel_rfl) (by kernel_rfl) (fun _ => by kernel_rfl) ev223
noncomputable def G271 : Env := (envCons 170 [] E170 envNil)
noncomputable def c271 : Code := bodyOf Tryz.f271
noncomputable def I.Lat_bound_1 (a1 a2 : Int) (a3 : Bool) (a4 : Int) (a5 : List Int) : Option (Bool × Bool × Int × List Int) :=
(bif a3 then
(Option.bind (I.Lat_le a4 a1 a2 a5) fun r6 =>
(some (r6, a3, a4, a5)))
else
(Option.bind (I.Lat_le a4 a2 a1 a5) fun r7 =>
(some (r7, a3, a4, a5))))
noncomputable def sg271 : Sg := ⟨⟨[hh, hh, .one (.ptr 0 0), .one (.ptr 1 0)], [(4, [.hole]), (44, [.hole, .sl 0])], [(87, (.int .u64), .rop)]⟩, (ki 2 [.bool, .int .i64, .row (.int .u64)]), ⟨[hh], [(4, [.hole]), (44, [.hole, .sl 0])], [(87, (.int .u64), .rop)]⟩, [.bool, .bool, .int .i64, .row (.int .u64)]⟩
noncomputable def E271 : Fun2 := eOf sg271 I.Lat_bound_1
theorem ev271 (a : Args sg271.ks) : evS Tryz.prog G271 loopNil (2, 1) [] Tryz.f271 c271 (kOf sg271) (sg271.sk.fl (encP sg271.ks a)) = unc sg271.ks I.Lat_bound_1 a := by kernel_rfl
theorem good271 : Vm.Good Tryz.prog 271 E271 := good_gen (G := G271) (L := loopNil) (c := c271) (rn := []) (N := (2, 1)) (envCons_good good170 envNil_good) (no_loops (c := c271) (by kernel_rfl)) Tryz.func271 (by kernel_rfl) (by kernel_rfl) (fun _ => by kernel_rfl) ev271
noncomputable def G224 : Env := (envCons 271 [] E271 envNil)
noncomputable def c224 : Code := bodyOf Tryz.f224
noncomputable def c224_3 : Code := (loopsOf c224).getD 0 .skip
noncomputable def c224_8 : Code := (loopsOf c224_3).getD 0 .skip
noncomputable def I.Lat_bound_l1 : Nat → (Int → Int → Int → Bool → Int → Int → Int → Bool → List Int → Option Int) → Int → Int → Int → Bool → Int → Int → Int → Int → Int → Bool → List Int → Option Int
  | 0, _, _, _, _, _, _, _, _, _, _, _, _ => none
  | m + 1, e8_0, a18, a19, a20, a21, a22, a23, a24, a25, a26, a27, a28 =>
    (bif (decide (a25 < a24)) then
    (Option.bind (I.Lat_bound_1 a18 a25 a27 a26 a28) fun r30 =>
    (bif r30.1 then
    (Option.bind (I.Lat_bound_1 a19 a25 r30.2.1 r30.2.2.1 a28) fun r31 =>
    (bif r31.1 then
    (Option.bind (I.Lat_bound_1 a20 a25 r31.2.1 r31.2.2.1 a28) fun r32 =>
    (bif (!r32.1) then
    (I.Lat_bound_l1 m e8_0 a18 a19 a20 false a22 a23 a24 (IntKind.wrap .i64 (a25 + 1)) r32.2.2.1 r32.2.1 a28)
    else
    (I.Lat_bound_l1 m e8_0 a18 a19 a20 a21 a22 a23 a24 (IntKind.wrap .i64 (a25 + 1)) r32.2.2.1 r32.2.1 a28)))
    else
    (I.Lat_bound_l1 m e8_0 a18 a19 a20 a21 a22 a23 a24 (IntKind.wrap .i64 (a25 + 1)) r31.2.2.1 r31.2.1 a28)))
    else
    (I.Lat_bound_l1 m e8_0 a18 a19 a20 a21 a22 a23 a24 (IntKind.wrap .i64 (a25 + 1)) r30.2.2.1 r30.2.1 a28)))
    else
    (e8_0 a18 a19 a20 a21 a22 a23 a26 a27 a28))
noncomputable def I.Lat_bound_l0 : Nat → (Int → Option Int) → (Option Int) → Int → Int → Int → Int → Int → Bool → List Int → Option Int
  | 0, _, _, _, _, _, _, _, _, _ => none
  | m + 1, e3_0, e3_1, a6, a7, a8, a9, a10, a11, a12 =>
    (bif (decide (a9 < a8)) then
    (Option.bind (I.Lat_bound_1 a6 a9 a11 a10 a12) fun r14 =>
    (bif (!r14.1) then
    (I.Lat_bound_l0 m e3_0 e3_1 a6 a7 a8 (IntKind.wrap .i64 (a9 + 1)) r14.2.2.1 r14.2.1 a12)
    else
    (Option.bind (I.Lat_bound_1 a7 a9 r14.2.1 r14.2.2.1 a12) fun r16 =>
    (bif (!r16.1) then
    (I.Lat_bound_l0 m e3_0 e3_1 a6 a7 a8 (IntKind.wrap .i64 (a9 + 1)) r16.2.2.1 r16.2.1 a12)
    else
    (I.Lat_bound_l1 fu (fun y37 y38 y39 y40 y41 y42 y43 y44 y45 =>
    (bif y40 then
    (e3_0 y39)
    else
    (I.Lat_bound_l0 m e3_0 e3_1 y37 y38 y41 (IntKind.wrap .i64 (y42 + 1)) y43 y44 y45))) a6 a7 a9 true a8 a9 r16.2.2.1 0 r16.2.2.1 r16.2.1 a12)))))
    else
    e3_1)
noncomputable def I.Lat_bound (a1 a2 a3 : Int) (a4 : Bool) (a5 : List Int) : Option Int :=
(I.Lat_bound_l0 fu (fun y47 =>
(some y47)) (some (-1)) a2 a3 a1 0 a1 a4 a5)
noncomputable def H224_8 : LoopH := ⟨⟨((.one (.unk)) :: hh :: hh :: (.one (.unk)) :: (.one (.ptr 0 0)) :: (hu 4 ((.one (.fn 271 [(1, 0), (0, 0)])) :: hh :: hh :: (hu 3 (hh :: hh :: (hu 15 (hh :: hh :: (hu 23 [])))))))), [(44, [.hole, .sl 0]), (4, [.hole])], [(87, (.int .u64), .ro)]⟩, ([0, 3] ++ rg 5 4 ++ [12, 13, 14] ++ rg 17 15 ++ rg 34 23), [], ([0, 3, 5, 6, 7, 12, 13, 14] ++ rg 17 40), [], []⟩
noncomputable def k224_8 : List PK := (ki 3 ((.bool) :: (ki 5 [.bool, .row (.int .u64)])))
noncomputable def W224_8 (m : Nat) (k : Kont Int) : Cur k224_8 (Option Int) := I.Lat_bound_l1 m (exF k (.exit 2) ⟨((.one (.unk)) :: hh :: hh :: (.one (.unk)) :: (.one (.ptr 0 0)) :: (hu 4 ((.one (.fn 271 [(1, 0), (0, 0)])) :: hh :: hh :: (hu 3 (hh :: hh :: (hu 40 [])))))), [(44, [.hole, .sl 0]), (4, [.hole])], [(87, (.int .u64), .ro)]⟩ (ki 3 ((.bool) :: (ki 3 [.bool, .row (.int .u64)]))))
noncomputable def E224_8 (m : Nat) : List Prm → Kont Int → Option Int := eL k224_8 (W224_8 m)
theorem ev224_8 (m : Nat) (k : Kont Int) (a : Args k224_8) : evL Tryz.prog G224 loopNil c224_8 (turn Tryz.prog (0, 0) H224_8 (E224_8 m) k) (H224_8.sk.fl (encP k224_8 a)) = unc k224_8 (W224_8 (m + 1) k) a := by kernel_rfl
theorem ok224_8 (m : Nat) : LoopOk Tryz.prog (0, 0) c224_8 (enter Tryz.prog (0, 0) H224_8 (E224_8 m)) := loop_gen (Fl := W224_8) (G := G224) (L := loopNil) (envCons_good good271 envNil_good) (no_loops (c := c224_8) (by kernel_rfl)) (fun _ _ => by kernel_rfl) ev224_8 m
noncomputable def L224_3 : LEnv Int := (loopCons 8 (enter Tryz.prog (0, 0) H224_8 (E224_8 fu)) loopNil)
theorem lq224_3 : loopsOf c224_3 = [c224_8] := by kernel_rfl
theorem fr224_8 : firstReg c224_8 = some 8 := by kernel_rfl
theorem le224_8 : L224_3 8 = enter Tryz.prog (0, 0) H224_8 (E224_8 fu) := by kernel_rfl
theorem lm224_3 : ∀ x ∈ [c224_8], ∀ id, firstReg x = some id → LoopOk Tryz.prog (0, 0) x (L224_3 id) := (loops_cons fr224_8 le224_8 (ok224_8 fu) loops_nil)
theorem lp224_3 : ∀ x ∈ loopsOf c224_3, ∀ id, firstReg x = some id → LoopOk Tryz.prog (0, 0) x (L224_3 id) := loops_eq lq224_3 lm224_3
noncomputable def H224_3 : LoopH := ⟨⟨((.one (.unk)) :: hh :: hh :: (.one (.unk)) :: (.one (.ptr 0 0)) :: (hu 4 ((.one (.fn 271 [(1, 0), (0, 0)])) :: (hu 5 (hh :: hh :: (hu 40 [])))))), [(44, [.hole, .sl 0]), (4, [.hole])], [(87, (.int .u64), .ro)]⟩, ([0, 3] ++ rg 5 4 ++ rg 10 5 ++ rg 17 40), [], (rg 0 8 ++ rg 9 48), [], []⟩
noncomputable def k224_3 : List PK := (ki 5 [.bool, .row (.int .u64)])
noncomputable def W224_3 (m : Nat) (k : Kont Int) : Cur k224_3 (Option Int) := I.Lat_bound_l0 m (exF k .ret ⟨(hu 8 (hh :: (hu 48 []))), [], []⟩ [.int .i64]) (exF k (.exit 0) ⟨(hu 57 []), [], []⟩ [])
noncomputable def E224_3 (m : Nat) : List Prm → Kont Int → Option Int := eL k224_3 (W224_3 m)
theorem ev224_3 (m : Nat) (k : Kont Int) (a : Args k224_3) : evL Tryz.prog G224 L224_3 c224_3 (turn Tryz.prog (0, 0) H224_3 (E224_3 m) k) (H224_3.sk.fl (encP k224_3 a)) = unc k224_3 (W224_3 (m + 1) k) a := by kernel_rfl
theorem ok224_3 (m : Nat) : LoopOk Tryz.prog (0, 0) c224_3 (enter Tryz.prog (0, 0) H224_3 (E224_3 m)) := loop_gen (Fl := W224_3) (G := G224) (L := L224_3) (envCons_good good271 envNil_good) lp224_3 (fun _ _ => by kernel_rfl) ev224_3 m
noncomputable def L224 : LEnv Int := (loopCons 3 (enter Tryz.prog (0, 0) H224_3 (E224_3 fu)) loopNil)
theorem lq224 : loopsOf c224 = [c224_3] := by kernel_rfl
theorem fr224_3 : firstReg c224_3 = some 3 := by kernel_rfl
theorem le224_3 : L224 3 = enter Tryz.prog (0, 0) H224_3 (E224_3 fu) := by kernel_rfl
theorem lm224 : ∀ x ∈ [c224_3], ∀ id, firstReg x = some id → LoopOk Tryz.prog (0, 0) x (L224 id) := (loops_cons fr224_3 le224_3 (ok224_3 fu) loops_nil)
theorem lp224 : ∀ x ∈ loopsOf c224, ∀ id, firstReg x = some id → LoopOk Tryz.prog (0, 0) x (L224 id) := loops_eq lq224 lm224
noncomputable def sg224 : Sg := ⟨⟨[.agg [.hole, .sl 0], hh, hh, hh], [], [(87, (.int .u64), .ro)]⟩, (ki 3 [.bool, .row (.int .u64)]), ⟨[hh], [], []⟩, [.int .i64]⟩
noncomputable def E224 : Fun2 := eOf sg224 I.Lat_bound
theorem ev224 (a : Args sg224.ks) : evS Tryz.prog G224 L224 (0, 0) [] Tryz.f224 c224 (kOf sg224) (sg224.sk.fl (encP sg224.ks a)) = unc sg224.ks I.Lat_bound a := by kernel_rfl
theorem good224 : Vm.Good Tryz.prog 224 E224 := good_gen (G := G224) (L := L224) (c := c224) (rn := []) (N := (0, 0)) (envCons_good good271 envNil_good) lp224 Tryz.func224 (by kernel_rfl) (by kernel_rfl) (fun _ => by kernel_rfl) ev224
noncomputable def G145 : Env := (envCons 127 [] E127 (envCons 223 [] E223 (envCons 224 [] E224 envNil)))
noncomputable def c145 : Code := bodyOf Tryz.f145
noncomputable def c145_4 : Code := (loopsOf c145).getD 0 .skip
noncomputable def c145_12 : Code := (loopsOf c145).getD 1 .skip
noncomputable def c145_15 : Code := (loopsOf c145_12).getD 0 .skip
noncomputable def I.isLat_l0 : Nat → (Bool → Int → List Int → Option Bool) → (Int → List Int → Option Bool) → Int → Int → Int → List Int → Option Bool
  | 0, _, _, _, _, _, _ => none
  | m + 1, e4_0, e4_1, a6, a7, a8, a9 =>
    (bif (decide (a7 < a6)) then
    (bif decide ((0 : Int) ≤ a7 ∧ a7 < (a9.length : Int)) then
    (bif decide ((0 : Int) ≤ a8) then
    (bif ((Int.fdiv (nthI a9 a7 (0 : Int)) (2 ^ min (Int.toNat a8) (IntKind.bits .u64))) != 0) then
    (e4_0 false a8 a9)
    else
    (I.isLat_l0 m e4_0 e4_1 a6 (IntKind.wrap .i64 (a7 + 1)) a8 a9))
    else
    none)
    else
    none)
    else
    (e4_1 a8 a9))
noncomputable def I.isLat_l2 : Nat → (Bool → Int → Int → Int → List Int → Option Bool) → (Int → Int → Int → List Int → Option Bool) → Int → Int → Int → Int → Int → Int → List Int → Option Bool
  | 0, _, _, _, _, _, _, _, _, _ => none
  | m + 1, e15_0, e15_1, a25, a26, a27, a28, a29, a30, a31 =>
    (bif (decide (a29 < a28)) then
    (Option.bind (I.Lat_bound a30 a25 a29 true a31) fun r33 =>
    (bif (decide (r33 < 0)) then
    (e15_0 false a26 a27 a30 a31)
    else
    (Option.bind (I.Lat_bound a30 a25 a29 false a31) fun r35 =>
    (bif (decide (r35 < 0)) then
    (e15_0 false a26 a27 a30 a31)
    else
    (I.isLat_l2 m e15_0 e15_1 a25 a26 a27 a28 (IntKind.wrap .i64 (a29 + 1)) a30 a31)))))
    else
    (e15_1 a26 a27 a30 a31))
noncomputable def I.isLat_l1 : Nat → (Bool → Option Bool) → (Option Bool) → Int → Int → Int → List Int → Option Bool
  | 0, _, _, _, _, _, _ => none
  | m + 1, e12_0, e12_1, a20, a21, a22, a23 =>
    (bif (decide (a21 < a20)) then
    (I.isLat_l2 fu (fun y38 y39 y40 y41 y42 =>
    (e12_0 y38)) (fun y43 y44 y45 y46 =>
    (I.isLat_l1 m e12_0 e12_1 y43 (IntKind.wrap .i64 (y44 + 1)) y45 y46)) a21 a20 a21 a22 0 a22 a23)
    else
    e12_1)
noncomputable def I.isLat (a1 : Int) (a2 : List Int) : Option Bool :=
(Option.bind (I.in a1 1 16) fun r3 =>
(bif (!r3) then
(some false)
else
(bif ((a2.length : Int) != a1) then
(some false)
else
(I.isLat_l0 fu (fun y14 y15 y16 =>
(some y14)) (fun y17 y18 =>
(Option.bind (I.Lat_isOrder y17 y18) fun r19 =>
(bif (!r19) then
(some false)
else
(I.isLat_l1 fu (fun y48 =>
(some y48)) (some true) y17 0 y17 y18)))) (a2.length : Int) 0 a1 a2))))
noncomputable def H145_4 : LoopH := ⟨⟨((.one (.unk)) :: (.one (.ptr 0 0)) :: (hu 18 ((.one (.sl 0)) :: hh :: hh :: (hu 36 [])))), [(44, [.hole, .sl 0])], [(87, (.int .u64), .ro)]⟩, ([0] ++ rg 2 18 ++ rg 23 36), [], ([0] ++ rg 3 56), [], []⟩
noncomputable def k145_4 : List PK := (ki 3 [.row (.int .u64)])
noncomputable def W145_4 (m : Nat) (k : Kont Bool) : Cur k145_4 (Option Bool) := I.isLat_l0 m (exF k .ret ⟨((.one (.unk)) :: (.one (.ptr 0 0)) :: hh :: (hu 56 [])), [(44, [.hole, .sl 0])], [(87, (.int .u64), .ro)]⟩ [.bool, .int .i64, .row (.int .u64)]) (exF k (.exit 0) ⟨((.one (.unk)) :: (.one (.ptr 0 0)) :: (hu 57 [])), [(44, [.hole, .sl 0])], [(87, (.int .u64), .ro)]⟩ [.int .i64, .row (.int .u64)])
noncomputable def E145_4 (m : Nat) : List Prm → Kont Bool → Option Bool := eL k145_4 (W145_4 m)
theorem ev145_4 (m : Nat) (k : Kont Bool) (a : Args k145_4) : evL Tryz.prog G145 loopNil c145_4 (turn Tryz.prog (0, 0) H145_4 (E145_4 m) k) (H145_4.sk.fl (encP k145_4 a)) = unc k145_4 (W145_4 (m + 1) k) a := by kernel_rfl
theorem ok145_4 (m : Nat) : LoopOk Tryz.prog (0, 0) c145_4 (enter Tryz.prog (0, 0) H145_4 (E145_4 m)) := loop_gen (Fl := W145_4) (G := G145) (L := loopNil) (envCons_good good127 (envCons_good good223 (envCons_good good224 envNil_good))) (no_loops (c := c145_4) (by kernel_rfl)) (fun _ _ => by kernel_rfl) ev145_4 m
noncomputable def H145_15 : LoopH := ⟨⟨((.one (.unk)) :: (.one (.ptr 0 0)) :: (hu 3 (hh :: (hu 30 (hh :: hh :: (hu 3 (hh :: hh :: (hu 16 [])))))))), [(44, [.hole, .sl 0])], [(87, (.int .u64), .ro)]⟩, ([0, 2, 3, 4] ++ rg 6 30 ++ [38, 39, 40] ++ rg 43 16), [], ([0] ++ rg 3 33 ++ rg 38 21), [], []⟩
noncomputable def k145_15 : List PK := (ki 6 [.row (.int .u64)])
noncomputable def W145_15 (m : Nat) (k : Kont Bool) : Cur k145_15 (Option Bool) := I.isLat_l2 m (exF k .ret ⟨((.one (.unk)) :: (.one (.ptr 0 0)) :: hh :: (hu 33 (hh :: hh :: (hu 21 [])))), [(44, [.hole, .sl 0])], [(87, (.int .u64), .ro)]⟩ ((.bool) :: (ki 3 [.row (.int .u64)]))) (exF k (.exit 4) ⟨((.one (.unk)) :: (.one (.ptr 0 0)) :: (hu 34 (hh :: hh :: (hu 21 [])))), [(44, [.hole, .sl 0])], [(87, (.int .u64), .ro)]⟩ (ki 3 [.row (.int .u64)]))
noncomputable def E145_15 (m : Nat) : List Prm → Kont Bool → Option Bool := eL k145_15 (W145_15 m)
theorem ev145_15 (m : Nat) (k : Kont Bool) (a : Args k145_15) : evL Tryz.prog G145 loopNil c145_15 (turn Tryz.prog (0, 0) H145_15 (E145_15 m) k) (H145_15.sk.fl (encP k145_15 a)) = unc k145_15 (W145_15 (m + 1) k) a := by kernel_rfl
theorem ok145_15 (m : Nat) : LoopOk Tryz.prog (0, 0) c145_15 (enter Tryz.prog (0, 0) H145_15 (E145_15 m)) := loop_gen (Fl := W145_15) (G := G145) (L := loopNil) (envCons_good good127 (envCons_good good223 (envCons_good good224 envNil_good))) (no_loops (c := c145_15) (by kernel_rfl)) (fun _ _ => by kernel_rfl) ev145_15 m
noncomputable def L145_12 : LEnv Bool := (loopCons 15 (enter Tryz.prog (0, 0) H145_15 (E145_15 fu)) loopNil)
theorem lq145_12 : loopsOf c145_12 = [c145_15] := by kernel_rfl
theorem fr145_15 : firstReg c145_15 = some 15 := by kernel_rfl
theorem le145_15 : L145_12 15 = enter Tryz.prog (0, 0) H145_15 (E145_15 fu) := by kernel_rfl
theorem lm145_12 : ∀ x ∈ [c145_15], ∀ id, firstReg x = some id → LoopOk Tryz.prog (0, 0) x (L145_12 id) := (loops_cons fr145_15 le145_15 (ok145_15 fu) loops_nil)
theorem lp145_12 : ∀ x ∈ loopsOf c145_12, ∀ id, firstReg x = some id → LoopOk Tryz.prog (0, 0) x (L145_12 id) := loops_eq lq145_12 lm145_12
noncomputable def H145_12 : LoopH := ⟨⟨((.one (.unk)) :: (.one (.ptr 0 0)) :: (hu 34 (hh :: hh :: (hu 21 [])))), [(44, [.hole, .sl 0])], [(87, (.int .u64), .ro)]⟩, ([0] ++ rg 2 34 ++ rg 38 21), [], ([0, 1] ++ rg 3 56), [], []⟩
noncomputable def k145_12 : List PK := (ki 3 [.row (.int .u64)])
noncomputable def W145_12 (m : Nat) (k : Kont Bool) : Cur k145_12 (Option Bool) := I.isLat_l1 m (exF k .ret ⟨(hu 2 (hh :: (hu 56 []))), [], []⟩ [.bool]) (exF k (.exit 2) ⟨(hu 59 []), [], []⟩ [])
noncomputable def E145_12 (m : Nat) : List Prm → Kont Bool → Option Bool := eL k145_12 (W145_12 m)
theorem ev145_12 (m : Nat) (k : Kont Bool) (a : Args k145_12) : evL Tryz.prog G145 L145_12 c145_12 (turn Tryz.prog (0, 0) H145_12 (E145_12 m) k) (H145_12.sk.fl (encP k145_12 a)) = unc k145_12 (W145_12 (m + 1) k) a := by kernel_rfl
theorem ok145_12 (m : Nat) : LoopOk Tryz.prog (0, 0) c145_12 (enter Tryz.prog (0, 0) H145_12 (E145_12 m)) := loop_gen (Fl := W145_12) (G := G145) (L := L145_12) (envCons_good good127 (envCons_good good223 (envCons_good good224 envNil_good))) lp145_12 (fun _ _ => by kernel_rfl) ev145_12 m
noncomputable def L145 : LEnv Bool := (loopCons 4 (enter Tryz.prog (0, 0) H145_4 (E145_4 fu)) (loopCons 12 (enter Tryz.prog (0, 0) H145_12 (E145_12 fu)) loopNil))
theorem lq145 : loopsOf c145 = [c145_4, c145_12] := by kernel_rfl
theorem fr145_4 : firstReg c145_4 = some 4 := by kernel_rfl
theorem le145_4 : L145 4 = enter Tryz.prog (0, 0) H145_4 (E145_4 fu) := by kernel_rfl
theorem fr145_12 : firstReg c145_12 = some 12 := by kernel_rfl
theorem le145_12 : L145 12 = enter Tryz.prog (0, 0) H145_12 (E145_12 fu) := by kernel_rfl
theorem lm145 : ∀ x ∈ [c145_4, c145_12], ∀ id, firstReg x = some id → LoopOk Tryz.prog (0, 0) x (L145 id) := (loops_cons fr145_4 le145_4 (ok145_4 fu) (loops_cons fr145_12 le145_12 (ok145_12 fu) loops_nil))
theorem lp145 : ∀ x ∈ loopsOf c145, ∀ id, firstReg x = some id → LoopOk Tryz.prog (0, 0) x (L145 id) := loops_eq lq145 lm145
noncomputable def sg145 : Sg := ⟨⟨[.agg [.hole, .sl 0]], [], [(87, (.int .u64), .ro)]⟩, [.int .i64, .row (.int .u64)], ⟨[hh], [], []⟩, [.bool]⟩
noncomputable def E145 : Fun2 := eOf sg145 I.isLat
theorem ev145 (a : Args sg145.ks) : evS Tryz.prog G145 L145 (0, 0) [] Tryz.f145 c145 (kOf sg145) (sg145.sk.fl (encP sg145.ks a)) = unc sg145.ks I.isLat a := by kernel_rfl
theorem good145 : Vm.Good Tryz.prog 145 E145 := good_gen (G := G145) (L := L145) (c := c145) (rn := []) (N := (0, 0)) (envCons_good good127 (envCons_good good223 (envCons_good good224 envNil_good))) lp145 Tryz.func145 (by kernel_rfl) (by kernel_rfl) (fun _ => by kernel_rfl) ev145
noncomputable def G300 : Env := envNil
noncomputable def c300 : Code := bodyOf Tryz.f300
noncomputable def I.Tok_takes (a1 a2 : Int) : Option Int :=
(bif (decide (a1 ≤ 3)) then
(some 0)
else
(bif (a1 == 11) then
(some 1)
else
(some 2)))
noncomputable def sg300 : Sg := ⟨⟨[.agg (ho 2 [])], [], []⟩, (ki 2 []), ⟨[hh], [], []⟩, [.int .i64]⟩
noncomputable def E300 : Fun2 := eOf sg300 I.Tok_takes
theorem ev300 (a : Args sg300.ks) : evS Tryz.prog G300 loopNil (0, 0) [] Tryz.f300 c300 (kOf sg300) (sg300.sk.fl (encP sg300.ks a)) = unc sg300.ks I.Tok_takes a := by kernel_rfl
theorem good300 : Vm.Good Tryz.prog 300 E300 := good_gen (G := G300) (L := loopNil) (c := c300) (rn := []) (N := (0, 0)) envNil_good (no_loops (c := c300) (by kernel_rfl)) Tryz.func300 (by kernel_rfl) (by kernel_rfl) (fun _ => by kernel_rfl) ev300
noncomputable def G272 : Env := (envCons 127 [] E127 (envCons 300 [] E300 envNil))
noncomputable def c272 : Code := bodyOf Tryz.f272
noncomputable def c272_5 : Code := (loopsOf c272).getD 0 .skip
noncomputable def I.depth_l0 : Nat → (Int → Int → Int → Option Int) → (Int → Int → Option Int) → Int → Int → Int → Int → (List (Int × Int)) → Option Int
  | 0, _, _, _, _, _, _, _ => none
  | m + 1, e5_0, e5_1, a5, a6, a7, a8, a9 =>
    (bif (decide (a8 < a7)) then
    (bif decide ((0 : Int) ≤ a8 ∧ a8 < (a9.length : Int)) then
    (Option.bind (I.in ((nthI a9 a8 df2).1) 0 11) fun r11 =>
    (bif (!r11) then
    (e5_0 (-1) a5 a6)
    else
    (bif ((nthI a9 a8 df2).1 != 0) then
    (bif ((nthI a9 a8 df2).2 != 0) then
    (e5_0 (-1) a5 a6)
    else
    (Option.bind (I.Tok_takes ((nthI a9 a8 df2).1) ((nthI a9 a8 df2).2)) fun r14 =>
    (bif (decide (a5 < r14)) then
    (e5_0 (-1) a5 a6)
    else
    (Option.bind (I.Tok_takes ((nthI a9 a8 df2).1) ((nthI a9 a8 df2).2)) fun r16 =>
    (let v18 : Int := (IntKind.wrap .i64 (a5 + (IntKind.wrap .i64 (1 - r16))))
    (I.depth_l0 m e5_0 e5_1 v18 (if v18 > a6 then v18 else a6) a7 (IntKind.wrap .i64 (a8 + 1)) a9))))))
    else
    (Option.bind (I.Tok_takes ((nthI a9 a8 df2).1) ((nthI a9 a8 df2).2)) fun r21 =>
    (bif (decide (a5 < r21)) then
    (e5_0 (-1) a5 a6)
    else
    (Option.bind (I.Tok_takes ((nthI a9 a8 df2).1) ((nthI a9 a8 df2).2)) fun r23 =>
    (let v25 : Int := (IntKind.wrap .i64 (a5 + (IntKind.wrap .i64 (1 - r23))))
    (I.depth_l0 m e5_0 e5_1 v25 (if v25 > a6 then v25 else a6) a7 (IntKind.wrap .i64 (a8 + 1)) a9))))))))
    else
    none)
    else
    (e5_1 a5 a6))
noncomputable def I.depth (a1 : List (Int × Int)) : Option Int :=
(Option.bind (I.in (a1.length : Int) 1 20) fun r3 =>
(bif (!r3) then
(some (-1))
else
(I.depth_l0 fu (fun y28 y29 y30 =>
(some y28)) (fun y31 y32 =>
(bif (y31 != 1) then
(some (-1))
else
(some y32))) 0 0 (a1.length : Int) 0 a1)))
noncomputable def H272_5 : LoopH := ⟨⟨(hu 3 (hh :: hh :: (hu 6 ((.one (.sl 0)) :: hh :: hh :: (hu 35 []))))), [], [(255, sh1, .ro)]⟩, ([0, 1, 2] ++ rg 5 6 ++ rg 14 35), [], ([0, 1] ++ rg 5 44), [], []⟩
noncomputable def k272_5 : List PK := (ki 4 [.row sh1])
noncomputable def W272_5 (m : Nat) (k : Kont Int) : Cur k272_5 (Option Int) := I.depth_l0 m (exF k .ret ⟨(hu 2 (hh :: hh :: hh :: (hu 44 []))), [], []⟩ (ki 3 [])) (exF k (.exit 0) ⟨(hu 3 (hh :: hh :: (hu 44 []))), [], []⟩ (ki 2 []))
noncomputable def E272_5 (m : Nat) : List Prm → Kont Int → Option Int := eL k272_5 (W272_5 m)
theorem ev272_5 (m : Nat) (k : Kont Int) (a : Args k272_5) : evL Tryz.prog G272 loopNil c272_5 (turn Tryz.prog (0, 0) H272_5 (E272_5 m) k) (H272_5.sk.fl (encP k272_5 a)) = unc k272_5 (W272_5 (m + 1) k) a := by kernel_rfl
theorem ok272_5 (m : Nat) : LoopOk Tryz.prog (0, 0) c272_5 (enter Tryz.prog (0, 0) H272_5 (E272_5 m)) := loop_gen (Fl := W272_5) (G := G272) (L := loopNil) (envCons_good good127 (envCons_good good300 envNil_good)) (no_loops (c := c272_5) (by kernel_rfl)) (fun _ _ => by kernel_rfl) ev272_5 m
noncomputable def L272 : LEnv Int := (loopCons 5 (enter Tryz.prog (0, 0) H272_5 (E272_5 fu)) loopNil)
theorem lq272 : loopsOf c272 = [c272_5] := by kernel_rfl
theorem fr272_5 : firstReg c272_5 = some 5 := by kernel_rfl
theorem le272_5 : L272 5 = enter Tryz.prog (0, 0) H272_5 (E272_5 fu) := by kernel_rfl
theorem lm272 : ∀ x ∈ [c272_5], ∀ id, firstReg x = some id → LoopOk Tryz.prog (0, 0) x (L272 id) := (loops_cons fr272_5 le272_5 (ok272_5 fu) loops_nil)
theorem lp272 : ∀ x ∈ loopsOf c272, ∀ id, firstReg x = some id → LoopOk Tryz.prog (0, 0) x (L272 id) := loops_eq lq272 lm272
noncomputable def sg272 : Sg := ⟨⟨[.one (.sl 0)], [], [(255, sh1, .ro)]⟩, [.row sh1], ⟨[hh], [], []⟩, [.int .i64]⟩
noncomputable def E272 : Fun2 := eOf sg272 I.depth
theorem ev272 (a : Args sg272.ks) : evS Tryz.prog G272 L272 (0, 0) [] Tryz.f272 c272 (kOf sg272) (sg272.sk.fl (encP sg272.ks a)) = unc sg272.ks I.depth a := by kernel_rfl
theorem good272 : Vm.Good Tryz.prog 272 E272 := good_gen (G := G272) (L := L272) (c := c272) (rn := []) (N := (0, 0)) (envCons_good good127 (envCons_good good300 envNil_good)) lp272 Tryz.func272 (by kernel_rfl) (by kernel_rfl) (fun _ => by kernel_rfl) ev272
noncomputable def G225 : Env := (envCons 272 [] E272 envNil)
noncomputable def c225 : Code := bodyOf Tryz.f225
noncomputable def I.isExpr (a1 : List (Int × Int)) : Option Bool :=
(Option.bind (I.depth a1) fun r2 =>
(some (decide (0 < r2))))
noncomputable def sg225 : Sg := ⟨⟨[.one (.sl 0)], [], [(255, sh1, .ro)]⟩, [.row sh1], ⟨[hh], [], []⟩, [.bool]⟩
noncomputable def E225 : Fun2 := eOf sg225 I.isExpr
theorem ev225 (a : Args sg225.ks) : evS Tryz.prog G225 loopNil (0, 0) [] Tryz.f225 c225 (kOf sg225) (sg225.sk.fl (encP sg225.ks a)) = unc sg225.ks I.isExpr a := by kernel_rfl
theorem good225 : Vm.Good Tryz.prog 225 E225 := good_gen (G := G225) (L := loopNil) (c := c225) (rn := []) (N := (0, 0)) (envCons_good good272 envNil_good) (no_loops (c := c225) (by kernel_rfl)) Tryz.func225 (by kernel_rfl) (by kernel_rfl) (fun _ => by kernel_rfl) ev225
noncomputable def G49 : Env := (envCons 127 [] E127 envNil)
noncomputable def c49 : Code := bodyOf Tryz.f49
noncomputable def I.isWinDef (a1 a2 a3 : Int) : Option Bool :=
(Option.bind (I.in a2 1 100) fun r4 =>
(bif (!r4) then
(some false)
else
(bif (a1 == 1) then
(some (a3 == 0))
else
(bif (a1 == 3) then
(some (a3 == 0))
else
(bif (a1 == 2) then
(Option.bind (I.in a3 1 a2) fun r5 =>
(bif r5 then
(some (decide (a2 ≤ (IntKind.wrap .i64 (8 * a3)))))
else
(some false)))
else
(some false))))))
noncomputable def sg49 : Sg := ⟨⟨[.agg (ho 3 [])], [], []⟩, (ki 3 []), ⟨[hh], [], []⟩, [.bool]⟩
noncomputable def E49 : Fun2 := eOf sg49 I.isWinDef
theorem ev49 (a : Args sg49.ks) : evS Tryz.prog G49 loopNil (0, 0) [] Tryz.f49 c49 (kOf sg49) (sg49.sk.fl (encP sg49.ks a)) = unc sg49.ks I.isWinDef a := by kernel_rfl
theorem good49 : Vm.Good Tryz.prog 49 E49 := good_gen (G := G49) (L := loopNil) (c := c49) (rn := []) (N := (0, 0)) (envCons_good good127 envNil_good) (no_loops (c := c49) (by kernel_rfl)) Tryz.func49 (by kernel_rfl) (by kernel_rfl) (fun _ => by kernel_rfl) ev49
noncomputable def G226 : Env := (envCons 127 [] E127 envNil)
noncomputable def c226 : Code := bodyOf Tryz.f226
noncomputable def I.isAggKind (a1 a2 : Int) : Option Bool :=
(bif (a1 == 6) then
(Option.bind (I.in a2 1 4) fun r3 =>
(some r3))
else
(Option.bind (I.in a1 1 5) fun r4 =>
(bif r4 then
(some (a2 == 0))
else
(some false))))
noncomputable def sg226 : Sg := ⟨⟨[hh, hh], [], []⟩, (ki 2 []), ⟨[hh], [], []⟩, [.bool]⟩
noncomputable def E226 : Fun2 := eOf sg226 I.isAggKind
theorem ev226 (a : Args sg226.ks) : evS Tryz.prog G226 loopNil (0, 0) [] Tryz.f226 c226 (kOf sg226) (sg226.sk.fl (encP sg226.ks a)) = unc sg226.ks I.isAggKind a := by kernel_rfl
theorem good226 : Vm.Good Tryz.prog 226 E226 := good_gen (G := G226) (L := loopNil) (c := c226) (rn := []) (N := (0, 0)) (envCons_good good127 envNil_good) (no_loops (c := c226) (by kernel_rfl)) Tryz.func226 (by kernel_rfl) (by kernel_rfl) (fun _ => by kernel_rfl) ev226
noncomputable def G146 : Env := (envCons 225 [] E225 (envCons 49 [] E49 (envCons 226 [] E226 envNil)))
noncomputable def c146 : Code := bodyOf Tryz.f146
noncomputable def I.isQuery (a1 a2 a3 a4 a5 : Int) (a6 a7 : List (Int × Int)) : Option Bool :=
(Option.bind (I.isExpr a6) fun r8 =>
(bif r8 then
(Option.bind (I.isExpr a7) fun r9 =>
(bif r9 then
(Option.bind (I.isWinDef a1 a2 a3) fun r10 =>
(bif r10 then
(Option.bind (I.isAggKind a4 a5) fun r11 =>
(some r11))
else
(some false)))
else
(some false)))
else
(some false)))
noncomputable def sg146 : Sg := ⟨⟨[.agg ((.sl 0) :: (.sl 1) :: (ho 5 []))], [], [(255, sh1, .ro), (255, sh1, .ro)]⟩, (ki 5 [.row sh1, .row sh1]), ⟨[hh], [], []⟩, [.bool]⟩
noncomputable def E146 : Fun2 := eOf sg146 I.isQuery
theorem ev146 (a : Args sg146.ks) : evS Tryz.prog G146 loopNil (0, 0) [] Tryz.f146 c146 (kOf sg146) (sg146.sk.fl (encP sg146.ks a)) = unc sg146.ks I.isQuery a := by kernel_rfl
theorem good146 : Vm.Good Tryz.prog 146 E146 := good_gen (G := G146) (L := loopNil) (c := c146) (rn := []) (N := (0, 0)) (envCons_good good225 (envCons_good good49 (envCons_good good226 envNil_good))) (no_loops (c := c146) (by kernel_rfl)) Tryz.func146 (by kernel_rfl) (by kernel_rfl) (fun _ => by kernel_rfl) ev146
noncomputable def G90 : Env := (envCons 127 [] E127 envNil)
noncomputable def c90 : Code := bodyOf Tryz.f90
noncomputable def I.Lat_has (a1 a2 : Int) (a3 : List Int) : Option Bool :=
(Option.bind (I.in a2 0 (IntKind.wrap .i64 (a1 - 1))) fun r5 =>
(some r5))
noncomputable def sg90 : Sg := ⟨⟨[.agg [.hole, .sl 0], hh], [], [(87, (.int .u64), .ro)]⟩, (ki 2 [.row (.int .u64)]), ⟨[hh], [], []⟩, [.bool]⟩
noncomputable def E90 : Fun2 := eOf sg90 I.Lat_has
theorem ev90 (a : Args sg90.ks) : evS Tryz.prog G90 loopNil (0, 0) [] Tryz.f90 c90 (kOf sg90) (sg90.sk.fl (encP sg90.ks a)) = unc sg90.ks I.Lat_has a := by kernel_rfl
theorem good90 : Vm.Good Tryz.prog 90 E90 := good_gen (G := G90) (L := loopNil) (c := c90) (rn := []) (N := (0, 0)) (envCons_good good127 envNil_good) (no_loops (c := c90) (by kernel_rfl)) Tryz.func90 (by kernel_rfl) (by kernel_rfl) (fun _ => by kernel_rfl) ev90
noncomputable def G147 : Env := (envCons 127 [] E127 envNil)
noncomputable def c147 : Code := bodyOf Tryz.f147
noncomputable def I.isCap (a1 : Int) : Option Bool :=
(Option.bind (I.in a1 1 50) fun r2 =>
(some r2))
noncomputable def sg147 : Sg := ⟨⟨[hh], [], []⟩, [.int .i64], ⟨[hh], [], []⟩, [.bool]⟩
noncomputable def E147 : Fun2 := eOf sg147 I.isCap
theorem ev147 (a : Args sg147.ks) : evS Tryz.prog G147 loopNil (0, 0) [] Tryz.f147 c147 (kOf sg147) (sg147.sk.fl (encP sg147.ks a)) = unc sg147.ks I.isCap a := by kernel_rfl
theorem good147 : Vm.Good Tryz.prog 147 E147 := good_gen (G := G147) (L := loopNil) (c := c147) (rn := []) (N := (0, 0)) (envCons_good good127 envNil_good) (no_loops (c := c147) (by kernel_rfl)) Tryz.func147 (by kernel_rfl) (by kernel_rfl) (fun _ => by kernel_rfl) ev147
noncomputable def G65 : Env := (envCons 145 [] E145 (envCons 127 [] E127 (envCons 146 [] E146 (envCons 90 [] E90 (envCons 147 [] E147 envNil)))))
noncomputable def c65 : Code := bodyOf Tryz.f65
noncomputable def c65_4 : Code := (loopsOf c65).getD 0 .skip
noncomputable def c65_10 : Code := (loopsOf c65).getD 1 .skip
noncomputable def c65_16 : Code := (loopsOf c65).getD 2 .skip
noncomputable def I.isConf_l0 : Nat → (Bool → Int → Int → Int → List Int → (List ty6) → (List (Int × Int × Int)) → (List ty10) → Option Bool) → (Int → Int → Int → List Int → (List ty6) → (List (Int × Int × Int)) → (List ty10) → Option Bool) → Int → Int → Int → Int → Int → (List ty6) → List Int → (List (Int × Int × Int)) → (List ty10) → Option Bool
  | 0, _, _, _, _, _, _, _, _, _, _, _ => none
  | m + 1, e4_0, e4_1, a18, a19, a20, a21, a22, a23, a24, a25, a26 =>
    (bif (decide (a19 < a18)) then
    (bif decide ((0 : Int) ≤ a19 ∧ a19 < (a23.length : Int)) then
    (Option.bind (I.isQuery ((nthI a23 a19 ([], ([], (df1, df2)))).2.2.1.1) ((nthI a23 a19 ([], ([], (df1, df2)))).2.2.1.2.1) ((nthI a23 a19 ([], ([], (df1, df2)))).2.2.1.2.2) ((nthI a23 a19 ([], ([], (df1, df2)))).2.2.2.1) ((nthI a23 a19 ([], ([], (df1, df2)))).2.2.2.2) ((nthI a23 a19 ([], ([], (df1, df2)))).1) ((nthI a23 a19 ([], ([], (df1, df2)))).2.1)) fun r28 =>
    (bif (!r28) then
    (e4_0 false a20 a21 a22 a24 a23 a25 a26)
    else
    (I.isConf_l0 m e4_0 e4_1 a18 (IntKind.wrap .i64 (a19 + 1)) a20 a21 a22 a23 a24 a25 a26)))
    else
    none)
    else
    (e4_1 a20 a21 a22 a24 a23 a25 a26))
noncomputable def I.isConf_l1 : Nat → (Bool → Int → Int → Int → List Int → (List ty6) → (List (Int × Int × Int)) → (List ty10) → Option Bool) → (Int → Int → Int → List Int → (List ty6) → (List (Int × Int × Int)) → (List ty10) → Option Bool) → Int → Int → Int → Int → Int → (List (Int × Int × Int)) → List Int → (List ty6) → (List ty10) → Option Bool
  | 0, _, _, _, _, _, _, _, _, _, _, _ => none
  | m + 1, e10_0, e10_1, a46, a47, a48, a49, a50, a51, a52, a53, a54 =>
    (bif (decide (a47 < a46)) then
    (bif decide ((0 : Int) ≤ a47 ∧ a47 < (a51.length : Int)) then
    (Option.bind (I.Lat_has a48 ((nthI a51 a47 df1).1) a52) fun r56 =>
    (bif (!r56) then
    (e10_0 false a48 a49 a50 a52 a53 a51 a54)
    else
    (Option.bind (I.isCap ((nthI a51 a47 df1).2.1)) fun r57 =>
    (bif (!r57) then
    (e10_0 false a48 a49 a50 a52 a53 a51 a54)
    else
    (Option.bind (I.isCap ((nthI a51 a47 df1).2.2)) fun r58 =>
    (bif (!r58) then
    (e10_0 false a48 a49 a50 a52 a53 a51 a54)
    else
    (I.isConf_l1 m e10_0 e10_1 a46 (IntKind.wrap .i64 (a47 + 1)) a48 a49 a50 a51 a52 a53 a54)))))))
    else
    none)
    else
    (e10_1 a48 a49 a50 a52 a53 a51 a54))
noncomputable def I.isConf_l2 : Nat → (Bool → Option Bool) → (Option Bool) → Int → Int → Int → Int → Int → (List ty10) → List Int → (List ty6) → (List (Int × Int × Int)) → Option Bool
  | 0, _, _, _, _, _, _, _, _, _, _, _ => none
  | m + 1, e16_0, e16_1, a76, a77, a78, a79, a80, a81, a82, a83, a84 =>
    (bif (decide (a77 < a76)) then
    (bif decide ((0 : Int) ≤ a77 ∧ a77 < (a81.length : Int)) then
    (Option.bind (I.in ((nthI a81 a77 df3).1) 0 (IntKind.wrap .i64 ((a83.length : Int) - 1))) fun r88 =>
    (bif (!r88) then
    (e16_0 false)
    else
    (Option.bind (I.Lat_has a78 ((nthI a81 a77 df3).2.1) a82) fun r89 =>
    (bif (!r89) then
    (e16_0 false)
    else
    (Option.bind (I.Lat_has a78 ((nthI a81 a77 df3).2.2.1) a82) fun r90 =>
    (bif (!r90) then
    (e16_0 false)
    else
    (Option.bind (I.in ((nthI a81 a77 df3).2.2.2.1) 1 1000000) fun r91 =>
    (bif (!r91) then
    (e16_0 false)
    else
    (Option.bind (I.in ((nthI a81 a77 df3).2.2.2.2) 0 20) fun r92 =>
    (bif (!r92) then
    (e16_0 false)
    else
    (I.isConf_l2 m e16_0 e16_1 a76 (IntKind.wrap .i64 (a77 + 1)) a78 a79 a80 a81 a82 a83 a84)))))))))))
    else
    none)
    else
    e16_1)
noncomputable def I.isConf (a1 a2 a3 : Int) (a4 : List Int) (a5 : List ty6) (a6 : List (Int × Int × Int)) (a7 : List ty10) : Option Bool :=
(Option.bind (I.isLat a1 a4) fun r8 =>
(bif (!r8) then
(some false)
else
(Option.bind (I.in a2 1 4) fun r9 =>
(bif (!r9) then
(some false)
else
(Option.bind (I.in a3 1 30) fun r10 =>
(bif (!r10) then
(some false)
else
(Option.bind (I.in (a5.length : Int) 1 4) fun r12 =>
(bif (!r12) then
(some false)
else
(Option.bind (I.in (a6.length : Int) 1 4) fun r14 =>
(bif (!r14) then
(some false)
else
(bif (decide (3 < (a7.length : Int))) then
(some false)
else
(I.isConf_l0 fu (fun y30 y31 y32 y33 y34 y35 y36 y37 =>
(some y30)) (fun y38 y39 y40 y41 y42 y43 y44 =>
(I.isConf_l1 fu (fun y60 y61 y62 y63 y64 y65 y66 y67 =>
(some y60)) (fun y68 y69 y70 y71 y72 y73 y74 =>
(I.isConf_l2 fu (fun y94 =>
(some y94)) (some true) (y74.length : Int) 0 y68 y69 y70 y74 y71 y72 y73)) (y43.length : Int) 0 y38 y39 y40 y43 y41 y42 y44)) (a5.length : Int) 0 a1 a2 a3 a5 a4 a6 a7))))))))))))
noncomputable def H65_4 : LoopH := ⟨⟨((.one (.unk)) :: (.one (.ptr 0 0)) :: (hu 44 ((.one (.sl 0)) :: hh :: hh :: (hu 77 [])))), [(49, ((.hole) :: (.sl 1) :: (ho 2 [.sl 0, .sl 2, .sl 3])))], [(190, sh5, .ro), (87, (.int .u64), .ro), (126, sh3, .ro), (159, sh4, .ro)]⟩, ([0] ++ rg 2 44 ++ rg 49 77), [], ([0] ++ rg 3 123), [], []⟩
noncomputable def k65_4 : List PK := (ki 5 [.row sh5, .row (.int .u64), .row sh3, .row sh4])
noncomputable def W65_4 (m : Nat) (k : Kont Bool) : Cur k65_4 (Option Bool) := I.isConf_l0 m (exF k .ret ⟨((.one (.unk)) :: (.one (.ptr 0 0)) :: hh :: (hu 123 [])), [(49, ((.hole) :: (.sl 0) :: (ho 2 [.sl 1, .sl 2, .sl 3])))], [(87, (.int .u64), .ro), (190, sh5, .ro), (126, sh3, .ro), (159, sh4, .ro)]⟩ ((.bool) :: (ki 3 [.row (.int .u64), .row sh5, .row sh3, .row sh4]))) (exF k (.exit 0) ⟨((.one (.unk)) :: (.one (.ptr 0 0)) :: (hu 124 [])), [(49, ((.hole) :: (.sl 0) :: (ho 2 [.sl 1, .sl 2, .sl 3])))], [(87, (.int .u64), .ro), (190, sh5, .ro), (126, sh3, .ro), (159, sh4, .ro)]⟩ (ki 3 [.row (.int .u64), .row sh5, .row sh3, .row sh4]))
noncomputable def E65_4 (m : Nat) : List Prm → Kont Bool → Option Bool := eL k65_4 (W65_4 m)
theorem ev65_4 (m : Nat) (k : Kont Bool) (a : Args k65_4) : evL Tryz.prog G65 loopNil c65_4 (turn Tryz.prog (0, 0) H65_4 (E65_4 m) k) (H65_4.sk.fl (encP k65_4 a)) = unc k65_4 (W65_4 (m + 1) k) a := by kernel_rfl
theorem ok65_4 (m : Nat) : LoopOk Tryz.prog (0, 0) c65_4 (enter Tryz.prog (0, 0) H65_4 (E65_4 m)) := loop_gen (Fl := W65_4) (G := G65) (L := loopNil) (envCons_good good145 (envCons_good good127 (envCons_good good146 (envCons_good good90 (envCons_good good147 envNil_good))))) (no_loops (c := c65_4) (by kernel_rfl)) (fun _ _ => by kernel_rfl) ev65_4 m
noncomputable def H65_10 : LoopH := ⟨⟨((.one (.unk)) :: (.one (.ptr 0 0)) :: (hu 55 ((.one (.sl 0)) :: hh :: hh :: (hu 66 [])))), [(49, ((.hole) :: (.sl 1) :: (ho 2 [.sl 2, .sl 0, .sl 3])))], [(126, sh3, .ro), (87, (.int .u64), .ro), (190, sh5, .ro), (159, sh4, .ro)]⟩, ([0] ++ rg 2 55 ++ rg 60 66), [], ([0] ++ rg 3 123), [], []⟩
noncomputable def k65_10 : List PK := (ki 5 [.row sh3, .row (.int .u64), .row sh5, .row sh4])
noncomputable def W65_10 (m : Nat) (k : Kont Bool) : Cur k65_10 (Option Bool) := I.isConf_l1 m (exF k .ret ⟨((.one (.unk)) :: (.one (.ptr 0 0)) :: hh :: (hu 123 [])), [(49, ((.hole) :: (.sl 0) :: (ho 2 [.sl 1, .sl 2, .sl 3])))], [(87, (.int .u64), .ro), (190, sh5, .ro), (126, sh3, .ro), (159, sh4, .ro)]⟩ ((.bool) :: (ki 3 [.row (.int .u64), .row sh5, .row sh3, .row sh4]))) (exF k (.exit 2) ⟨((.one (.unk)) :: (.one (.ptr 0 0)) :: (hu 124 [])), [(49, ((.hole) :: (.sl 0) :: (ho 2 [.sl 1, .sl 2, .sl 3])))], [(87, (.int .u64), .ro), (190, sh5, .ro), (126, sh3, .ro), (159, sh4, .ro)]⟩ (ki 3 [.row (.int .u64), .row sh5, .row sh3, .row sh4]))
noncomputable def E65_10 (m : Nat) : List Prm → Kont Bool → Option Bool := eL k65_10 (W65_10 m)
theorem ev65_10 (m : Nat) (k : Kont Bool) (a : Args k65_10) : evL Tryz.prog G65 loopNil c65_10 (turn Tryz.prog (0, 0) H65_10 (E65_10 m) k) (H65_10.sk.fl (encP k65_10 a)) = unc k65_10 (W65_10 (m + 1) k) a := by kernel_rfl
theorem ok65_10 (m : Nat) : LoopOk Tryz.prog (0, 0) c65_10 (enter Tryz.prog (0, 0) H65_10 (E65_10 m)) := loop_gen (Fl := W65_10) (G := G65) (L := loopNil) (envCons_good good145 (envCons_good good127 (envCons_good good146 (envCons_good good90 (envCons_good good147 envNil_good))))) (no_loops (c := c65_10) (by kernel_rfl)) (fun _ _ => by kernel_rfl) ev65_10 m
noncomputable def H65_16 : LoopH := ⟨⟨((.one (.unk)) :: (.one (.ptr 0 0)) :: (hu 81 ((.one (.sl 0)) :: hh :: hh :: (hu 40 [])))), [(49, ((.hole) :: (.sl 1) :: (ho 2 [.sl 2, .sl 3, .sl 0])))], [(159, sh4, .ro), (87, (.int .u64), .ro), (190, sh5, .ro), (126, sh3, .ro)]⟩, ([0] ++ rg 2 81 ++ rg 86 40), [], ([0, 1] ++ rg 3 123), [], []⟩
noncomputable def k65_16 : List PK := (ki 5 [.row sh4, .row (.int .u64), .row sh5, .row sh3])
noncomputable def W65_16 (m : Nat) (k : Kont Bool) : Cur k65_16 (Option Bool) := I.isConf_l2 m (exF k .ret ⟨(hu 2 (hh :: (hu 123 []))), [], []⟩ [.bool]) (exF k (.exit 4) ⟨(hu 126 []), [], []⟩ [])
noncomputable def E65_16 (m : Nat) : List Prm → Kont Bool → Option Bool := eL k65_16 (W65_16 m)
theorem ev65_16 (m : Nat) (k : Kont Bool) (a : Args k65_16) : evL Tryz.prog G65 loopNil c65_16 (turn Tryz.prog (0, 0) H65_16 (E65_16 m) k) (H65_16.sk.fl (encP k65_16 a)) = unc k65_16 (W65_16 (m + 1) k) a := by kernel_rfl
theorem ok65_16 (m : Nat) : LoopOk Tryz.prog (0, 0) c65_16 (enter Tryz.prog (0, 0) H65_16 (E65_16 m)) := loop_gen (Fl := W65_16) (G := G65) (L := loopNil) (envCons_good good145 (envCons_good good127 (envCons_good good146 (envCons_good good90 (envCons_good good147 envNil_good))))) (no_loops (c := c65_16) (by kernel_rfl)) (fun _ _ => by kernel_rfl) ev65_16 m
noncomputable def L65 : LEnv Bool := (loopCons 4 (enter Tryz.prog (0, 0) H65_4 (E65_4 fu)) (loopCons 10 (enter Tryz.prog (0, 0) H65_10 (E65_10 fu)) (loopCons 16 (enter Tryz.prog (0, 0) H65_16 (E65_16 fu)) loopNil)))
theorem lq65 : loopsOf c65 = [c65_4, c65_10, c65_16] := by kernel_rfl
theorem fr65_4 : firstReg c65_4 = some 4 := by kernel_rfl
theorem le65_4 : L65 4 = enter Tryz.prog (0, 0) H65_4 (E65_4 fu) := by kernel_rfl
theorem fr65_10 : firstReg c65_10 = some 10 := by kernel_rfl
theorem le65_10 : L65 10 = enter Tryz.prog (0, 0) H65_10 (E65_10 fu) := by kernel_rfl
theorem fr65_16 : firstReg c65_16 = some 16 := by kernel_rfl
theorem le65_16 : L65 16 = enter Tryz.prog (0, 0) H65_16 (E65_16 fu) := by kernel_rfl
theorem lm65 : ∀ x ∈ [c65_4, c65_10, c65_16], ∀ id, firstReg x = some id → LoopOk Tryz.prog (0, 0) x (L65 id) := (loops_cons fr65_4 le65_4 (ok65_4 fu) (loops_cons fr65_10 le65_10 (ok65_10 fu) (loops_cons fr65_16 le65_16 (ok65_16 fu) loops_nil)))
theorem lp65 : ∀ x ∈ loopsOf c65, ∀ id, firstReg x = some id → LoopOk Tryz.prog (0, 0) x (L65 id) := loops_eq lq65 lm65
noncomputable def sg65 : Sg := ⟨⟨[.agg ((.hole) :: (.sl 0) :: (ho 2 [.sl 1, .sl 2, .sl 3]))], [], [(87, (.int .u64), .ro), (190, sh5, .ro), (126, sh3, .ro), (159, sh4, .ro)]⟩, (ki 3 [.row (.int .u64), .row sh5, .row sh3, .row sh4]), ⟨[hh], [], []⟩, [.bool]⟩
noncomputable def E65 : Fun2 := eOf sg65 I.isConf
theorem ev65 (a : Args sg65.ks) : evS Tryz.prog G65 L65 (0, 0) [] Tryz.f65 c65 (kOf sg65) (sg65.sk.fl (encP sg65.ks a)) = unc sg65.ks I.isConf a := by kernel_rfl
theorem good65 : Vm.Good Tryz.prog 65 E65 := good_gen (G := G65) (L := L65) (c := c65) (rn := []) (N := (0, 0)) (envCons_good good145 (envCons_good good127 (envCons_good good146 (envCons_good good90 (envCons_good good147 envNil_good))))) lp65 Tryz.func65 (by kernel_rfl) (by kernel_rfl) (fun _ => by kernel_rfl) ev65
noncomputable def G227 : Env := envNil
noncomputable def c227 : Code := bodyOf Tryz.f227
noncomputable def G.slices.Clone_uint64 (a1 : List Int) : Option (List Int) :=
(bif decide (a1.length = 0) then
(same (some [])
(bif decide ((([] : List (Int)).length + a1.length) * 8 ≤ 140737488355328) then
(some (([] : List (Int)) ++ a1))
else
none))
else
(bif decide ((([] : List (Int)).length + a1.length) * 8 ≤ 140737488355328) then
(some (([] : List (Int)) ++ a1))
else
none))
noncomputable def sg227 : Sg := ⟨⟨[.one (.sl 0)], [], [(87, (.int .u64), .ro)]⟩, [.row (.int .u64)], ⟨[.one (.sl 0)], [], [(87, (.int .u64), .own)]⟩, [.row (.int .u64)]⟩
noncomputable def E227 : Fun2 := eOf sg227 G.slices.Clone_uint64
theorem ev227 (a : Args sg227.ks) : evS Tryz.prog G227 loopNil (0, 0) [] Tryz.f227 c227 (kOf sg227) (sg227.sk.fl (encP sg227.ks a)) = unc sg227.ks G.slices.Clone_uint64 a := by kernel_rfl
theorem good227 : Vm.Good Tryz.prog 227 E227 := good_gen (G := G227) (L := loopNil) (c := c227) (rn := []) (N := (0, 0)) envNil_good (no_loops (c := c227) (by kernel_rfl)) Tryz.func227 (by kernel_rfl) (by kernel_rfl) (fun _ => by kernel_rfl) ev227
noncomputable def G228 : Env := envNil
noncomputable def c228 : Code := bodyOf Tryz.f228
noncomputable def G.slices.Clone_Tok (a1 : List (Int × Int)) : Option ((List (Int × Int))) :=
(bif decide (a1.length = 0) then
(same (some [])
(bif decide ((([] : List (Int × Int)).length + a1.length) * 16 ≤ 140737488355328) then
(some (([] : List (Int × Int)) ++ a1))
else
none))
else
(bif decide ((([] : List (Int × Int)).length + a1.length) * 16 ≤ 140737488355328) then
(some (([] : List (Int × Int)) ++ a1))
else
none))
noncomputable def sg228 : Sg := ⟨⟨[.one (.sl 0)], [], [(255, sh1, .ro)]⟩, [.row sh1], ⟨[.one (.sl 0)], [], [(255, sh1, .own)]⟩, [.row sh1]⟩
noncomputable def E228 : Fun2 := eOf sg228 G.slices.Clone_Tok
theorem ev228 (a : Args sg228.ks) : evS Tryz.prog G228 loopNil (0, 0) [] Tryz.f228 c228 (kOf sg228) (sg228.sk.fl (encP sg228.ks a)) = unc sg228.ks G.slices.Clone_Tok a := by kernel_rfl
theorem good228 : Vm.Good Tryz.prog 228 E228 := good_gen (G := G228) (L := loopNil) (c := c228) (rn := []) (N := (0, 0)) envNil_good (no_loops (c := c228) (by kernel_rfl)) Tryz.func228 (by kernel_rfl) (by kernel_rfl) (fun _ => by kernel_rfl) ev228
noncomputable def G229 : Env := envNil
noncomputable def c229 : Code := bodyOf Tryz.f229
noncomputable def G.slices.Clone_Sub (a1 : List (Int × Int × Int)) : Option ((List (Int × Int × Int))) :=
(bif decide (a1.length = 0) then
(same (some [])
(bif decide ((([] : List (Int × Int × Int)).length + a1.length) * 24 ≤ 140737488355328) then
(some (([] : List (Int × Int × Int)) ++ a1))
else
none))
else
(bif decide ((([] : List (Int × Int × Int)).length + a1.length) * 24 ≤ 140737488355328) then
(some (([] : List (Int × Int × Int)) ++ a1))
else
none))
noncomputable def sg229 : Sg := ⟨⟨[.one (.sl 0)], [], [(126, sh3, .ro)]⟩, [.row sh3], ⟨[.one (.sl 0)], [], [(126, sh3, .own)]⟩, [.row sh3]⟩
noncomputable def E229 : Fun2 := eOf sg229 G.slices.Clone_Sub
theorem ev229 (a : Args sg229.ks) : evS Tryz.prog G229 loopNil (0, 0) [] Tryz.f229 c229 (kOf sg229) (sg229.sk.fl (encP sg229.ks a)) = unc sg229.ks G.slices.Clone_Sub a := by kernel_rfl
theorem good229 : Vm.Good Tryz.prog 229 E229 := good_gen (G := G229) (L := loopNil) (c := c229) (rn := []) (N := (0, 0)) envNil_good (no_loops (c := c229) (by kernel_rfl)) Tryz.func229 (by kernel_rfl) (by kernel_rfl) (fun _ => by kernel_rfl) ev229
noncomputable def G230 : Env := envNil
noncomputable def c230 : Code := bodyOf Tryz.f230
noncomputable def G.slices.Clone_Rule (a1 : List ty10) : Option ((List ty10)) :=
(bif decide (a1.length = 0) then
(same (some [])
(bif decide ((([] : List ty10).length + a1.length) * 40 ≤ 140737488355328) then
(some (([] : List ty10) ++ a1))
else
none))
else
(bif decide ((([] : List ty10).length + a1.length) * 40 ≤ 140737488355328) then
(some (([] : List ty10) ++ a1))
else
none))
noncomputable def sg230 : Sg := ⟨⟨[.one (.sl 0)], [], [(159, sh4, .ro)]⟩, [.row sh4], ⟨[.one (.sl 0)], [], [(159, sh4, .own)]⟩, [.row sh4]⟩
noncomputable def E230 : Fun2 := eOf sg230 G.slices.Clone_Rule
theorem ev230 (a : Args sg230.ks) : evS Tryz.prog G230 loopNil (0, 0) [] Tryz.f230 c230 (kOf sg230) (sg230.sk.fl (encP sg230.ks a)) = unc sg230.ks G.slices.Clone_Rule a := by kernel_rfl
theorem good230 : Vm.Good Tryz.prog 230 E230 := good_gen (G := G230) (L := loopNil) (c := c230) (rn := []) (N := (0, 0)) envNil_good (no_loops (c := c230) (by kernel_rfl)) Tryz.func230 (by kernel_rfl) (by kernel_rfl) (fun _ => by kernel_rfl) ev230
noncomputable def G148 : Env := (envCons 227 [] E227 (envCons 228 [] E228 (envCons 229 [] E229 (envCons 230 [] E230 envNil))))
noncomputable def c148 : Code := bodyOf Tryz.f148
noncomputable def c148_4 : Code := (loopsOf c148).getD 0 .skip
noncomputable def I.Conf_copied_l0 : Nat → (Int → Int → Int → Int → Int → Int → (List ty6) → List Int → (List ty6) → (List (Int × Int × Int)) → (List ty10) → Option (Int × Int × Int × List Int × (List ty6) × (List (Int × Int × Int)) × (List ty10))) → Int → Int → Int → Int → Int → Int → Int → Int → (List ty6) → (List ty6) → List Int → (List (Int × Int × Int)) → (List ty10) → Option (Int × Int × Int × List Int × (List ty6) × (List (Int × Int × Int)) × (List ty10))
  | 0, _, _, _, _, _, _, _, _, _, _, _, _, _, _ => none
  | m + 1, e4_0, a10, a11, a12, a13, a14, a15, a16, a17, a18, a19, a20, a21, a22 =>
    (bif (decide (a11 < a10)) then
    (bif decide ((0 : Int) ≤ a11 ∧ a11 < (a19.length : Int)) then
    (Option.bind (G.slices.Clone_Tok ((nthI a19 a11 ([], ([], (df1, df2)))).1)) fun r24 =>
    (Option.bind (G.slices.Clone_Tok ((nthI a19 a11 ([], ([], (df1, df2)))).2.1)) fun r25 =>
    (let v26 : List ty6 := [(r24, (r25, (((nthI a19 a11 ([], ([], (df1, df2)))).2.2.1.1, ((nthI a19 a11 ([], ([], (df1, df2)))).2.2.1.2.1, (nthI a19 a11 ([], ([], (df1, df2)))).2.2.1.2.2)), ((nthI a19 a11 ([], ([], (df1, df2)))).2.2.2.1, (nthI a19 a11 ([], ([], (df1, df2)))).2.2.2.2))))]
    (bif decide ((a18.length + v26.length) * 88 ≤ 140737488355328) then
    (I.Conf_copied_l0 m e4_0 a10 (IntKind.wrap .i64 (a11 + 1)) a12 a13 a14 a15 a16 a17 (a18 ++ v26) a19 a20 a21 a22)
    else
    none))))
    else
    none)
    else
    (e4_0 a12 a13 a14 a15 a16 a17 a18 a20 a19 a21 a22))
noncomputable def I.Conf_copied (a1 a2 a3 : Int) (a4 : List Int) (a5 : List ty6) (a6 : List (Int × Int × Int)) (a7 : List ty10) : Option (Int × Int × Int × List Int × (List ty6) × (List (Int × Int × Int)) × (List ty10)) :=
(Option.bind (G.slices.Clone_uint64 a4) fun r8 =>
(I.Conf_copied_l0 fu (fun y28 y29 y30 y31 y32 y33 y34 y35 y36 y37 y38 =>
(Option.bind (G.slices.Clone_Sub y37) fun r39 =>
(Option.bind (G.slices.Clone_Rule y38) fun r40 =>
(some (y28, y29, y30, y35, y34, r39, r40))))) (a5.length : Int) 0 a1 a2 a3 0 0 0 [] a5 r8 a6 a7))
noncomputable def H148_4 : LoopH := ⟨⟨((.one (.unk)) :: (.one (.ptr 0 0)) :: (.one (.ptr 1 0)) :: (.one (.sl 0)) :: (hu 10 ((.one (.sl 1)) :: hh :: hh :: (hu 27 [])))), [(49, ((.hole) :: (.sl 2) :: (ho 2 [.sl 1, .sl 3, .sl 4]))), (49, (ho 7 []))], [(190, sh5, .own), (190, sh5, .ro), (87, (.int .u64), .own), (126, sh3, .ro), (159, sh4, .ro)]⟩, ([0] ++ rg 4 10 ++ rg 17 27), [], ([0] ++ rg 4 40), [], []⟩
noncomputable def k148_4 : List PK := (ki 6 ((.nil) :: (ki 2 [.nil, .nil, .nil, .row sh5, .row sh5, .row (.int .u64), .row sh3, .row sh4])))
noncomputable def W148_4 (m : Nat) (k : Kont (Int × Int × Int × List Int × (List ty6) × (List (Int × Int × Int)) × (List ty10))) : Cur k148_4 (Option (Int × Int × Int × List Int × (List ty6) × (List (Int × Int × Int)) × (List ty10))) := I.Conf_copied_l0 m (exF k (.exit 0) ⟨((.one (.unk)) :: (.one (.ptr 0 0)) :: (.one (.ptr 1 0)) :: (.one (.sl 0)) :: (hu 40 [])), [(49, ((.hole) :: (.sl 1) :: (ho 2 [.sl 2, .sl 3, .sl 4]))), (49, (ho 7 []))], [(190, sh5, .own), (87, (.int .u64), .own), (190, sh5, .ro), (126, sh3, .ro), (159, sh4, .ro)]⟩ (ki 4 ((.nil) :: (ki 2 [.nil, .nil, .nil, .row sh5, .row (.int .u64), .row sh5, .row sh3, .row sh4]))))
noncomputable def E148_4 (m : Nat) : List Prm → Kont (Int × Int × Int × List Int × (List ty6) × (List (Int × Int × Int)) × (List ty10)) → Option (Int × Int × Int × List Int × (List ty6) × (List (Int × Int × Int)) × (List ty10)) := eL k148_4 (W148_4 m)
theorem ev148_4 (m : Nat) (k : Kont (Int × Int × Int × List Int × (List ty6) × (List (Int × Int × Int)) × (List ty10))) (a : Args k148_4) : evL Tryz.prog G148 loopNil c148_4 (turn Tryz.prog (0, 0) H148_4 (E148_4 m) k) (H148_4.sk.fl (encP k148_4 a)) = unc k148_4 (W148_4 (m + 1) k) a := by kernel_rfl
theorem ok148_4 (m : Nat) : LoopOk Tryz.prog (0, 0) c148_4 (enter Tryz.prog (0, 0) H148_4 (E148_4 m)) := loop_gen (Fl := W148_4) (G := G148) (L := loopNil) (envCons_good good227 (envCons_good good228 (envCons_good good229 (envCons_good good230 envNil_good)))) (no_loops (c := c148_4) (by kernel_rfl)) (fun _ _ => by kernel_rfl) ev148_4 m
noncomputable def L148 : LEnv (Int × Int × Int × List Int × (List ty6) × (List (Int × Int × Int)) × (List ty10)) := (loopCons 4 (enter Tryz.prog (0, 0) H148_4 (E148_4 fu)) loopNil)
theorem lq148 : loopsOf c148 = [c148_4] := by kernel_rfl
theorem fr148_4 : firstReg c148_4 = some 4 := by kernel_rfl
theorem le148_4 : L148 4 = enter Tryz.prog (0, 0) H148_4 (E148_4 fu) := by kernel_rfl
theorem lm148 : ∀ x ∈ [c148_4], ∀ id, firstReg x = some id → LoopOk Tryz.prog (0, 0) x (L148 id) := (loops_cons fr148_4 le148_4 (ok148_4 fu) loops_nil)
theorem lp148 : ∀ x ∈ loopsOf c148, ∀ id, firstReg x = some id → LoopOk Tryz.prog (0, 0) x (L148 id) := loops_eq lq148 lm148
noncomputable def sg148 : Sg := ⟨⟨[.agg ((.hole) :: (.sl 0) :: (ho 2 [.sl 1, .sl 2, .sl 3]))], [], [(87, (.int .u64), .ro), (190, sh5, .ro), (126, sh3, .ro), (159, sh4, .ro)]⟩, (ki 3 [.row (.int .u64), .row sh5, .row sh3, .row sh4]), ⟨[.agg ((.hole) :: (.sl 0) :: (ho 2 [.sl 1, .sl 2, .sl 3]))], [], [(87, (.int .u64), .own), (190, sh5, .own), (126, sh3, .own), (159, sh4, .own)]⟩, (ki 3 [.row (.int .u64), .row sh5, .row sh3, .row sh4])⟩
noncomputable def E148 : Fun2 := eOf sg148 I.Conf_copied
theorem ev148 (a : Args sg148.ks) : evS Tryz.prog G148 L148 (0, 0) [] Tryz.f148 c148 (kOf sg148) (sg148.sk.fl (encP sg148.ks a)) = unc sg148.ks I.Conf_copied a := by kernel_rfl
theorem good148 : Vm.Good Tryz.prog 148 E148 := good_gen (G := G148) (L := L148) (c := c148) (rn := []) (N := (0, 0)) (envCons_good good227 (envCons_good good228 (envCons_good good229 (envCons_good good230 envNil_good)))) lp148 Tryz.func148 (by kernel_rfl) (by kernel_rfl) (fun _ => by kernel_rfl) ev148
noncomputable def G149 : Env := (envCons 127 [] E127 envNil)
noncomputable def c149 : Code := bodyOf Tryz.f149
noncomputable def I.MarksNew (a1 : Int) : Option (Int × (List (Int × Bool))) :=
(Option.bind (I.in a1 1 4) fun r2 =>
(bif (!r2) then
(some (0, []))
else
(bif decide ((0 : Int) ≤ a1 ∧ a1 ≤ a1 ∧ (16 : Int) * a1 ≤ 281474976710656 ∧ a1 ≤ 9223372036854775807) then
(some (0, (List.replicate (Int.toNat a1) (0, false))))
else
none)))
noncomputable def sg149 : Sg := ⟨⟨[hh], [], []⟩, [.int .i64], ⟨[.agg [.hole, .sl 0]], [], [(225, sh6, .own)]⟩, [.int .i64, .row sh6]⟩
noncomputable def E149 : Fun2 := eOf sg149 I.MarksNew
theorem ev149 (a : Args sg149.ks) : evS Tryz.prog G149 loopNil (0, 0) [] Tryz.f149 c149 (kOf sg149) (sg149.sk.fl (encP sg149.ks a)) = unc sg149.ks I.MarksNew a := by kernel_rfl
theorem good149 : Vm.Good Tryz.prog 149 E149 := good_gen (G := G149) (L := loopNil) (c := c149) (rn := []) (N := (0, 0)) (envCons_good good127 envNil_good) (no_loops (c := c149) (by kernel_rfl)) Tryz.func149 (by kernel_rfl) (by kernel_rfl) (fun _ => by kernel_rfl) ev149
noncomputable def G66 : Env := (envCons 148 [] E148 (envCons 149 [] E149 envNil))
noncomputable def c66 : Code := bodyOf Tryz.f66
noncomputable def c66_3 : Code := (loopsOf c66).getD 0 .skip
noncomputable def I.engNew_l0 : Nat → (Int → Int → Int → Int → Int → Int → Int → Int → List Int → (List ty6) → (List (Int × Int × Int)) → (List ty10) → (List (Int × Bool)) → List Int → List Int → (List ty3) → Option (Int × Int × Int × Int × List Int × (List ty6) × (List (Int × Int × Int)) × (List ty10) × (List (Int × Int × Int × Int)) × (List (Int × Bool)) × (List ty5) × List Int × List Int × (List ty3))) → Int → Int → Int → Int → Int → Int → Int → Int → Int → Int → (List (Int × Int × Int)) → List Int → (List ty6) → (List (Int × Int × Int)) → (List ty10) → (List (Int × Bool)) → List Int → List Int → (List ty3) → Option (Int × Int × Int × Int × List Int × (List ty6) × (List (Int × Int × Int)) × (List ty10) × (List (Int × Int × Int × Int)) × (List (Int × Bool)) × (List ty5) × List Int × List Int × (List ty3))
  | 0, _, _, _, _, _, _, _, _, _, _, _, _, _, _, _, _, _, _, _, _ => none
  | m + 1, e3_0, a214, a215, a216, a217, a218, a219, a220, a221, a222, a223, a224, a225, a226, a227, a228, a229, a230, a231, a232 =>
    (bif (decide (a215 < a214)) then
    (bif decide ((0 : Int) ≤ a215 ∧ a215 < (a224.length : Int)) then
    (let v234 : List ty3 := [((nthI a224 a215 df1).2.1, ((nthI a224 a215 df1).2.2, (0, (0, ([], [])))))]
    (bif decide ((a232.length + v234.length) * 80 ≤ 140737488355328) then
    (I.engNew_l0 m e3_0 a214 (IntKind.wrap .i64 (a215 + 1)) a216 a217 a218 a219 a220 a221 a222 a223 a224 a225 a226 a227 a228 a229 a230 a231 (a232 ++ v234))
    else
    none))
    else
    none)
    else
    (e3_0 a216 a217 a218 a219 a220 a221 a222 a223 a225 a226 a227 a228 a229 a230 a231 a232))
noncomputable def I.engNew (a1 a2 a3 : Int) (a4 : List Int) (a5 : List ty6) (a6 : List (Int × Int × Int)) (a7 : List ty10) : Option (Int × Int × Int × Int × List Int × (List ty6) × (List (Int × Int × Int)) × (List ty10) × (List (Int × Int × Int × Int)) × (List (Int × Bool)) × (List ty5) × List Int × List Int × (List ty3)) :=
(let j1_1 : (Int × Int × Int × List Int × (List ty6) × (List (Int × Int × Int)) × (List ty10)) → (Int × (List (Int × Bool))) → List Int → List Int → Option (Int × Int × Int × Int × List Int × (List ty6) × (List (Int × Int × Int)) × (List ty10) × (List (Int × Int × Int × Int)) × (List (Int × Bool)) × (List ty5) × List Int × List Int × (List ty3)) := (fun r9 r10 v11 v12 =>
(I.engNew_l0 fu (fun y214 y215 y216 y217 y218 y219 y220 y221 y222 y223 y224 y225 y226 y227 y228 y229 =>
(some (y218, y219, y220, y221, y222, y223, y224, y225, [], y226, [], y227, y228, y229))) (a6.length : Int) 0 0 0 0 0 r9.1 r9.2.1 r9.2.2.1 r10.1 a6 r9.2.2.2.1 r9.2.2.2.2.1 r9.2.2.2.2.2.1 r9.2.2.2.2.2.2 r10.2 v11 v12 []))
(let v8 : Int := (a7.length : Int)
(same (Option.bind (I.Conf_copied a1 a2 a3 a4 a5 a6 a7) fun r9 =>
(same (Option.bind (I.MarksNew a2) fun r10 =>
(same (bif decide ((0 : Int) ≤ a1 ∧ a1 ≤ a1 ∧ (8 : Int) * a1 ≤ 281474976710656 ∧ a1 ≤ 9223372036854775807) then
(let v11 : List Int := (List.replicate (Int.toNat a1) (0 : Int))
(same (bif decide ((0 : Int) ≤ v8 ∧ v8 ≤ v8 ∧ (8 : Int) * v8 ≤ 281474976710656 ∧ v8 ≤ 9223372036854775807) then
(let v12 : List Int := (List.replicate (Int.toNat v8) (0 : Int))
(I.engNew_l0 fu (fun y236 y237 y238 y239 y240 y241 y242 y243 y244 y245 y246 y247 y248 y249 y250 y251 =>
(some (y240, y241, y242, y243, y244, y245, y246, y247, [], y248, [], y249, y250, y251))) (a6.length : Int) 0 0 0 0 0 r9.1 r9.2.1 r9.2.2.1 r10.1 a6 r9.2.2.2.1 r9.2.2.2.2.1 r9.2.2.2.2.2.1 r9.2.2.2.2.2.2 r10.2 v11 v12 []))
else
none)
(bif decide ((0 : Int) ≤ v8 ∧ v8 ≤ v8 ∧ (8 : Int) * v8 ≤ 281474976710656 ∧ v8 ≤ 9223372036854775807) then
(let v12 : List Int := (List.replicate (Int.toNat v8) (0 : Int))
(j1_1 r9 r10 v11 v12))
else
none)))
else
none)
(same (bif decide ((0 : Int) ≤ v8 ∧ v8 ≤ v8 ∧ (8 : Int) * v8 ≤ 281474976710656 ∧ v8 ≤ 9223372036854775807) then
(let v11 : List Int := (List.replicate (Int.toNat v8) (0 : Int))
(same (bif decide ((0 : Int) ≤ a1 ∧ a1 ≤ a1 ∧ (8 : Int) * a1 ≤ 281474976710656 ∧ a1 ≤ 9223372036854775807) then
(let v12 : List Int := (List.replicate (Int.toNat a1) (0 : Int))
(j1_1 r9 r10 v12 v11))
else
none)
(bif decide ((0 : Int) ≤ a1 ∧ a1 ≤ a1 ∧ (8 : Int) * a1 ≤ 281474976710656 ∧ a1 ≤ 9223372036854775807) then
(let v12 : List Int := (List.replicate (Int.toNat a1) (0 : Int))
(j1_1 r9 r10 v12 v11))
else
none)))
else
none)
(same (bif decide ((0 : Int) ≤ a1 ∧ a1 ≤ a1 ∧ (8 : Int) * a1 ≤ 281474976710656 ∧ a1 ≤ 9223372036854775807) then
(let v11 : List Int := (List.replicate (Int.toNat a1) (0 : Int))
(bif decide ((0 : Int) ≤ v8 ∧ v8 ≤ v8 ∧ (8 : Int) * v8 ≤ 281474976710656 ∧ v8 ≤ 9223372036854775807) then
(let v12 : List Int := (List.replicate (Int.toNat v8) (0 : Int))
(j1_1 r9 r10 v11 v12))
else
none))
else
none)
(bif decide ((0 : Int) ≤ v8 ∧ v8 ≤ v8 ∧ (8 : Int) * v8 ≤ 281474976710656 ∧ v8 ≤ 9223372036854775807) then
(let v11 : List Int := (List.replicate (Int.toNat v8) (0 : Int))
(bif decide ((0 : Int) ≤ a1 ∧ a1 ≤ a1 ∧ (8 : Int) * a1 ≤ 281474976710656 ∧ a1 ≤ 9223372036854775807) then
(let v12 : List Int := (List.replicate (Int.toNat a1) (0 : Int))
(j1_1 r9 r10 v12 v11))
else
none))
else
none)))))
(same (bif decide ((0 : Int) ≤ a1 ∧ a1 ≤ a1 ∧ (8 : Int) * a1 ≤ 281474976710656 ∧ a1 ≤ 9223372036854775807) then
(let v10 : List Int := (List.replicate (Int.toNat a1) (0 : Int))
(same (Option.bind (I.MarksNew a2) fun r11 =>
(same (bif decide ((0 : Int) ≤ v8 ∧ v8 ≤ v8 ∧ (8 : Int) * v8 ≤ 281474976710656 ∧ v8 ≤ 9223372036854775807) then
(let v12 : List Int := (List.replicate (Int.toNat v8) (0 : Int))
(j1_1 r9 r11 v10 v12))
else
none)
(bif decide ((0 : Int) ≤ v8 ∧ v8 ≤ v8 ∧ (8 : Int) * v8 ≤ 281474976710656 ∧ v8 ≤ 9223372036854775807) then
(let v12 : List Int := (List.replicate (Int.toNat v8) (0 : Int))
(j1_1 r9 r11 v10 v12))
else
none)))
(same (bif decide ((0 : Int) ≤ v8 ∧ v8 ≤ v8 ∧ (8 : Int) * v8 ≤ 281474976710656 ∧ v8 ≤ 9223372036854775807) then
(let v11 : List Int := (List.replicate (Int.toNat v8) (0 : Int))
(same (Option.bind (I.MarksNew a2) fun r12 =>
(j1_1 r9 r12 v10 v11))
(Option.bind (I.MarksNew a2) fun r12 =>
(j1_1 r9 r12 v10 v11))))
else
none)
(same (Option.bind (I.MarksNew a2) fun r11 =>
(bif decide ((0 : Int) ≤ v8 ∧ v8 ≤ v8 ∧ (8 : Int) * v8 ≤ 281474976710656 ∧ v8 ≤ 9223372036854775807) then
(let v12 : List Int := (List.replicate (Int.toNat v8) (0 : Int))
(j1_1 r9 r11 v10 v12))
else
none))
(bif decide ((0 : Int) ≤ v8 ∧ v8 ≤ v8 ∧ (8 : Int) * v8 ≤ 281474976710656 ∧ v8 ≤ 9223372036854775807) then
(let v11 : List Int := (List.replicate (Int.toNat v8) (0 : Int))
(Option.bind (I.MarksNew a2) fun r12 =>
(j1_1 r9 r12 v10 v11)))
else
none)))))
else
none)
(same (bif decide ((0 : Int) ≤ v8 ∧ v8 ≤ v8 ∧ (8 : Int) * v8 ≤ 281474976710656 ∧ v8 ≤ 9223372036854775807) then
(let v10 : List Int := (List.replicate (Int.toNat v8) (0 : Int))
(same (Option.bind (I.MarksNew a2) fun r11 =>
(same (bif decide ((0 : Int) ≤ a1 ∧ a1 ≤ a1 ∧ (8 : Int) * a1 ≤ 281474976710656 ∧ a1 ≤ 9223372036854775807) then
(let v12 : List Int := (List.replicate (Int.toNat a1) (0 : Int))
(j1_1 r9 r11 v12 v10))
else
none)
(bif decide ((0 : Int) ≤ a1 ∧ a1 ≤ a1 ∧ (8 : Int) * a1 ≤ 281474976710656 ∧ a1 ≤ 9223372036854775807) then
(let v12 : List Int := (List.replicate (Int.toNat a1) (0 : Int))
(j1_1 r9 r11 v12 v10))
else
none)))
(same (bif decide ((0 : Int) ≤ a1 ∧ a1 ≤ a1 ∧ (8 : Int) * a1 ≤ 281474976710656 ∧ a1 ≤ 9223372036854775807) then
(let v11 : List Int := (List.replicate (Int.toNat a1) (0 : Int))
(same (Option.bind (I.MarksNew a2) fun r12 =>
(j1_1 r9 r12 v11 v10))
(Option.bind (I.MarksNew a2) fun r12 =>
(j1_1 r9 r12 v11 v10))))
else
none)
(same (Option.bind (I.MarksNew a2) fun r11 =>
(bif decide ((0 : Int) ≤ a1 ∧ a1 ≤ a1 ∧ (8 : Int) * a1 ≤ 281474976710656 ∧ a1 ≤ 9223372036854775807) then
(let v12 : List Int := (List.replicate (Int.toNat a1) (0 : Int))
(j1_1 r9 r11 v12 v10))
else
none))
(bif decide ((0 : Int) ≤ a1 ∧ a1 ≤ a1 ∧ (8 : Int) * a1 ≤ 281474976710656 ∧ a1 ≤ 9223372036854775807) then
(let v11 : List Int := (List.replicate (Int.toNat a1) (0 : Int))
(Option.bind (I.MarksNew a2) fun r12 =>
(j1_1 r9 r12 v11 v10)))
else
none)))))
else
none)
(same (Option.bind (I.MarksNew a2) fun r10 =>
(same (bif decide ((0 : Int) ≤ a1 ∧ a1 ≤ a1 ∧ (8 : Int) * a1 ≤ 281474976710656 ∧ a1 ≤ 9223372036854775807) then
(let v11 : List Int := (List.replicate (Int.toNat a1) (0 : Int))
(bif decide ((0 : Int) ≤ v8 ∧ v8 ≤ v8 ∧ (8 : Int) * v8 ≤ 281474976710656 ∧ v8 ≤ 9223372036854775807) then
(let v12 : List Int := (List.replicate (Int.toNat v8) (0 : Int))
(j1_1 r9 r10 v11 v12))
else
none))
else
none)
(bif decide ((0 : Int) ≤ v8 ∧ v8 ≤ v8 ∧ (8 : Int) * v8 ≤ 281474976710656 ∧ v8 ≤ 9223372036854775807) then
(let v11 : List Int := (List.replicate (Int.toNat v8) (0 : Int))
(bif decide ((0 : Int) ≤ a1 ∧ a1 ≤ a1 ∧ (8 : Int) * a1 ≤ 281474976710656 ∧ a1 ≤ 9223372036854775807) then
(let v12 : List Int := (List.replicate (Int.toNat a1) (0 : Int))
(j1_1 r9 r10 v12 v11))
else
none))
else
none)))
(same (bif decide ((0 : Int) ≤ a1 ∧ a1 ≤ a1 ∧ (8 : Int) * a1 ≤ 281474976710656 ∧ a1 ≤ 9223372036854775807) then
(let v10 : List Int := (List.replicate (Int.toNat a1) (0 : Int))
(same (Option.bind (I.MarksNew a2) fun r11 =>
(bif decide ((0 : Int) ≤ v8 ∧ v8 ≤ v8 ∧ (8 : Int) * v8 ≤ 281474976710656 ∧ v8 ≤ 9223372036854775807) then
(let v12 : List Int := (List.replicate (Int.toNat v8) (0 : Int))
(j1_1 r9 r11 v10 v12))
else
none))
(bif decide ((0 : Int) ≤ v8 ∧ v8 ≤ v8 ∧ (8 : Int) * v8 ≤ 281474976710656 ∧ v8 ≤ 9223372036854775807) then
(let v11 : List Int := (List.replicate (Int.toNat v8) (0 : Int))
(Option.bind (I.MarksNew a2) fun r12 =>
(j1_1 r9 r12 v10 v11)))
else
none)))
else
none)
(bif decide ((0 : Int) ≤ v8 ∧ v8 ≤ v8 ∧ (8 : Int) * v8 ≤ 281474976710656 ∧ v8 ≤ 9223372036854775807) then
(let v10 : List Int := (List.replicate (Int.toNat v8) (0 : Int))
(same (Option.bind (I.MarksNew a2) fun r11 =>
(bif decide ((0 : Int) ≤ a1 ∧ a1 ≤ a1 ∧ (8 : Int) * a1 ≤ 281474976710656 ∧ a1 ≤ 9223372036854775807) then
(let v12 : List Int := (List.replicate (Int.toNat a1) (0 : Int))
(j1_1 r9 r11 v12 v10))
else
none))
(bif decide ((0 : Int) ≤ a1 ∧ a1 ≤ a1 ∧ (8 : Int) * a1 ≤ 281474976710656 ∧ a1 ≤ 9223372036854775807) then
(let v11 : List Int := (List.replicate (Int.toNat a1) (0 : Int))
(Option.bind (I.MarksNew a2) fun r12 =>
(j1_1 r9 r12 v11 v10)))
else
none)))
else
none)))))))
(same (bif decide ((0 : Int) ≤ a1 ∧ a1 ≤ a1 ∧ (8 : Int) * a1 ≤ 281474976710656 ∧ a1 ≤ 9223372036854775807) then
(let v9 : List Int := (List.replicate (Int.toNat a1) (0 : Int))
(same (Option.bind (I.Conf_copied a1 a2 a3 a4 a5 a6 a7) fun r10 =>
(same (Option.bind (I.MarksNew a2) fun r11 =>
(same (bif decide ((0 : Int) ≤ v8 ∧ v8 ≤ v8 ∧ (8 : Int) * v8 ≤ 281474976710656 ∧ v8 ≤ 9223372036854775807) then
(let v12 : List Int := (List.replicate (Int.toNat v8) (0 : Int))
(j1_1 r10 r11 v9 v12))
else
none)
(bif decide ((0 : Int) ≤ v8 ∧ v8 ≤ v8 ∧ (8 : Int) * v8 ≤ 281474976710656 ∧ v8 ≤ 9223372036854775807) then
(let v12 : List Int := (List.replicate (Int.toNat v8) (0 : Int))
(j1_1 r10 r11 v9 v12))
else
none)))
(same (bif decide ((0 : Int) ≤ v8 ∧ v8 ≤ v8 ∧ (8 : Int) * v8 ≤ 281474976710656 ∧ v8 ≤ 9223372036854775807) then
(let v11 : List Int := (List.replicate (Int.toNat v8) (0 : Int))
(same (Option.bind (I.MarksNew a2) fun r12 =>
(j1_1 r10 r12 v9 v11))
(Option.bind (I.MarksNew a2) fun r12 =>
(j1_1 r10 r12 v9 v11))))
else
none)
(same (Option.bind (I.MarksNew a2) fun r11 =>
(bif decide ((0 : Int) ≤ v8 ∧ v8 ≤ v8 ∧ (8 : Int) * v8 ≤ 281474976710656 ∧ v8 ≤ 9223372036854775807) then
(let v12 : List Int := (List.replicate (Int.toNat v8) (0 : Int))
(j1_1 r10 r11 v9 v12))
else
none))
(bif decide ((0 : Int) ≤ v8 ∧ v8 ≤ v8 ∧ (8 : Int) * v8 ≤ 281474976710656 ∧ v8 ≤ 9223372036854775807) then
(let v11 : List Int := (List.replicate (Int.toNat v8) (0 : Int))
(Option.bind (I.MarksNew a2) fun r12 =>
(j1_1 r10 r12 v9 v11)))
else
none)))))
(same (bif decide ((0 : Int) ≤ v8 ∧ v8 ≤ v8 ∧ (8 : Int) * v8 ≤ 281474976710656 ∧ v8 ≤ 9223372036854775807) then
(let v10 : List Int := (List.replicate (Int.toNat v8) (0 : Int))
(same (Option.bind (I.Conf_copied a1 a2 a3 a4 a5 a6 a7) fun r11 =>
(same (Option.bind (I.MarksNew a2) fun r12 =>
(j1_1 r11 r12 v9 v10))
(Option.bind (I.MarksNew a2) fun r12 =>
(j1_1 r11 r12 v9 v10))))
(Option.bind (I.Conf_copied a1 a2 a3 a4 a5 a6 a7) fun r11 =>
(Option.bind (I.MarksNew a2) fun r12 =>
(j1_1 r11 r12 v9 v10)))))
else
none)
(same (Option.bind (I.Conf_copied a1 a2 a3 a4 a5 a6 a7) fun r10 =>
(same (Option.bind (I.MarksNew a2) fun r11 =>
(bif decide ((0 : Int) ≤ v8 ∧ v8 ≤ v8 ∧ (8 : Int) * v8 ≤ 281474976710656 ∧ v8 ≤ 9223372036854775807) then
(let v12 : List Int := (List.replicate (Int.toNat v8) (0 : Int))
(j1_1 r10 r11 v9 v12))
else
none))
(bif decide ((0 : Int) ≤ v8 ∧ v8 ≤ v8 ∧ (8 : Int) * v8 ≤ 281474976710656 ∧ v8 ≤ 9223372036854775807) then
(let v11 : List Int := (List.replicate (Int.toNat v8) (0 : Int))
(Option.bind (I.MarksNew a2) fun r12 =>
(j1_1 r10 r12 v9 v11)))
else
none)))
(bif decide ((0 : Int) ≤ v8 ∧ v8 ≤ v8 ∧ (8 : Int) * v8 ≤ 281474976710656 ∧ v8 ≤ 9223372036854775807) then
(let v10 : List Int := (List.replicate (Int.toNat v8) (0 : Int))
(Option.bind (I.Conf_copied a1 a2 a3 a4 a5 a6 a7) fun r11 =>
(Option.bind (I.MarksNew a2) fun r12 =>
(j1_1 r11 r12 v9 v10))))
else
none)))))
else
none)
(same (bif decide ((0 : Int) ≤ v8 ∧ v8 ≤ v8 ∧ (8 : Int) * v8 ≤ 281474976710656 ∧ v8 ≤ 9223372036854775807) then
(let v9 : List Int := (List.replicate (Int.toNat v8) (0 : Int))
(same (Option.bind (I.Conf_copied a1 a2 a3 a4 a5 a6 a7) fun r10 =>
(same (Option.bind (I.MarksNew a2) fun r11 =>
(same (bif decide ((0 : Int) ≤ a1 ∧ a1 ≤ a1 ∧ (8 : Int) * a1 ≤ 281474976710656 ∧ a1 ≤ 9223372036854775807) then
(let v12 : List Int := (List.replicate (Int.toNat a1) (0 : Int))
(j1_1 r10 r11 v12 v9))
else
none)
(bif decide ((0 : Int) ≤ a1 ∧ a1 ≤ a1 ∧ (8 : Int) * a1 ≤ 281474976710656 ∧ a1 ≤ 9223372036854775807) then
(let v12 : List Int := (List.replicate (Int.toNat a1) (0 : Int))
(j1_1 r10 r11 v12 v9))
else
none)))
(same (bif decide ((0 : Int) ≤ a1 ∧ a1 ≤ a1 ∧ (8 : Int) * a1 ≤ 281474976710656 ∧ a1 ≤ 9223372036854775807) then
(let v11 : List Int := (List.replicate (Int.toNat a1) (0 : Int))
(same (Option.bind (I.MarksNew a2) fun r12 =>
(j1_1 r10 r12 v11 v9))
(Option.bind (I.MarksNew a2) fun r12 =>
(j1_1 r10 r12 v11 v9))))
else
none)
(same (Option.bind (I.MarksNew a2) fun r11 =>
(bif decide ((0 : Int) ≤ a1 ∧ a1 ≤ a1 ∧ (8 : Int) * a1 ≤ 281474976710656 ∧ a1 ≤ 9223372036854775807) then
(let v12 : List Int := (List.replicate (Int.toNat a1) (0 : Int))
(j1_1 r10 r11 v12 v9))
else
none))
(bif decide ((0 : Int) ≤ a1 ∧ a1 ≤ a1 ∧ (8 : Int) * a1 ≤ 281474976710656 ∧ a1 ≤ 9223372036854775807) then
(let v11 : List Int := (List.replicate (Int.toNat a1) (0 : Int))
(Option.bind (I.MarksNew a2) fun r12 =>
(j1_1 r10 r12 v11 v9)))
else
none)))))
(same (bif decide ((0 : Int) ≤ a1 ∧ a1 ≤ a1 ∧ (8 : Int) * a1 ≤ 281474976710656 ∧ a1 ≤ 9223372036854775807) then
(let v10 : List Int := (List.replicate (Int.toNat a1) (0 : Int))
(same (Option.bind (I.Conf_copied a1 a2 a3 a4 a5 a6 a7) fun r11 =>
(same (Option.bind (I.MarksNew a2) fun r12 =>
(j1_1 r11 r12 v10 v9))
(Option.bind (I.MarksNew a2) fun r12 =>
(j1_1 r11 r12 v10 v9))))
(Option.bind (I.Conf_copied a1 a2 a3 a4 a5 a6 a7) fun r11 =>
(Option.bind (I.MarksNew a2) fun r12 =>
(j1_1 r11 r12 v10 v9)))))
else
none)
(same (Option.bind (I.Conf_copied a1 a2 a3 a4 a5 a6 a7) fun r10 =>
(same (Option.bind (I.MarksNew a2) fun r11 =>
(bif decide ((0 : Int) ≤ a1 ∧ a1 ≤ a1 ∧ (8 : Int) * a1 ≤ 281474976710656 ∧ a1 ≤ 9223372036854775807) then
(let v12 : List Int := (List.replicate (Int.toNat a1) (0 : Int))
(j1_1 r10 r11 v12 v9))
else
none))
(bif decide ((0 : Int) ≤ a1 ∧ a1 ≤ a1 ∧ (8 : Int) * a1 ≤ 281474976710656 ∧ a1 ≤ 9223372036854775807) then
(let v11 : List Int := (List.replicate (Int.toNat a1) (0 : Int))
(Option.bind (I.MarksNew a2) fun r12 =>
(j1_1 r10 r12 v11 v9)))
else
none)))
(bif decide ((0 : Int) ≤ a1 ∧ a1 ≤ a1 ∧ (8 : Int) * a1 ≤ 281474976710656 ∧ a1 ≤ 9223372036854775807) then
(let v10 : List Int := (List.replicate (Int.toNat a1) (0 : Int))
(Option.bind (I.Conf_copied a1 a2 a3 a4 a5 a6 a7) fun r11 =>
(Option.bind (I.MarksNew a2) fun r12 =>
(j1_1 r11 r12 v10 v9))))
else
none)))))
else
none)
(same (Option.bind (I.Conf_copied a1 a2 a3 a4 a5 a6 a7) fun r9 =>
(same (Option.bind (I.MarksNew a2) fun r10 =>
(same (bif decide ((0 : Int) ≤ a1 ∧ a1 ≤ a1 ∧ (8 : Int) * a1 ≤ 281474976710656 ∧ a1 ≤ 9223372036854775807) then
(let v11 : List Int := (List.replicate (Int.toNat a1) (0 : Int))
(bif decide ((0 : Int) ≤ v8 ∧ v8 ≤ v8 ∧ (8 : Int) * v8 ≤ 281474976710656 ∧ v8 ≤ 9223372036854775807) then
(let v12 : List Int := (List.replicate (Int.toNat v8) (0 : Int))
(j1_1 r9 r10 v11 v12))
else
none))
else
none)
(bif decide ((0 : Int) ≤ v8 ∧ v8 ≤ v8 ∧ (8 : Int) * v8 ≤ 281474976710656 ∧ v8 ≤ 9223372036854775807) then
(let v11 : List Int := (List.replicate (Int.toNat v8) (0 : Int))
(bif decide ((0 : Int) ≤ a1 ∧ a1 ≤ a1 ∧ (8 : Int) * a1 ≤ 281474976710656 ∧ a1 ≤ 9223372036854775807) then
(let v12 : List Int := (List.replicate (Int.toNat a1) (0 : Int))
(j1_1 r9 r10 v12 v11))
else
none))
else
none)))
(same (bif decide ((0 : Int) ≤ a1 ∧ a1 ≤ a1 ∧ (8 : Int) * a1 ≤ 281474976710656 ∧ a1 ≤ 9223372036854775807) then
(let v10 : List Int := (List.replicate (Int.toNat a1) (0 : Int))
(same (Option.bind (I.MarksNew a2) fun r11 =>
(bif decide ((0 : Int) ≤ v8 ∧ v8 ≤ v8 ∧ (8 : Int) * v8 ≤ 281474976710656 ∧ v8 ≤ 9223372036854775807) then
(let v12 : List Int := (List.replicate (Int.toNat v8) (0 : Int))
(j1_1 r9 r11 v10 v12))
else
none))
(bif decide ((0 : Int) ≤ v8 ∧ v8 ≤ v8 ∧ (8 : Int) * v8 ≤ 281474976710656 ∧ v8 ≤ 9223372036854775807) then
(let v11 : List Int := (List.replicate (Int.toNat v8) (0 : Int))
(Option.bind (I.MarksNew a2) fun r12 =>
(j1_1 r9 r12 v10 v11)))
else
none)))
else
none)
(bif decide ((0 : Int) ≤ v8 ∧ v8 ≤ v8 ∧ (8 : Int) * v8 ≤ 281474976710656 ∧ v8 ≤ 9223372036854775807) then
(let v10 : List Int := (List.replicate (Int.toNat v8) (0 : Int))
(same (Option.bind (I.MarksNew a2) fun r11 =>
(bif decide ((0 : Int) ≤ a1 ∧ a1 ≤ a1 ∧ (8 : Int) * a1 ≤ 281474976710656 ∧ a1 ≤ 9223372036854775807) then
(let v12 : List Int := (List.replicate (Int.toNat a1) (0 : Int))
(j1_1 r9 r11 v12 v10))
else
none))
(bif decide ((0 : Int) ≤ a1 ∧ a1 ≤ a1 ∧ (8 : Int) * a1 ≤ 281474976710656 ∧ a1 ≤ 9223372036854775807) then
(let v11 : List Int := (List.replicate (Int.toNat a1) (0 : Int))
(Option.bind (I.MarksNew a2) fun r12 =>
(j1_1 r9 r12 v11 v10)))
else
none)))
else
none))))
(same (bif decide ((0 : Int) ≤ a1 ∧ a1 ≤ a1 ∧ (8 : Int) * a1 ≤ 281474976710656 ∧ a1 ≤ 9223372036854775807) then
(let v9 : List Int := (List.replicate (Int.toNat a1) (0 : Int))
(same (Option.bind (I.Conf_copied a1 a2 a3 a4 a5 a6 a7) fun r10 =>
(same (Option.bind (I.MarksNew a2) fun r11 =>
(bif decide ((0 : Int) ≤ v8 ∧ v8 ≤ v8 ∧ (8 : Int) * v8 ≤ 281474976710656 ∧ v8 ≤ 9223372036854775807) then
(let v12 : List Int := (List.replicate (Int.toNat v8) (0 : Int))
(j1_1 r10 r11 v9 v12))
else
none))
(bif decide ((0 : Int) ≤ v8 ∧ v8 ≤ v8 ∧ (8 : Int) * v8 ≤ 281474976710656 ∧ v8 ≤ 9223372036854775807) then
(let v11 : List Int := (List.replicate (Int.toNat v8) (0 : Int))
(Option.bind (I.MarksNew a2) fun r12 =>
(j1_1 r10 r12 v9 v11)))
else
none)))
(bif decide ((0 : Int) ≤ v8 ∧ v8 ≤ v8 ∧ (8 : Int) * v8 ≤ 281474976710656 ∧ v8 ≤ 9223372036854775807) then
(let v10 : List Int := (List.replicate (Int.toNat v8) (0 : Int))
(Option.bind (I.Conf_copied a1 a2 a3 a4 a5 a6 a7) fun r11 =>
(Option.bind (I.MarksNew a2) fun r12 =>
(j1_1 r11 r12 v9 v10))))
else
none)))
else
none)
(bif decide ((0 : Int) ≤ v8 ∧ v8 ≤ v8 ∧ (8 : Int) * v8 ≤ 281474976710656 ∧ v8 ≤ 9223372036854775807) then
(let v9 : List Int := (List.replicate (Int.toNat v8) (0 : Int))
(same (Option.bind (I.Conf_copied a1 a2 a3 a4 a5 a6 a7) fun r10 =>
(same (Option.bind (I.MarksNew a2) fun r11 =>
(bif decide ((0 : Int) ≤ a1 ∧ a1 ≤ a1 ∧ (8 : Int) * a1 ≤ 281474976710656 ∧ a1 ≤ 9223372036854775807) then
(let v12 : List Int := (List.replicate (Int.toNat a1) (0 : Int))
(j1_1 r10 r11 v12 v9))
else
none))
(bif decide ((0 : Int) ≤ a1 ∧ a1 ≤ a1 ∧ (8 : Int) * a1 ≤ 281474976710656 ∧ a1 ≤ 9223372036854775807) then
(let v11 : List Int := (List.replicate (Int.toNat a1) (0 : Int))
(Option.bind (I.MarksNew a2) fun r12 =>
(j1_1 r10 r12 v11 v9)))
else
none)))
(bif decide ((0 : Int) ≤ a1 ∧ a1 ≤ a1 ∧ (8 : Int) * a1 ≤ 281474976710656 ∧ a1 ≤ 9223372036854775807) then
(let v10 : List Int := (List.replicate (Int.toNat a1) (0 : Int))
(Option.bind (I.Conf_copied a1 a2 a3 a4 a5 a6 a7) fun r11 =>
(Option.bind (I.MarksNew a2) fun r12 =>
(j1_1 r11 r12 v10 v9))))
else
none)))
else
none))))))))
noncomputable def H66_3 : LoopH := ⟨⟨(hu 2 ((.one (.ptr 0 0)) :: (.one (.ptr 1 0)) :: (hu 17 ((.one (.sl 0)) :: hh :: hh :: (hu 15 []))))), [(57, (ho 14 [])), (57, ((.hole) :: (.sl 1) :: (ho 2 ((.sl 2) :: (.sl 3) :: (.sl 4) :: (ho 2 [.sl 5, .hole, .sl 6, .sl 7, .sl 8])))))], [(126, sh3, .ro), (87, (.int .u64), .own), (190, sh5, .own), (126, sh3, .own), (159, sh4, .own), (225, sh6, .own), (3, (.int .i64), .own), (3, (.int .i64), .own), (122, sh8, .own)]⟩, ([0, 1] ++ rg 4 17 ++ rg 24 15), [], ([0, 1] ++ rg 4 35), [], [(3, 13, 122)]⟩
noncomputable def k66_3 : List PK := (ki 3 ((.nil) :: (ki 2 ((.nil) :: (.nil) :: (.nil) :: (.nil) :: (.int .i64) :: (.nil) :: (.nil) :: (.nil) :: (.nil) :: (.nil) :: (ki 3 [.nil, .int .i64, .nil, .row sh3, .row (.int .u64), .row sh5, .row sh3, .row sh4, .row sh6, .row (.int .i64), .row (.int .i64), .row sh8])))))
noncomputable def W66_3 (m : Nat) (k : Kont (Int × Int × Int × Int × List Int × (List ty6) × (List (Int × Int × Int)) × (List ty10) × (List (Int × Int × Int × Int)) × (List (Int × Bool)) × (List ty5) × List Int × List Int × (List ty3))) : Cur k66_3 (Option (Int × Int × Int × Int × List Int × (List ty6) × (List (Int × Int × Int)) × (List ty10) × (List (Int × Int × Int × Int)) × (List (Int × Bool)) × (List ty5) × List Int × List Int × (List ty3))) := I.engNew_l0 m (exF k (.exit 0) ⟨(hu 2 ((.one (.ptr 0 0)) :: (.one (.ptr 1 0)) :: (hu 35 []))), [(57, (ho 14 [])), (57, ((.hole) :: (.sl 0) :: (ho 2 ((.sl 1) :: (.sl 2) :: (.sl 3) :: (ho 2 [.sl 4, .hole, .sl 5, .sl 6, .sl 7])))))], [(87, (.int .u64), .own), (190, sh5, .own), (126, sh3, .own), (159, sh4, .own), (225, sh6, .own), (3, (.int .i64), .own), (3, (.int .i64), .own), (122, sh8, .own)]⟩ ((.int .i64) :: (.nil) :: (ki 2 ((.nil) :: (.nil) :: (.nil) :: (.nil) :: (.int .i64) :: (.nil) :: (.nil) :: (.nil) :: (.nil) :: (.nil) :: (ki 3 [.nil, .int .i64, .nil, .row (.int .u64), .row sh5, .row sh3, .row sh4, .row sh6, .row (.int .i64), .row (.int .i64), .row sh8])))))
noncomputable def E66_3 (m : Nat) : List Prm → Kont (Int × Int × Int × Int × List Int × (List ty6) × (List (Int × Int × Int)) × (List ty10) × (List (Int × Int × Int × Int)) × (List (Int × Bool)) × (List ty5) × List Int × List Int × (List ty3)) → Option (Int × Int × Int × Int × List Int × (List ty6) × (List (Int × Int × Int)) × (List ty10) × (List (Int × Int × Int × Int)) × (List (Int × Bool)) × (List ty5) × List Int × List Int × (List ty3)) := eL k66_3 (W66_3 m)
theorem ev66_3 (m : Nat) (k : Kont (Int × Int × Int × Int × List Int × (List ty6) × (List (Int × Int × Int)) × (List ty10) × (List (Int × Int × Int × Int)) × (List (Int × Bool)) × (List ty5) × List Int × List Int × (List ty3))) (a : Args k66_3) : evL Tryz.prog G66 loopNil c66_3 (turn Tryz.prog (0, 0) H66_3 (E66_3 m) k) (H66_3.sk.fl (encP k66_3 a)) = unc k66_3 (W66_3 (m + 1) k) a := by kernel_rfl
theorem ok66_3 (m : Nat) : LoopOk Tryz.prog (0, 0) c66_3 (enter Tryz.prog (0, 0) H66_3 (E66_3 m)) := loop_gen (Fl := W66_3) (G := G66) (L := loopNil) (envCons_good good148 (envCons_good good149 envNil_good)) (no_loops (c := c66_3) (by kernel_rfl)) (fun _ _ => by kernel_rfl) ev66_3 m
noncomputable def L66 : LEnv (Int × Int × Int × Int × List Int × (List ty6) × (List (Int × Int × Int)) × (List ty10) × (List (Int × Int × Int × Int)) × (List (Int × Bool)) × (List ty5) × List Int × List Int × (List ty3)) := (loopCons 3 (enter Tryz.prog (0, 0) H66_3 (E66_3 fu)) loopNil)
theorem lq66 : loopsOf c66 = [c66_3] := by kernel_rfl
theorem fr66_3 : firstReg c66_3 = some 3 := by kernel_rfl
theorem le66_3 : L66 3 = enter Tryz.prog (0, 0) H66_3 (E66_3 fu) := by kernel_rfl
theorem lm66 : ∀ x ∈ [c66_3], ∀ id, firstReg x = some id → LoopOk Tryz.prog (0, 0) x (L66 id) := (loops_cons fr66_3 le66_3 (ok66_3 fu) loops_nil)
theorem lp66 : ∀ x ∈ loopsOf c66, ∀ id, firstReg x = some id → LoopOk Tryz.prog (0, 0) x (L66 id) := loops_eq lq66 lm66
noncomputable def sg66 : Sg := ⟨⟨[.agg ((.hole) :: (.sl 0) :: (ho 2 [.sl 1, .sl 2, .sl 3]))], [], [(87, (.int .u64), .ro), (190, sh5, .ro), (126, sh3, .ro), (159, sh4, .ro)]⟩, (ki 3 [.row (.int .u64), .row sh5, .row sh3, .row sh4]), ⟨[.agg ((.hole) :: (.sl 0) :: (ho 2 [.sl 1, .sl 2, .sl 3, .sl 4, .hole, .sl 5, .sl 6, .sl 7, .sl 8, .sl 9]))], [], [(87, (.int .u64), .own), (190, sh5, .own), (126, sh3, .own), (159, sh4, .own), (156, sh9, .own), (225, sh6, .own), (105, sh10, .own), (3, (.int .i64), .own), (3, (.int .i64), .own), (122, sh8, .own)]⟩, (ki 4 [.row (.int .u64), .row sh5, .row sh3, .row sh4, .row sh9, .row sh6, .row sh10, .row (.int .i64), .row (.int .i64), .row sh8])⟩
noncomputable def E66 : Fun2 := eOf sg66 I.engNew
theorem ev66 (a : Args sg66.ks) : evS Tryz.prog G66 L66 (0, 0) [] Tryz.f66 c66 (kOf sg66) (sg66.sk.fl (encP sg66.ks a)) = unc sg66.ks I.engNew a := by kernel_rfl
theorem good66 : Vm.Good Tryz.prog 66 E66 := good_gen (G := G66) (L := L66) (c := c66) (rn := []) (N := (0, 0)) (envCons_good good148 (envCons_good good149 envNil_good)) lp66 Tryz.func66 (by kernel_rfl) (by kernel_rfl) (fun _ => by kernel_rfl) ev66
noncomputable def G19 : Env := (envCons 65 [] E65 (envCons 66 [] E66 envNil))
noncomputable def c19 : Code := bodyOf Tryz.f19
noncomputable def I.EngNew (a1 a2 a3 : Int) (a4 : List Int) (a5 : List ty6) (a6 : List (Int × Int × Int)) (a7 : List ty10) : Option (Int × Int × Int × Int × Bool × List Int × (List ty6) × (List (Int × Int × Int)) × (List ty10) × (List (Int × Int × Int × Int)) × (List (Int × Bool)) × (List ty5) × List Int × List Int × (List ty3)) :=
(Option.bind (I.isConf a1 a2 a3 a4 a5 a6 a7) fun r8 =>
(bif (!r8) then
(some (0, 0, 0, 0, false, [], [], [], [], [], [], [], [], [], []))
else
(Option.bind (I.engNew a1 a2 a3 a4 a5 a6 a7) fun r9 =>
(some (r9.1, r9.2.1, r9.2.2.1, r9.2.2.2.1, true, r9.2.2.2.2.1, r9.2.2.2.2.2.1, r9.2.2.2.2.2.2.1, r9.2.2.2.2.2.2.2.1, r9.2.2.2.2.2.2.2.2.1, r9.2.2.2.2.2.2.2.2.2.1, r9.2.2.2.2.2.2.2.2.2.2.1, r9.2.2.2.2.2.2.2.2.2.2.2.1, r9.2.2.2.2.2.2.2.2.2.2.2.2.1, r9.2.2.2.2.2.2.2.2.2.2.2.2.2)))))
noncomputable def sg19 : Sg := ⟨⟨[.agg ((.hole) :: (.sl 0) :: (ho 2 [.sl 1, .sl 2, .sl 3]))], [], [(87, (.int .u64), .ro), (190, sh5, .ro), (126, sh3, .ro), (159, sh4, .ro)]⟩, (ki 3 [.row (.int .u64), .row sh5, .row sh3, .row sh4]), ⟨[.agg ((.hole) :: (.sl 0) :: (ho 2 [.sl 1, .sl 2, .sl 3, .sl 4, .hole, .sl 5, .sl 6, .sl 7, .sl 8, .sl 9])), hh], [], [(87, (.int .u64), .own), (190, sh5, .own), (126, sh3, .own), (159, sh4, .own), (156, sh9, .own), (225, sh6, .own), (105, sh10, .own), (3, (.int .i64), .own), (3, (.int .i64), .own), (122, sh8, .own)]⟩, (ki 4 [.bool, .row (.int .u64), .row sh5, .row sh3, .row sh4, .row sh9, .row sh6, .row sh10, .row (.int .i64), .row (.int .i64), .row sh8])⟩
noncomputable def E19 : Fun2 := eOf sg19 I.EngNew
theorem ev19 (a : Args sg19.ks) : evS Tryz.prog G19 loopNil (0, 0) [] Tryz.f19 c19 (kOf sg19) (sg19.sk.fl (encP sg19.ks a)) = unc sg19.ks I.EngNew a := by kernel_rfl
theorem good19 : Vm.Good Tryz.prog 19 E19 := good_gen (G := G19) (L := loopNil) (c := c19) (rn := []) (N := (0, 0)) (envCons_good good65 (envCons_good good66 envNil_good)) (no_loops (c := c19) (by kernel_rfl)) Tryz.func19 (by kernel_rfl) (by kernel_rfl) (fun _ => by kernel_rfl) ev19
noncomputable def G92 : Env := envNil
noncomputable def c92 : Code := bodyOf Tryz.f92
noncomputable def c92_4 : Code := (loopsOf c92).getD 0 .skip
noncomputable def L.eqUint64S_l0 : Nat → (Bool → Option Bool) → (Option Bool) → Int → List Int → List Int → Option Bool
  | 0, _, _, _, _, _ => none
  | m + 1, e4_0, e4_1, a5, a6, a7 =>
    (bif (decide (a5 < (a6.length : Int))) then
    (bif decide ((0 : Int) ≤ a5 ∧ a5 < (a6.length : Int)) then
    (bif decide ((0 : Int) ≤ a5 ∧ a5 < (a7.length : Int)) then
    (bif ((nthI a6 a5 (0 : Int)) != (nthI a7 a5 (0 : Int))) then
    (e4_0 false)
    else
    (L.eqUint64S_l0 m e4_0 e4_1 (IntKind.wrap .i64 (a5 + 1)) a6 a7))
    else
    none)
    else
    none)
    else
    e4_1)
noncomputable def L.eqUint64S (a1 a2 : List Int) : Option Bool :=
(bif ((a1.length : Int) != (a2.length : Int)) then
(some false)
else
(L.eqUint64S_l0 fu (fun y12 =>
(some y12)) (some true) 0 a1 a2))
noncomputable def H92_4 : LoopH := ⟨⟨((.one (.sl 0)) :: (.one (.sl 1)) :: (hu 3 (hh :: (hu 20 [])))), [], [(87, (.int .u64), .ro), (87, (.int .u64), .ro)]⟩, ([2, 3, 4] ++ rg 6 20), [], (rg 0 4 ++ rg 5 21), [], []⟩
noncomputable def k92_4 : List PK := [.int .i64, .row (.int .u64), .row (.int .u64)]
noncomputable def W92_4 (m : Nat) (k : Kont Bool) : Cur k92_4 (Option Bool) := L.eqUint64S_l0 m (exF k .ret ⟨(hu 4 (hh :: (hu 21 []))), [], []⟩ [.bool]) (exF k (.exit 0) ⟨(hu 26 []), [], []⟩ [])
noncomputable def E92_4 (m : Nat) : List Prm → Kont Bool → Option Bool := eL k92_4 (W92_4 m)
theorem ev92_4 (m : Nat) (k : Kont Bool) (a : Args k92_4) : evL Tryz.prog G92 loopNil c92_4 (turn Tryz.prog (0, 0) H92_4 (E92_4 m) k) (H92_4.sk.fl (encP k92_4 a)) = unc k92_4 (W92_4 (m + 1) k) a := by kernel_rfl
theorem ok92_4 (m : Nat) : LoopOk Tryz.prog (0, 0) c92_4 (enter Tryz.prog (0, 0) H92_4 (E92_4 m)) := loop_gen (Fl := W92_4) (G := G92) (L := loopNil) envNil_good (no_loops (c := c92_4) (by kernel_rfl)) (fun _ _ => by kernel_rfl) ev92_4 m
noncomputable def L92 : LEnv Bool := (loopCons 4 (enter Tryz.prog (0, 0) H92_4 (E92_4 fu)) loopNil)
theorem lq92 : loopsOf c92 = [c92_4] := by kernel_rfl
theorem fr92_4 : firstReg c92_4 = some 4 := by kernel_rfl
theorem le92_4 : L92 4 = enter Tryz.prog (0, 0) H92_4 (E92_4 fu) := by kernel_rfl
theorem lm92 : ∀ x ∈ [c92_4], ∀ id, firstReg x = some id → LoopOk Tryz.prog (0, 0) x (L92 id) := (loops_cons fr92_4 le92_4 (ok92_4 fu) loops_nil)
theorem lp92 : ∀ x ∈ loopsOf c92, ∀ id, firstReg x = some id → LoopOk Tryz.prog (0, 0) x (L92 id) := loops_eq lq92 lm92
noncomputable def sg92 : Sg := ⟨⟨[.one (.sl 0), .one (.sl 1)], [], [(87, (.int .u64), .ro), (87, (.int .u64), .ro)]⟩, [.row (.int .u64), .row (.int .u64)], ⟨[hh], [], []⟩, [.bool]⟩
noncomputable def E92 : Fun2 := eOf sg92 L.eqUint64S
theorem ev92 (a : Args sg92.ks) : evS Tryz.prog G92 L92 (0, 0) [] Tryz.f92 c92 (kOf sg92) (sg92.sk.fl (encP sg92.ks a)) = unc sg92.ks L.eqUint64S a := by kernel_rfl
theorem good92 : Vm.Good Tryz.prog 92 E92 := good_gen (G := G92) (L := L92) (c := c92) (rn := []) (N := (0, 0)) envNil_good lp92 Tryz.func92 (by kernel_rfl) (by kernel_rfl) (fun _ => by kernel_rfl) ev92
noncomputable def G30 : Env := (envCons 92 [] E92 envNil)
noncomputable def c30 : Code := bodyOf Tryz.f30
noncomputable def L.eqLat (a1 a2 : Int) (a3 a4 : List Int) : Option Bool :=
(bif (a1 != a2) then
(some false)
else
(Option.bind (L.eqUint64S a3 a4) fun r5 =>
(bif (!r5) then
(some false)
else
(some true))))
noncomputable def sg30 : Sg := ⟨⟨[.agg [.hole, .sl 0], .agg [.hole, .sl 1]], [], [(87, (.int .u64), .ro), (87, (.int .u64), .ro)]⟩, (ki 2 [.row (.int .u64), .row (.int .u64)]), ⟨[hh], [], []⟩, [.bool]⟩
noncomputable def E30 : Fun2 := eOf sg30 L.eqLat
theorem ev30 (a : Args sg30.ks) : evS Tryz.prog G30 loopNil (0, 0) [] Tryz.f30 c30 (kOf sg30) (sg30.sk.fl (encP sg30.ks a)) = unc sg30.ks L.eqLat a := by kernel_rfl
theorem good30 : Vm.Good Tryz.prog 30 E30 := good_gen (G := G30) (L := loopNil) (c := c30) (rn := []) (N := (0, 0)) (envCons_good good92 envNil_good) (no_loops (c := c30) (by kernel_rfl)) Tryz.func30 (by kernel_rfl) (by kernel_rfl) (fun _ => by kernel_rfl) ev30
noncomputable def G275 : Env := envNil
noncomputable def c275 : Code := bodyOf Tryz.f275
noncomputable def L.eqTok (a1 a2 a3 a4 : Int) : Option Bool :=
(bif (a1 != a3) then
(some false)
else
(bif (a2 != a4) then
(some false)
else
(some true)))
noncomputable def sg275 : Sg := ⟨⟨[.agg (ho 2 []), .agg (ho 2 [])], [], []⟩, (ki 4 []), ⟨[hh], [], []⟩, [.bool]⟩
noncomputable def E275 : Fun2 := eOf sg275 L.eqTok
theorem ev275 (a : Args sg275.ks) : evS Tryz.prog G275 loopNil (0, 0) [] Tryz.f275 c275 (kOf sg275) (sg275.sk.fl (encP sg275.ks a)) = unc sg275.ks L.eqTok a := by kernel_rfl
theorem good275 : Vm.Good Tryz.prog 275 E275 := good_gen (G := G275) (L := loopNil) (c := c275) (rn := []) (N := (0, 0)) envNil_good (no_loops (c := c275) (by kernel_rfl)) Tryz.func275 (by kernel_rfl) (by kernel_rfl) (fun _ => by kernel_rfl) ev275
noncomputable def G234 : Env := (envCons 275 [] E275 envNil)
noncomputable def c234 : Code := bodyOf Tryz.f234
noncomputable def c234_4 : Code := (loopsOf c234).getD 0 .skip
noncomputable def L.eqTokS_l0 : Nat → (Bool → Option Bool) → (Option Bool) → Int → (List (Int × Int)) → (List (Int × Int)) → Option Bool
  | 0, _, _, _, _, _ => none
  | m + 1, e4_0, e4_1, a5, a6, a7 =>
    (bif (decide (a5 < (a6.length : Int))) then
    (bif decide ((0 : Int) ≤ a5 ∧ a5 < (a6.length : Int)) then
    (bif decide ((0 : Int) ≤ a5 ∧ a5 < (a7.length : Int)) then
    (Option.bind (L.eqTok ((nthI a6 a5 df2).1) ((nthI a6 a5 df2).2) ((nthI a7 a5 df2).1) ((nthI a7 a5 df2).2)) fun r10 =>
    (bif (!r10) then
    (e4_0 false)
    else
    (L.eqTokS_l0 m e4_0 e4_1 (IntKind.wrap .i64 (a5 + 1)) a6 a7)))
    else
    none)
    else
    none)
    else
    e4_1)
noncomputable def L.eqTokS (a1 a2 : List (Int × Int)) : Option Bool :=
(bif ((a1.length : Int) != (a2.length : Int)) then
(some false)
else
(L.eqTokS_l0 fu (fun y12 =>
(some y12)) (some true) 0 a1 a2))
noncomputable def H234_4 : LoopH := ⟨⟨((.one (.sl 0)) :: (.one (.sl 1)) :: (hu 3 (hh :: (hu 21 [])))), [], [(255, sh1, .ro), (255, sh1, .ro)]⟩, ([2, 3, 4] ++ rg 6 21), [], (rg 0 4 ++ rg 5 22), [], []⟩
noncomputable def k234_4 : List PK := [.int .i64, .row sh1, .row sh1]
noncomputable def W234_4 (m : Nat) (k : Kont Bool) : Cur k234_4 (Option Bool) := L.eqTokS_l0 m (exF k .ret ⟨(hu 4 (hh :: (hu 22 []))), [], []⟩ [.bool]) (exF k (.exit 0) ⟨(hu 27 []), [], []⟩ [])
noncomputable def E234_4 (m : Nat) : List Prm → Kont Bool → Option Bool := eL k234_4 (W234_4 m)
theorem ev234_4 (m : Nat) (k : Kont Bool) (a : Args k234_4) : evL Tryz.prog G234 loopNil c234_4 (turn Tryz.prog (0, 0) H234_4 (E234_4 m) k) (H234_4.sk.fl (encP k234_4 a)) = unc k234_4 (W234_4 (m + 1) k) a := by kernel_rfl
theorem ok234_4 (m : Nat) : LoopOk Tryz.prog (0, 0) c234_4 (enter Tryz.prog (0, 0) H234_4 (E234_4 m)) := loop_gen (Fl := W234_4) (G := G234) (L := loopNil) (envCons_good good275 envNil_good) (no_loops (c := c234_4) (by kernel_rfl)) (fun _ _ => by kernel_rfl) ev234_4 m
noncomputable def L234 : LEnv Bool := (loopCons 4 (enter Tryz.prog (0, 0) H234_4 (E234_4 fu)) loopNil)
theorem lq234 : loopsOf c234 = [c234_4] := by kernel_rfl
theorem fr234_4 : firstReg c234_4 = some 4 := by kernel_rfl
theorem le234_4 : L234 4 = enter Tryz.prog (0, 0) H234_4 (E234_4 fu) := by kernel_rfl
theorem lm234 : ∀ x ∈ [c234_4], ∀ id, firstReg x = some id → LoopOk Tryz.prog (0, 0) x (L234 id) := (loops_cons fr234_4 le234_4 (ok234_4 fu) loops_nil)
theorem lp234 : ∀ x ∈ loopsOf c234, ∀ id, firstReg x = some id → LoopOk Tryz.prog (0, 0) x (L234 id) := loops_eq lq234 lm234
noncomputable def sg234 : Sg := ⟨⟨[.one (.sl 0), .one (.sl 1)], [], [(255, sh1, .ro), (255, sh1, .ro)]⟩, [.row sh1, .row sh1], ⟨[hh], [], []⟩, [.bool]⟩
noncomputable def E234 : Fun2 := eOf sg234 L.eqTokS
theorem ev234 (a : Args sg234.ks) : evS Tryz.prog G234 L234 (0, 0) [] Tryz.f234 c234 (kOf sg234) (sg234.sk.fl (encP sg234.ks a)) = unc sg234.ks L.eqTokS a := by kernel_rfl
theorem good234 : Vm.Good Tryz.prog 234 E234 := good_gen (G := G234) (L := L234) (c := c234) (rn := []) (N := (0, 0)) (envCons_good good275 envNil_good) lp234 Tryz.func234 (by kernel_rfl) (by kernel_rfl) (fun _ => by kernel_rfl) ev234
noncomputable def G235 : Env := envNil
noncomputable def c235 : Code := bodyOf Tryz.f235
noncomputable def L.eqWinDef (a1 a2 a3 a4 a5 a6 : Int) : Option Bool :=
(bif (a1 != a4) then
(some false)
else
(bif (a2 != a5) then
(some false)
else
(bif (a3 != a6) then
(some false)
else
(some true))))
noncomputable def sg235 : Sg := ⟨⟨[.agg (ho 3 []), .agg (ho 3 [])], [], []⟩, (ki 6 []), ⟨[hh], [], []⟩, [.bool]⟩
noncomputable def E235 : Fun2 := eOf sg235 L.eqWinDef
theorem ev235 (a : Args sg235.ks) : evS Tryz.prog G235 loopNil (0, 0) [] Tryz.f235 c235 (kOf sg235) (sg235.sk.fl (encP sg235.ks a)) = unc sg235.ks L.eqWinDef a := by kernel_rfl
theorem good235 : Vm.Good Tryz.prog 235 E235 := good_gen (G := G235) (L := loopNil) (c := c235) (rn := []) (N := (0, 0)) envNil_good (no_loops (c := c235) (by kernel_rfl)) Tryz.func235 (by kernel_rfl) (by kernel_rfl) (fun _ => by kernel_rfl) ev235
noncomputable def G153 : Env := (envCons 234 [] E234 (envCons 235 [] E235 envNil))
noncomputable def c153 : Code := bodyOf Tryz.f153
noncomputable def L.eqQuery (a1 a2 a3 a4 a5 a6 a7 a8 a9 a10 : Int) (a11 a12 a13 a14 : List (Int × Int)) : Option Bool :=
(Option.bind (L.eqTokS a11 a13) fun r15 =>
(bif (!r15) then
(some false)
else
(Option.bind (L.eqTokS a12 a14) fun r16 =>
(bif (!r16) then
(some false)
else
(Option.bind (L.eqWinDef a1 a2 a3 a6 a7 a8) fun r17 =>
(bif (!r17) then
(some false)
else
(bif (a4 != a9) then
(some false)
else
(bif (a5 != a10) then
(some false)
else
(some true)))))))))
noncomputable def sg153 : Sg := ⟨⟨[.agg ((.sl 0) :: (.sl 1) :: (ho 5 [])), .agg ((.sl 2) :: (.sl 3) :: (ho 5 []))], [], [(255, sh1, .ro), (255, sh1, .ro), (255, sh1, .ro), (255, sh1, .ro)]⟩, (ki 10 [.row sh1, .row sh1, .row sh1, .row sh1]), ⟨[hh], [], []⟩, [.bool]⟩
noncomputable def E153 : Fun2 := eOf sg153 L.eqQuery
theorem ev153 (a : Args sg153.ks) : evS Tryz.prog G153 loopNil (0, 0) [] Tryz.f153 c153 (kOf sg153) (sg153.sk.fl (encP sg153.ks a)) = unc sg153.ks L.eqQuery a := by kernel_rfl
theorem good153 : Vm.Good Tryz.prog 153 E153 := good_gen (G := G153) (L := loopNil) (c := c153) (rn := []) (N := (0, 0)) (envCons_good good234 (envCons_good good235 envNil_good)) (no_loops (c := c153) (by kernel_rfl)) Tryz.func153 (by kernel_rfl) (by kernel_rfl) (fun _ => by kernel_rfl) ev153
noncomputable def G70 : Env := (envCons 153 [] E153 envNil)
noncomputable def c70 : Code := bodyOf Tryz.f70
noncomputable def c70_4 : Code := (loopsOf c70).getD 0 .skip
noncomputable def L.eqQueryS_l0 : Nat → (Bool → Option Bool) → (Option Bool) → Int → (List ty6) → (List ty6) → Option Bool
  | 0, _, _, _, _, _ => none
  | m + 1, e4_0, e4_1, a5, a6, a7 =>
    (bif (decide (a5 < (a6.length : Int))) then
    (bif decide ((0 : Int) ≤ a5 ∧ a5 < (a6.length : Int)) then
    (bif decide ((0 : Int) ≤ a5 ∧ a5 < (a7.length : Int)) then
    (Option.bind (L.eqQuery ((nthI a6 a5 ([], ([], (df1, df2)))).2.2.1.1) ((nthI a6 a5 ([], ([], (df1, df2)))).2.2.1.2.1) ((nthI a6 a5 ([], ([], (df1, df2)))).2.2.1.2.2) ((nthI a6 a5 ([], ([], (df1, df2)))).2.2.2.1) ((nthI a6 a5 ([], ([], (df1, df2)))).2.2.2.2) ((nthI a7 a5 ([], ([], (df1, df2)))).2.2.1.1) ((nthI a7 a5 ([], ([], (df1, df2)))).2.2.1.2.1) ((nthI a7 a5 ([], ([], (df1, df2)))).2.2.1.2.2) ((nthI a7 a5 ([], ([], (df1, df2)))).2.2.2.1) ((nthI a7 a5 ([], ([], (df1, df2)))).2.2.2.2) ((nthI a6 a5 ([], ([], (df1, df2)))).1) ((nthI a6 a5 ([], ([], (df1, df2)))).2.1) ((nthI a7 a5 ([], ([], (df1, df2)))).1) ((nthI a7 a5 ([], ([], (df1, df2)))).2.1)) fun r10 =>
    (bif (!r10) then
    (e4_0 false)
    else
    (L.eqQueryS_l0 m e4_0 e4_1 (IntKind.wrap .i64 (a5 + 1)) a6 a7)))
    else
    none)
    else
    none)
    else
    e4_1)
noncomputable def L.eqQueryS (a1 a2 : List ty6) : Option Bool :=
(bif ((a1.length : Int) != (a2.length : Int)) then
(some false)
else
(L.eqQueryS_l0 fu (fun y12 =>
(some y12)) (some true) 0 a1 a2))
noncomputable def H70_4 : LoopH := ⟨⟨((.one (.sl 0)) :: (.one (.sl 1)) :: (hu 3 (hh :: (hu 21 [])))), [], [(190, sh5, .ro), (190, sh5, .ro)]⟩, ([2, 3, 4] ++ rg 6 21), [], (rg 0 4 ++ rg 5 22), [], []⟩
noncomputable def k70_4 : List PK := [.int .i64, .row sh5, .row sh5]
noncomputable def W70_4 (m : Nat) (k : Kont Bool) : Cur k70_4 (Option Bool) := L.eqQueryS_l0 m (exF k .ret ⟨(hu 4 (hh :: (hu 22 []))), [], []⟩ [.bool]) (exF k (.exit 0) ⟨(hu 27 []), [], []⟩ [])
noncomputable def E70_4 (m : Nat) : List Prm → Kont Bool → Option Bool := eL k70_4 (W70_4 m)
theorem ev70_4 (m : Nat) (k : Kont Bool) (a : Args k70_4) : evL Tryz.prog G70 loopNil c70_4 (turn Tryz.prog (0, 0) H70_4 (E70_4 m) k) (H70_4.sk.fl (encP k70_4 a)) = unc k70_4 (W70_4 (m + 1) k) a := by kernel_rfl
theorem ok70_4 (m : Nat) : LoopOk Tryz.prog (0, 0) c70_4 (enter Tryz.prog (0, 0) H70_4 (E70_4 m)) := loop_gen (Fl := W70_4) (G := G70) (L := loopNil) (envCons_good good153 envNil_good) (no_loops (c := c70_4) (by kernel_rfl)) (fun _ _ => by kernel_rfl) ev70_4 m
noncomputable def L70 : LEnv Bool := (loopCons 4 (enter Tryz.prog (0, 0) H70_4 (E70_4 fu)) loopNil)
theorem lq70 : loopsOf c70 = [c70_4] := by kernel_rfl
theorem fr70_4 : firstReg c70_4 = some 4 := by kernel_rfl
theorem le70_4 : L70 4 = enter Tryz.prog (0, 0) H70_4 (E70_4 fu) := by kernel_rfl
theorem lm70 : ∀ x ∈ [c70_4], ∀ id, firstReg x = some id → LoopOk Tryz.prog (0, 0) x (L70 id) := (loops_cons fr70_4 le70_4 (ok70_4 fu) loops_nil)
theorem lp70 : ∀ x ∈ loopsOf c70, ∀ id, firstReg x = some id → LoopOk Tryz.prog (0, 0) x (L70 id) := loops_eq lq70 lm70
noncomputable def sg70 : Sg := ⟨⟨[.one (.sl 0), .one (.sl 1)], [], [(190, sh5, .ro), (190, sh5, .ro)]⟩, [.row sh5, .row sh5], ⟨[hh], [], []⟩, [.bool]⟩
noncomputable def E70 : Fun2 := eOf sg70 L.eqQueryS
theorem ev70 (a : Args sg70.ks) : evS Tryz.prog G70 L70 (0, 0) [] Tryz.f70 c70 (kOf sg70) (sg70.sk.fl (encP sg70.ks a)) = unc sg70.ks L.eqQueryS a := by kernel_rfl
theorem good70 : Vm.Good Tryz.prog 70 E70 := good_gen (G := G70) (L := L70) (c := c70) (rn := []) (N := (0, 0)) (envCons_good good153 envNil_good) lp70 Tryz.func70 (by kernel_rfl) (by kernel_rfl) (fun _ => by kernel_rfl) ev70
noncomputable def G154 : Env := envNil
noncomputable def c154 : Code := bodyOf Tryz.f154
noncomputable def L.eqSub (a1 a2 a3 a4 a5 a6 : Int) : Option Bool :=
(bif (a1 != a4) then
(some false)
else
(bif (a2 != a5) then
(some false)
else
(bif (a3 != a6) then
(some false)
else
(some true))))
noncomputable def sg154 : Sg := ⟨⟨[.agg (ho 3 []), .agg (ho 3 [])], [], []⟩, (ki 6 []), ⟨[hh], [], []⟩, [.bool]⟩
noncomputable def E154 : Fun2 := eOf sg154 L.eqSub
theorem ev154 (a : Args sg154.ks) : evS Tryz.prog G154 loopNil (0, 0) [] Tryz.f154 c154 (kOf sg154) (sg154.sk.fl (encP sg154.ks a)) = unc sg154.ks L.eqSub a := by kernel_rfl
theorem good154 : Vm.Good Tryz.prog 154 E154 := good_gen (G := G154) (L := loopNil) (c := c154) (rn := []) (N := (0, 0)) envNil_good (no_loops (c := c154) (by kernel_rfl)) Tryz.func154 (by kernel_rfl) (by kernel_rfl) (fun _ => by kernel_rfl) ev154
noncomputable def G71 : Env := (envCons 154 [] E154 envNil)
noncomputable def c71 : Code := bodyOf Tryz.f71
noncomputable def c71_4 : Code := (loopsOf c71).getD 0 .skip
noncomputable def L.eqSubS_l0 : Nat → (Bool → Option Bool) → (Option Bool) → Int → (List (Int × Int × Int)) → (List (Int × Int × Int)) → Option Bool
  | 0, _, _, _, _, _ => none
  | m + 1, e4_0, e4_1, a5, a6, a7 =>
    (bif (decide (a5 < (a6.length : Int))) then
    (bif decide ((0 : Int) ≤ a5 ∧ a5 < (a6.length : Int)) then
    (bif decide ((0 : Int) ≤ a5 ∧ a5 < (a7.length : Int)) then
    (Option.bind (L.eqSub ((nthI a6 a5 df1).1) ((nthI a6 a5 df1).2.1) ((nthI a6 a5 df1).2.2) ((nthI a7 a5 df1).1) ((nthI a7 a5 df1).2.1) ((nthI a7 a5 df1).2.2)) fun r10 =>
    (bif (!r10) then
    (e4_0 false)
    else
    (L.eqSubS_l0 m e4_0 e4_1 (IntKind.wrap .i64 (a5 + 1)) a6 a7)))
    else
    none)
    else
    none)
    else
    e4_1)
noncomputable def L.eqSubS (a1 a2 : List (Int × Int × Int)) : Option Bool :=
(bif ((a1.length : Int) != (a2.length : Int)) then
(some false)
else
(L.eqSubS_l0 fu (fun y12 =>
(some y12)) (some true) 0 a1 a2))
noncomputable def H71_4 : LoopH := ⟨⟨((.one (.sl 0)) :: (.one (.sl 1)) :: (hu 3 (hh :: (hu 21 [])))), [], [(126, sh3, .ro), (126, sh3, .ro)]⟩, ([2, 3, 4] ++ rg 6 21), [], (rg 0 4 ++ rg 5 22), [], []⟩
noncomputable def k71_4 : List PK := [.int .i64, .row sh3, .row sh3]
noncomputable def W71_4 (m : Nat) (k : Kont Bool) : Cur k71_4 (Option Bool) := L.eqSubS_l0 m (exF k .ret ⟨(hu 4 (hh :: (hu 22 []))), [], []⟩ [.bool]) (exF k (.exit 0) ⟨(hu 27 []), [], []⟩ [])
noncomputable def E71_4 (m : Nat) : List Prm → Kont Bool → Option Bool := eL k71_4 (W71_4 m)
theorem ev71_4 (m : Nat) (k : Kont Bool) (a : Args k71_4) : evL Tryz.prog G71 loopNil c71_4 (turn Tryz.prog (0, 0) H71_4 (E71_4 m) k) (H71_4.sk.fl (encP k71_4 a)) = unc k71_4 (W71_4 (m + 1) k) a := by kernel_rfl
theorem ok71_4 (m : Nat) : LoopOk Tryz.prog (0, 0) c71_4 (enter Tryz.prog (0, 0) H71_4 (E71_4 m)) := loop_gen (Fl := W71_4) (G := G71) (L := loopNil) (envCons_good good154 envNil_good) (no_loops (c := c71_4) (by kernel_rfl)) (fun _ _ => by kernel_rfl) ev71_4 m
noncomputable def L71 : LEnv Bool := (loopCons 4 (enter Tryz.prog (0, 0) H71_4 (E71_4 fu)) loopNil)
theorem lq71 : loopsOf c71 = [c71_4] := by kernel_rfl
theorem fr71_4 : firstReg c71_4 = some 4 := by kernel_rfl
theorem le71_4 : L71 4 = enter Tryz.prog (0, 0) H71_4 (E71_4 fu) := by kernel_rfl
theorem lm71 : ∀ x ∈ [c71_4], ∀ id, firstReg x = some id → LoopOk Tryz.prog (0, 0) x (L71 id) := (loops_cons fr71_4 le71_4 (ok71_4 fu) loops_nil)
theorem lp71 : ∀ x ∈ loopsOf c71, ∀ id, firstReg x = some id → LoopOk Tryz.prog (0, 0) x (L71 id) := loops_eq lq71 lm71
noncomputable def sg71 : Sg := ⟨⟨[.one (.sl 0), .one (.sl 1)], [], [(126, sh3, .ro), (126, sh3, .ro)]⟩, [.row sh3, .row sh3], ⟨[hh], [], []⟩, [.bool]⟩
noncomputable def E71 : Fun2 := eOf sg71 L.eqSubS
theorem ev71 (a : Args sg71.ks) : evS Tryz.prog G71 L71 (0, 0) [] Tryz.f71 c71 (kOf sg71) (sg71.sk.fl (encP sg71.ks a)) = unc sg71.ks L.eqSubS a := by kernel_rfl
theorem good71 : Vm.Good Tryz.prog 71 E71 := good_gen (G := G71) (L := L71) (c := c71) (rn := []) (N := (0, 0)) (envCons_good good154 envNil_good) lp71 Tryz.func71 (by kernel_rfl) (by kernel_rfl) (fun _ => by kernel_rfl) ev71
noncomputable def G155 : Env := envNil
noncomputable def c155 : Code := bodyOf Tryz.f155
noncomputable def L.eqRule (a1 a2 a3 a4 a5 a6 a7 a8 a9 a10 : Int) : Option Bool :=
(bif (a1 != a6) then
(some false)
else
(bif (a2 != a7) then
(some false)
else
(bif (a3 != a8) then
(some false)
else
(bif (a4 != a9) then
(some false)
else
(bif (a5 != a10) then
(some false)
else
(some true))))))
noncomputable def sg155 : Sg := ⟨⟨[.agg (ho 5 []), .agg (ho 5 [])], [], []⟩, (ki 10 []), ⟨[hh], [], []⟩, [.bool]⟩
noncomputable def E155 : Fun2 := eOf sg155 L.eqRule
theorem ev155 (a : Args sg155.ks) : evS Tryz.prog G155 loopNil (0, 0) [] Tryz.f155 c155 (kOf sg155) (sg155.sk.fl (encP sg155.ks a)) = unc sg155.ks L.eqRule a := by kernel_rfl
theorem good155 : Vm.Good Tryz.prog 155 E155 := good_gen (G := G155) (L := loopNil) (c := c155) (rn := []) (N := (0, 0)) envNil_good (no_loops (c := c155) (by kernel_rfl)) Tryz.func155 (by kernel_rfl) (by kernel_rfl) (fun _ => by kernel_rfl) ev155
noncomputable def G72 : Env := (envCons 155 [] E155 envNil)
noncomputable def c72 : Code := bodyOf Tryz.f72
noncomputable def c72_4 : Code := (loopsOf c72).getD 0 .skip
noncomputable def L.eqRuleS_l0 : Nat → (Bool → Option Bool) → (Option Bool) → Int → (List ty10) → (List ty10) → Option Bool
  | 0, _, _, _, _, _ => none
  | m + 1, e4_0, e4_1, a5, a6, a7 =>
    (bif (decide (a5 < (a6.length : Int))) then
    (bif decide ((0 : Int) ≤ a5 ∧ a5 < (a6.length : Int)) then
    (bif decide ((0 : Int) ≤ a5 ∧ a5 < (a7.length : Int)) then
    (Option.bind (L.eqRule ((nthI a6 a5 df3).1) ((nthI a6 a5 df3).2.1) ((nthI a6 a5 df3).2.2.1) ((nthI a6 a5 df3).2.2.2.1) ((nthI a6 a5 df3).2.2.2.2) ((nthI a7 a5 df3).1) ((nthI a7 a5 df3).2.1) ((nthI a7 a5 df3).2.2.1) ((nthI a7 a5 df3).2.2.2.1) ((nthI a7 a5 df3).2.2.2.2)) fun r10 =>
    (bif (!r10) then
    (e4_0 false)
    else
    (L.eqRuleS_l0 m e4_0 e4_1 (IntKind.wrap .i64 (a5 + 1)) a6 a7)))
    else
    none)
    else
    none)
    else
    e4_1)
noncomputable def L.eqRuleS (a1 a2 : List ty10) : Option Bool :=
(bif ((a1.length : Int) != (a2.length : Int)) then
(some false)
else
(L.eqRuleS_l0 fu (fun y12 =>
(some y12)) (some true) 0 a1 a2))
noncomputable def H72_4 : LoopH := ⟨⟨((.one (.sl 0)) :: (.one (.sl 1)) :: (hu 3 (hh :: (hu 21 [])))), [], [(159, sh4, .ro), (159, sh4, .ro)]⟩, ([2, 3, 4] ++ rg 6 21), [], (rg 0 4 ++ rg 5 22), [], []⟩
noncomputable def k72_4 : List PK := [.int .i64, .row sh4, .row sh4]
noncomputable def W72_4 (m : Nat) (k : Kont Bool) : Cur k72_4 (Option Bool) := L.eqRuleS_l0 m (exF k .ret ⟨(hu 4 (hh :: (hu 22 []))), [], []⟩ [.bool]) (exF k (.exit 0) ⟨(hu 27 []), [], []⟩ [])
noncomputable def E72_4 (m : Nat) : List Prm → Kont Bool → Option Bool := eL k72_4 (W72_4 m)
theorem ev72_4 (m : Nat) (k : Kont Bool) (a : Args k72_4) : evL Tryz.prog G72 loopNil c72_4 (turn Tryz.prog (0, 0) H72_4 (E72_4 m) k) (H72_4.sk.fl (encP k72_4 a)) = unc k72_4 (W72_4 (m + 1) k) a := by kernel_rfl
theorem ok72_4 (m : Nat) : LoopOk Tryz.prog (0, 0) c72_4 (enter Tryz.prog (0, 0) H72_4 (E72_4 m)) := loop_gen (Fl := W72_4) (G := G72) (L := loopNil) (envCons_good good155 envNil_good) (no_loops (c := c72_4) (by kernel_rfl)) (fun _ _ => by kernel_rfl) ev72_4 m
noncomputable def L72 : LEnv Bool := (loopCons 4 (enter Tryz.prog (0, 0) H72_4 (E72_4 fu)) loopNil)
theorem lq72 : loopsOf c72 = [c72_4] := by kernel_rfl
theorem fr72_4 : firstReg c72_4 = some 4 := by kernel_rfl
theorem le72_4 : L72 4 = enter Tryz.prog (0, 0) H72_4 (E72_4 fu) := by kernel_rfl
theorem lm72 : ∀ x ∈ [c72_4], ∀ id, firstReg x = some id → LoopOk Tryz.prog (0, 0) x (L72 id) := (loops_cons fr72_4 le72_4 (ok72_4 fu) loops_nil)
theorem lp72 : ∀ x ∈ loopsOf c72, ∀ id, firstReg x = some id → LoopOk Tryz.prog (0, 0) x (L72 id) := loops_eq lq72 lm72
noncomputable def sg72 : Sg := ⟨⟨[.one (.sl 0), .one (.sl 1)], [], [(159, sh4, .ro), (159, sh4, .ro)]⟩, [.row sh4, .row sh4], ⟨[hh], [], []⟩, [.bool]⟩
noncomputable def E72 : Fun2 := eOf sg72 L.eqRuleS
theorem ev72 (a : Args sg72.ks) : evS Tryz.prog G72 L72 (0, 0) [] Tryz.f72 c72 (kOf sg72) (sg72.sk.fl (encP sg72.ks a)) = unc sg72.ks L.eqRuleS a := by kernel_rfl
theorem good72 : Vm.Good Tryz.prog 72 E72 := good_gen (G := G72) (L := L72) (c := c72) (rn := []) (N := (0, 0)) (envCons_good good155 envNil_good) lp72 Tryz.func72 (by kernel_rfl) (by kernel_rfl) (fun _ => by kernel_rfl) ev72
noncomputable def G21 : Env := (envCons 30 [] E30 (envCons 70 [] E70 (envCons 71 [] E71 (envCons 72 [] E72 envNil))))
noncomputable def c21 : Code := bodyOf Tryz.f21
noncomputable def L.eqConf (a1 a2 a3 a4 a5 a6 : Int) (a7 : List Int) (a8 : List ty6) (a9 : List (Int × Int × Int)) (a10 : List ty10) (a11 : List Int) (a12 : List ty6) (a13 : List (Int × Int × Int)) (a14 : List ty10) : Option Bool :=
(Option.bind (L.eqLat a1 a4 a7 a11) fun r15 =>
(bif (!r15) then
(some false)
else
(bif (a2 != a5) then
(some false)
else
(bif (a3 != a6) then
(some false)
else
(Option.bind (L.eqQueryS a8 a12) fun r16 =>
(bif (!r16) then
(some false)
else
(Option.bind (L.eqSubS a9 a13) fun r17 =>
(bif (!r17) then
(some false)
else
(Option.bind (L.eqRuleS a10 a14) fun r18 =>
(bif (!r18) then
(some false)
else
(some true)))))))))))
noncomputable def sg21 : Sg := ⟨⟨[.agg ((.hole) :: (.sl 0) :: (ho 2 [.sl 1, .sl 2, .sl 3])), .agg ((.hole) :: (.sl 4) :: (ho 2 [.sl 5, .sl 6, .sl 7]))], [], [(87, (.int .u64), .ro), (190, sh5, .ro), (126, sh3, .ro), (159, sh4, .ro), (87, (.int .u64), .ro), (190, sh5, .ro), (126, sh3, .ro), (159, sh4, .ro)]⟩, (ki 6 [.row (.int .u64), .row sh5, .row sh3, .row sh4, .row (.int .u64), .row sh5, .row sh3, .row sh4]), ⟨[hh], [], []⟩, [.bool]⟩
noncomputable def E21 : Fun2 := eOf sg21 L.eqConf
theorem ev21 (a : Args sg21.ks) : evS Tryz.prog G21 loopNil (0, 0) [] Tryz.f21 c21 (kOf sg21) (sg21.sk.fl (encP sg21.ks a)) = unc sg21.ks L.eqConf a := by kernel_rfl
theorem good21 : Vm.Good Tryz.prog 21 E21 := good_gen (G := G21) (L := loopNil) (c := c21) (rn := []) (N := (0, 0)) (envCons_good good30 (envCons_good good70 (envCons_good good71 (envCons_good good72 envNil_good)))) (no_loops (c := c21) (by kernel_rfl)) Tryz.func21 (by kernel_rfl) (by kernel_rfl) (fun _ => by kernel_rfl) ev21
noncomputable def G150 : Env := envNil
noncomputable def c150 : Code := bodyOf Tryz.f150
noncomputable def L.eqPunct (a1 a2 a3 a4 a5 a6 a7 a8 : Int) : Option Bool :=
(bif (a1 != a5) then
(some false)
else
(bif (a2 != a6) then
(some false)
else
(bif (a3 != a7) then
(some false)
else
(bif (a4 != a8) then
(some false)
else
(some true)))))
noncomputable def sg150 : Sg := ⟨⟨[.agg (ho 4 []), .agg (ho 4 [])], [], []⟩, (ki 8 []), ⟨[hh], [], []⟩, [.bool]⟩
noncomputable def E150 : Fun2 := eOf sg150 L.eqPunct
theorem ev150 (a : Args sg150.ks) : evS Tryz.prog G150 loopNil (0, 0) [] Tryz.f150 c150 (kOf sg150) (sg150.sk.fl (encP sg150.ks a)) = unc sg150.ks L.eqPunct a := by kernel_rfl
theorem good150 : Vm.Good Tryz.prog 150 E150 := good_gen (G := G150) (L := loopNil) (c := c150) (rn := []) (N := (0, 0)) envNil_good (no_loops (c := c150) (by kernel_rfl)) Tryz.func150 (by kernel_rfl) (by kernel_rfl) (fun _ => by kernel_rfl) ev150
end Go.Proofs.YtidojhgkpgomcaaGreat.Run
