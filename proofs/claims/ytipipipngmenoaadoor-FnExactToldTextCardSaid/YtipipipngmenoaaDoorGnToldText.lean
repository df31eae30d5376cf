import Derived.Test.YtipipipngmenoaaDoorVmXt
import Derived.Test.YtipipipngmenoaaDoorProg
namespace Go.Proofs.YtipipipngmenoaaDoor.Run
open Go Go.RowKit Go.Proofs.YtipipipngmenoaaDoorW.PrintWords Go.Proofs.YtipipipngmenoaaDoor.Vm
set_option linter.unusedVariables false
set_option maxRecDepth 100000
set_option maxHeartbeats 4000000

noncomputable abbrev sh1 : Sh := (.pair (.int .i64) (.pair (.int .i64) (.pair (.int .i64) (.pair (.int .i64) (.pair (.int .i64) (.pair (.int .i64) (.pair (.int .i64) (.pair (.int .i64) (.pair (.sl 3 (.int .i64)) .bool)))))))))
noncomputable abbrev sh2 : Sh := (.pair (.int .i64) (.pair (.int .i64) (.int .i64)))
noncomputable abbrev ty6 : Type := Int × Int × Int × Int × Int × Int × Int × Int × List Int × Bool
noncomputable abbrev df1 : Int × Int × Int × Int × Int × Int × Int × Int × List Int × Bool := ((0 : Int), ((0 : Int), ((0 : Int), ((0 : Int), ((0 : Int), ((0 : Int), ((0 : Int), ((0 : Int), ([], false)))))))))
noncomputable abbrev df2 : Int × Int × Int := ((0 : Int), ((0 : Int), (0 : Int)))
noncomputable def lit0 : ByteArray := ⟨#[]⟩
noncomputable def lit1 : ByteArray := ⟨#[32, 103, 97, 112, 115, 32]⟩
noncomputable def lit2 : ByteArray := ⟨#[32]⟩
noncomputable def lit3 : ByteArray := ⟨#[58]⟩
noncomputable def lit4 : ByteArray := ⟨#[47]⟩
noncomputable def lit5 : ByteArray := ⟨#[61]⟩
noncomputable def lit6 : ByteArray := ⟨#[111, 118, 101, 114]⟩
noncomputable def lit7 : ByteArray := ⟨#[44]⟩
noncomputable def lit8 : ByteArray := ⟨#[46]⟩
noncomputable def lit9 : ByteArray := ⟨#[103, 97, 112, 115]⟩
noncomputable def G25 : Env := envNil
noncomputable def c25 : Code := bodyOf Tryd.f25
noncomputable def L.szIntS (a1 : Int) (a2 : List Int) : Option Int :=
(let v4 : Int := (IntKind.wrap .i64 (a1 - (a2.length : Int)))
(bif (decide (v4 < 0)) then
(some (-1))
else
(some v4)))
noncomputable def sg25 : Sg := ⟨⟨[.one (.sl 0), hh], [], [(3, (.int .i64), .ro)]⟩, [.int .i64, .row (.int .i64)], ⟨[hh], [], []⟩, [.int .i64]⟩
noncomputable def E25 : Fun2 := eOf sg25 L.szIntS
theorem ev25 (a : Args sg25.ks) : evS Tryd.prog G25 loopNil (0, 0) [] Tryd.f25 c25 (kOf sg25) (sg25.sk.fl (encP sg25.ks a)) = unc sg25.ks L.szIntS a := by kernel_rfl
theorem good25 : Vm.Good Tryd.prog 25 E25 := good_gen (G := G25) (L := loopNil) (c := c25) (rn := []) (N := (0, 0)) envNil_good (no_loops (c := c25) (by kernel_rfl)) Tryd.func25 (by kernel_rfl) (by kernel_rfl) (fun _ => by kernel_rfl) ev25
noncomputable def G12 : Env := (envCons 25 [] E25 envNil)
noncomputable def c12 : Code := bodyOf Tryd.f12
noncomputable def L.szPane (a1 a2 a3 a4 a5 a6 : Int) (a7 : Bool) (a8 : Int) (a9 : List Int) : Option Int :=
(Option.bind (L.szIntS a8 a9) fun r10 =>
(bif (decide (r10 < 0)) then
(some (-1))
else
(some r10)))
noncomputable def sg12 : Sg := ⟨⟨[.agg (ho 6 [.sl 0, .hole]), hh], [], [(3, (.int .i64), .ro)]⟩, (ki 6 [.bool, .int .i64, .row (.int .i64)]), ⟨[hh], [], []⟩, [.int .i64]⟩
noncomputable def E12 : Fun2 := eOf sg12 L.szPane
theorem ev12 (a : Args sg12.ks) : evS Tryd.prog G12 loopNil (0, 0) [] Tryd.f12 c12 (kOf sg12) (sg12.sk.fl (encP sg12.ks a)) = unc sg12.ks L.szPane a := by kernel_rfl
theorem good12 : Vm.Good Tryd.prog 12 E12 := good_gen (G := G12) (L := loopNil) (c := c12) (rn := []) (N := (0, 0)) (envCons_good good25 envNil_good) (no_loops (c := c12) (by kernel_rfl)) Tryd.func12 (by kernel_rfl) (by kernel_rfl) (fun _ => by kernel_rfl) ev12
noncomputable def G47 : Env := (envCons 12 [] E12 envNil)
noncomputable def c47 : Code := bodyOf Tryd.f47
noncomputable def L.szItem (a1 a2 a3 a4 a5 a6 a7 a8 : Int) (a9 : Bool) (a10 : Int) (a11 : List Int) : Option Int :=
(Option.bind (L.szPane a3 a4 a5 a6 a7 a8 a9 a10 a11) fun r12 =>
(bif (decide (r12 < 0)) then
(some (-1))
else
(some r12)))
noncomputable def sg47 : Sg := ⟨⟨[.agg (ho 8 [.sl 0, .hole]), hh], [], [(3, (.int .i64), .ro)]⟩, (ki 8 [.bool, .int .i64, .row (.int .i64)]), ⟨[hh], [], []⟩, [.int .i64]⟩
noncomputable def E47 : Fun2 := eOf sg47 L.szItem
theorem ev47 (a : Args sg47.ks) : evS Tryd.prog G47 loopNil (0, 0) [] Tryd.f47 c47 (kOf sg47) (sg47.sk.fl (encP sg47.ks a)) = unc sg47.ks L.szItem a := by kernel_rfl
theorem good47 : Vm.Good Tryd.prog 47 E47 := good_gen (G := G47) (L := loopNil) (c := c47) (rn := []) (N := (0, 0)) (envCons_good good12 envNil_good) (no_loops (c := c47) (by kernel_rfl)) Tryd.func47 (by kernel_rfl) (by kernel_rfl) (fun _ => by kernel_rfl) ev47
noncomputable def G30 : Env := (envCons 47 [] E47 envNil)
noncomputable def c30 : Code := bodyOf Tryd.f30
noncomputable def c30_5 : Code := (loopsOf c30).getD 0 .skip
noncomputable def L.szItemS_l0 : Nat → (Int → Int → Option Int) → (Int → Option Int) → Int → Int → (List ty6) → Option Int
  | 0, _, _, _, _, _ => none
  | m + 1, e5_0, e5_1, a6, a7, a8 =>
    (bif (decide (a7 < (a8.length : Int))) then
    (bif decide ((0 : Int) ≤ a7 ∧ a7 < (a8.length : Int)) then
    (Option.bind (L.szItem ((nthI a8 a7 df1).1) ((nthI a8 a7 df1).2.1) ((nthI a8 a7 df1).2.2.1) ((nthI a8 a7 df1).2.2.2.1) ((nthI a8 a7 df1).2.2.2.2.1) ((nthI a8 a7 df1).2.2.2.2.2.1) ((nthI a8 a7 df1).2.2.2.2.2.2.1) ((nthI a8 a7 df1).2.2.2.2.2.2.2.1) ((nthI a8 a7 df1).2.2.2.2.2.2.2.2.2) a6 ((nthI a8 a7 df1).2.2.2.2.2.2.2.2.1)) fun r11 =>
    (bif (decide (r11 < 0)) then
    (e5_0 r11 (-1))
    else
    (L.szItemS_l0 m e5_0 e5_1 r11 (IntKind.wrap .i64 (a7 + 1)) a8)))
    else
    none)
    else
    (e5_1 a6))
noncomputable def L.szItemS (a1 : Int) (a2 : List ty6) : Option Int :=
(let v4 : Int := (IntKind.wrap .i64 (a1 - (a2.length : Int)))
(bif (decide (v4 < 0)) then
(some (-1))
else
(L.szItemS_l0 fu (fun y14 y15 =>
(some y15)) (fun y16 =>
(some y16)) v4 0 a2)))
noncomputable def H30_5 : LoopH := ⟨⟨((.one (.sl 0)) :: hh :: (hu 3 (hh :: (hu 21 [])))), [], [(89, sh1, .ro)]⟩, ([2, 3, 4] ++ rg 6 21), [], ([0, 2, 3] ++ rg 5 22), [], []⟩
noncomputable def k30_5 : List PK := (ki 2 [.row sh1])
noncomputable def W30_5 (m : Nat) (k : Kont Int) : Cur k30_5 (Option Int) := L.szItemS_l0 m (exF k .ret ⟨((.one (.unk)) :: hh :: (hu 2 (hh :: (hu 22 [])))), [], []⟩ (ki 2 [])) (exF k (.exit 0) ⟨((.one (.unk)) :: hh :: (hu 25 [])), [], []⟩ [.int .i64])
noncomputable def E30_5 (m : Nat) : List Prm → Kont Int → Option Int := eL k30_5 (W30_5 m)
theorem ev30_5 (m : Nat) (k : Kont Int) (a : Args k30_5) : evL Tryd.prog G30 loopNil c30_5 (turn Tryd.prog (0, 0) H30_5 (E30_5 m) k) (H30_5.sk.fl (encP k30_5 a)) = unc k30_5 (W30_5 (m + 1) k) a := by kernel_rfl
theorem ok30_5 (m : Nat) : LoopOk Tryd.prog (0, 0) c30_5 (enter Tryd.prog (0, 0) H30_5 (E30_5 m)) := loop_gen (Fl := W30_5) (G := G30) (L := loopNil) (envCons_good good47 envNil_good) (no_loops (c := c30_5) (by kernel_rfl)) (fun _ _ => by kernel_rfl) ev30_5 m
noncomputable def L30 : LEnv Int := (loopCons 5 (enter Tryd.prog (0, 0) H30_5 (E30_5 fu)) loopNil)
theorem lq30 : loopsOf c30 = [c30_5] := by kernel_rfl
theorem fr30_5 : firstReg c30_5 = some 5 := by kernel_rfl
theorem le30_5 : L30 5 = enter Tryd.prog (0, 0) H30_5 (E30_5 fu) := by kernel_rfl
theorem lm30 : ∀ x ∈ [c30_5], ∀ id, firstReg x = some id → LoopOk Tryd.prog (0, 0) x (L30 id) := (loops_cons fr30_5 le30_5 (ok30_5 fu) loops_nil)
theorem lp30 : ∀ x ∈ loopsOf c30, ∀ id, firstReg x = some id → LoopOk Tryd.prog (0, 0) x (L30 id) := loops_eq lq30 lm30
noncomputable def sg30 : Sg := ⟨⟨[.one (.sl 0), hh], [], [(89, sh1, .ro)]⟩, [.int .i64, .row sh1], ⟨[hh], [], []⟩, [.int .i64]⟩
noncomputable def E30 : Fun2 := eOf sg30 L.szItemS
theorem ev30 (a : Args sg30.ks) : evS Tryd.prog G30 L30 (0, 0) [] Tryd.f30 c30 (kOf sg30) (sg30.sk.fl (encP sg30.ks a)) = unc sg30.ks L.szItemS a := by kernel_rfl
theorem good30 : Vm.Good Tryd.prog 30 E30 := good_gen (G := G30) (L := L30) (c := c30) (rn := []) (N := (0, 0)) (envCons_good good47 envNil_good) lp30 Tryd.func30 (by kernel_rfl) (by kernel_rfl) (fun _ => by kernel_rfl) ev30
noncomputable def G31 : Env := envNil
noncomputable def c31 : Code := bodyOf Tryd.f31
noncomputable def L.szRecS (a1 : Int) (a2 : List (Int × Int × Int)) : Option Int :=
(let v4 : Int := (IntKind.wrap .i64 (a1 - (a2.length : Int)))
(bif (decide (v4 < 0)) then
(some (-1))
else
(some v4)))
noncomputable def sg31 : Sg := ⟨⟨[.one (.sl 0), hh], [], [(97, sh2, .ro)]⟩, [.int .i64, .row sh2], ⟨[hh], [], []⟩, [.int .i64]⟩
noncomputable def E31 : Fun2 := eOf sg31 L.szRecS
theorem ev31 (a : Args sg31.ks) : evS Tryd.prog G31 loopNil (0, 0) [] Tryd.f31 c31 (kOf sg31) (sg31.sk.fl (encP sg31.ks a)) = unc sg31.ks L.szRecS a := by kernel_rfl
theorem good31 : Vm.Good Tryd.prog 31 E31 := good_gen (G := G31) (L := loopNil) (c := c31) (rn := []) (N := (0, 0)) envNil_good (no_loops (c := c31) (by kernel_rfl)) Tryd.func31 (by kernel_rfl) (by kernel_rfl) (fun _ => by kernel_rfl) ev31
noncomputable def G17 : Env := (envCons 30 [] E30 (envCons 31 [] E31 envNil))
noncomputable def c17 : Code := bodyOf Tryd.f17
noncomputable def L.szTold (a1 a2 a3 : Int) (a4 : List ty6) (a5 : List (Int × Int × Int)) : Option Int :=
(Option.bind (L.szItemS a3 a4) fun r6 =>
(bif (decide (r6 < 0)) then
(some (-1))
else
(Option.bind (L.szRecS r6 a5) fun r8 =>
(bif (decide (r8 < 0)) then
(some (-1))
else
(some r8)))))
noncomputable def sg17 : Sg := ⟨⟨[.agg (ho 2 [.sl 0, .sl 1]), hh], [], [(89, sh1, .ro), (97, sh2, .ro)]⟩, (ki 3 [.row sh1, .row sh2]), ⟨[hh], [], []⟩, [.int .i64]⟩
noncomputable def E17 : Fun2 := eOf sg17 L.szTold
theorem ev17 (a : Args sg17.ks) : evS Tryd.prog G17 loopNil (0, 0) [] Tryd.f17 c17 (kOf sg17) (sg17.sk.fl (encP sg17.ks a)) = unc sg17.ks L.szTold a := by kernel_rfl
theorem good17 : Vm.Good Tryd.prog 17 E17 := good_gen (G := G17) (L := loopNil) (c := c17) (rn := []) (N := (0, 0)) (envCons_good good30 (envCons_good good31 envNil_good)) (no_loops (c := c17) (by kernel_rfl)) Tryd.func17 (by kernel_rfl) (by kernel_rfl) (fun _ => by kernel_rfl) ev17
noncomputable def G27 : Env := envNil
noncomputable def c27 : Code := bodyOf Tryd.f27
noncomputable def c27_3 : Code := (loopsOf c27).getD 0 .skip
noncomputable def L.toIntS_l0 : Nat → (List Int → Option (List Int)) → Int → List Int → List Int → Option (List Int)
  | 0, _, _, _, _ => none
  | m + 1, e3_0, a4, a5, a6 =>
    (bif (decide (a4 < (a5.length : Int))) then
    (bif decide ((0 : Int) ≤ a4 ∧ a4 < (a5.length : Int)) then
    (bif decide ((0 : Int) ≤ a4 ∧ a4 < (a6.length : Int)) then
    (L.toIntS_l0 m e3_0 (IntKind.wrap .i64 (a4 + 1)) a5 (a6.set (Int.toNat a4) (nthI a5 a4 (0 : Int))))
    else
    none)
    else
    none)
    else
    (e3_0 a6))
noncomputable def L.toIntS (a1 : List Int) : Option (List Int) :=
(let v2 : Int := (a1.length : Int)
(bif decide ((0 : Int) ≤ v2 ∧ v2 ≤ v2 ∧ (8 : Int) * v2 ≤ 281474976710656 ∧ v2 ≤ 9223372036854775807) then
(L.toIntS_l0 fu (fun y11 =>
(some y11)) 0 a1 (List.replicate (Int.toNat v2) (0 : Int)))
else
none))
noncomputable def H27_3 : LoopH := ⟨⟨((.one (.sl 0)) :: (hu 2 ((.one (.sl 1)) :: hh :: (hu 17 [])))), [], [(3, (.int .i64), .ro), (3, (.int .i64), .own)]⟩, ([1, 2] ++ rg 5 17), [], ([0, 1] ++ rg 4 18), [], []⟩
noncomputable def k27_3 : List PK := [.int .i64, .row (.int .i64), .row (.int .i64)]
noncomputable def W27_3 (m : Nat) (k : Kont (List Int)) : Cur k27_3 (Option (List Int)) := L.toIntS_l0 m (exF k (.exit 0) ⟨(hu 3 ((.one (.sl 0)) :: (hu 18 []))), [], [(3, (.int .i64), .own)]⟩ [.row (.int .i64)])
noncomputable def E27_3 (m : Nat) : List Prm → Kont (List Int) → Option (List Int) := eL k27_3 (W27_3 m)
theorem ev27_3 (m : Nat) (k : Kont (List Int)) (a : Args k27_3) : evL Tryd.prog G27 loopNil c27_3 (turn Tryd.prog (0, 0) H27_3 (E27_3 m) k) (H27_3.sk.fl (encP k27_3 a)) = unc k27_3 (W27_3 (m + 1) k) a := by kernel_rfl
theorem ok27_3 (m : Nat) : LoopOk Tryd.prog (0, 0) c27_3 (enter Tryd.prog (0, 0) H27_3 (E27_3 m)) := loop_gen (Fl := W27_3) (G := G27) (L := loopNil) envNil_good (no_loops (c := c27_3) (by kernel_rfl)) (fun _ _ => by kernel_rfl) ev27_3 m
noncomputable def L27 : LEnv (List Int) := (loopCons 3 (enter Tryd.prog (0, 0) H27_3 (E27_3 fu)) loopNil)
theorem lq27 : loopsOf c27 = [c27_3] := by kernel_rfl
theorem fr27_3 : firstReg c27_3 = some 3 := by kernel_rfl
theorem le27_3 : L27 3 = enter Tryd.prog (0, 0) H27_3 (E27_3 fu) := by kernel_rfl
theorem lm27 : ∀ x ∈ [c27_3], ∀ id, firstReg x = some id → LoopOk Tryd.prog (0, 0) x (L27 id) := (loops_cons fr27_3 le27_3 (ok27_3 fu) loops_nil)
theorem lp27 : ∀ x ∈ loopsOf c27, ∀ id, firstReg x = some id → LoopOk Tryd.prog (0, 0) x (L27 id) := loops_eq lq27 lm27
noncomputable def sg27 : Sg := ⟨⟨[.one (.sl 0)], [], [(3, (.int .i64), .ro)]⟩, [.row (.int .i64)], ⟨[.one (.sl 0)], [], [(3, (.int .i64), .own)]⟩, [.row (.int .i64)]⟩
noncomputable def E27 : Fun2 := eOf sg27 L.toIntS
theorem ev27 (a : Args sg27.ks) : evS Tryd.prog G27 L27 (0, 0) [] Tryd.f27 c27 (kOf sg27) (sg27.sk.fl (encP sg27.ks a)) = unc sg27.ks L.toIntS a := by kernel_rfl
theorem good27 : Vm.Good Tryd.prog 27 E27 := good_gen (G := G27) (L := L27) (c := c27) (rn := []) (N := (0, 0)) envNil_good lp27 Tryd.func27 (by kernel_rfl) (by kernel_rfl) (fun _ => by kernel_rfl) ev27
noncomputable def G14 : Env := (envCons 27 [] E27 envNil)
noncomputable def c14 : Code := bodyOf Tryd.f14
noncomputable def L.toPane (a1 a2 a3 a4 a5 a6 : Int) (a7 : Bool) (a8 : List Int) : Option (Int × Int × Int × Int × Int × Int × Bool × List Int) :=
(Option.bind (L.toIntS a8) fun r9 =>
(some (a1, a2, a3, a4, a5, a6, a7, r9)))
noncomputable def sg14 : Sg := ⟨⟨[.agg (ho 6 [.sl 0, .hole])], [], [(3, (.int .i64), .ro)]⟩, (ki 6 [.bool, .row (.int .i64)]), ⟨[.agg (ho 6 [.sl 0, .hole])], [], [(3, (.int .i64), .own)]⟩, (ki 6 [.bool, .row (.int .i64)])⟩
noncomputable def E14 : Fun2 := eOf sg14 L.toPane
theorem ev14 (a : Args sg14.ks) : evS Tryd.prog G14 loopNil (0, 0) [] Tryd.f14 c14 (kOf sg14) (sg14.sk.fl (encP sg14.ks a)) = unc sg14.ks L.toPane a := by kernel_rfl
theorem good14 : Vm.Good Tryd.prog 14 E14 := good_gen (G := G14) (L := loopNil) (c := c14) (rn := []) (N := (0, 0)) (envCons_good good27 envNil_good) (no_loops (c := c14) (by kernel_rfl)) Tryd.func14 (by kernel_rfl) (by kernel_rfl) (fun _ => by kernel_rfl) ev14
noncomputable def G50 : Env := (envCons 14 [] E14 envNil)
noncomputable def c50 : Code := bodyOf Tryd.f50
noncomputable def L.toItem (a1 a2 a3 a4 a5 a6 a7 a8 : Int) (a9 : Bool) (a10 : List Int) : Option (Int × Int × Int × Int × Int × Int × Int × Int × Bool × List Int) :=
(Option.bind (L.toPane a3 a4 a5 a6 a7 a8 a9 a10) fun r11 =>
(some (a1, a2, r11.1, r11.2.1, r11.2.2.1, r11.2.2.2.1, r11.2.2.2.2.1, r11.2.2.2.2.2.1, r11.2.2.2.2.2.2.1, r11.2.2.2.2.2.2.2)))
noncomputable def sg50 : Sg := ⟨⟨[.agg (ho 8 [.sl 0, .hole])], [], [(3, (.int .i64), .ro)]⟩, (ki 8 [.bool, .row (.int .i64)]), ⟨[.agg (ho 8 [.sl 0, .hole])], [], [(3, (.int .i64), .own)]⟩, (ki 8 [.bool, .row (.int .i64)])⟩
noncomputable def E50 : Fun2 := eOf sg50 L.toItem
theorem ev50 (a : Args sg50.ks) : evS Tryd.prog G50 loopNil (0, 0) [] Tryd.f50 c50 (kOf sg50) (sg50.sk.fl (encP sg50.ks a)) = unc sg50.ks L.toItem a := by kernel_rfl
theorem good50 : Vm.Good Tryd.prog 50 E50 := good_gen (G := G50) (L := loopNil) (c := c50) (rn := []) (N := (0, 0)) (envCons_good good14 envNil_good) (no_loops (c := c50) (by kernel_rfl)) Tryd.func50 (by kernel_rfl) (by kernel_rfl) (fun _ => by kernel_rfl) ev50
noncomputable def G33 : Env := (envCons 50 [] E50 envNil)
noncomputable def c33 : Code := bodyOf Tryd.f33
noncomputable def c33_3 : Code := (loopsOf c33).getD 0 .skip
noncomputable def L.toItemS_l0 : Nat → ((List ty6) → Option ((List ty6))) → Int → (List ty6) → (List ty6) → Option ((List ty6))
  | 0, _, _, _, _ => none
  | m + 1, e3_0, a4, a5, a6 =>
    (bif (decide (a4 < (a5.length : Int))) then
    (bif decide ((0 : Int) ≤ a4 ∧ a4 < (a5.length : Int)) then
    (Option.bind (L.toItem ((nthI a5 a4 df1).1) ((nthI a5 a4 df1).2.1) ((nthI a5 a4 df1).2.2.1) ((nthI a5 a4 df1).2.2.2.1) ((nthI a5 a4 df1).2.2.2.2.1) ((nthI a5 a4 df1).2.2.2.2.2.1) ((nthI a5 a4 df1).2.2.2.2.2.2.1) ((nthI a5 a4 df1).2.2.2.2.2.2.2.1) ((nthI a5 a4 df1).2.2.2.2.2.2.2.2.2) ((nthI a5 a4 df1).2.2.2.2.2.2.2.2.1)) fun r9 =>
    (bif decide ((0 : Int) ≤ a4 ∧ a4 < (a6.length : Int)) then
    (let v10 : List ty6 := (a6.set (Int.toNat a4) (r9.1, (r9.2.1, (r9.2.2.1, (r9.2.2.2.1, (r9.2.2.2.2.1, (r9.2.2.2.2.2.1, (r9.2.2.2.2.2.2.1, (r9.2.2.2.2.2.2.2.1, (r9.2.2.2.2.2.2.2.2.2, r9.2.2.2.2.2.2.2.2.1))))))))))
    (L.toItemS_l0 m e3_0 (IntKind.wrap .i64 (a4 + 1)) a5 v10))
    else
    none))
    else
    none)
    else
    (e3_0 a6))
noncomputable def L.toItemS (a1 : List ty6) : Option ((List ty6)) :=
(let v2 : Int := (a1.length : Int)
(bif decide ((0 : Int) ≤ v2 ∧ v2 ≤ v2 ∧ (96 : Int) * v2 ≤ 281474976710656 ∧ v2 ≤ 9223372036854775807) then
(let v3 : List ty6 := (List.replicate (Int.toNat v2) (0, (0, (0, (0, (0, (0, (0, (0, ([], false))))))))))
(L.toItemS_l0 fu (fun y12 =>
(some y12)) 0 a1 v3))
else
none))
noncomputable def H33_3 : LoopH := ⟨⟨((.one (.sl 0)) :: (hu 2 ((.one (.sl 1)) :: hh :: (hu 18 [])))), [], [(89, sh1, .ro), (73, sh1, .own)]⟩, ([1, 2] ++ rg 5 18), [], ([0, 1] ++ rg 4 19), [], []⟩
noncomputable def k33_3 : List PK := [.int .i64, .row sh1, .row sh1]
noncomputable def W33_3 (m : Nat) (k : Kont ((List ty6))) : Cur k33_3 (Option ((List ty6))) := L.toItemS_l0 m (exF k (.exit 0) ⟨(hu 3 ((.one (.sl 0)) :: (hu 19 []))), [], [(73, sh1, .own)]⟩ [.row sh1])
noncomputable def E33_3 (m : Nat) : List Prm → Kont ((List ty6)) → Option ((List ty6)) := eL k33_3 (W33_3 m)
theorem ev33_3 (m : Nat) (k : Kont ((List ty6))) (a : Args k33_3) : evL Tryd.prog G33 loopNil c33_3 (turn Tryd.prog (0, 0) H33_3 (E33_3 m) k) (H33_3.sk.fl (encP k33_3 a)) = unc k33_3 (W33_3 (m + 1) k) a := by kernel_rfl
theorem ok33_3 (m : Nat) : LoopOk Tryd.prog (0, 0) c33_3 (enter Tryd.prog (0, 0) H33_3 (E33_3 m)) := loop_gen (Fl := W33_3) (G := G33) (L := loopNil) (envCons_good good50 envNil_good) (no_loops (c := c33_3) (by kernel_rfl)) (fun _ _ => by kernel_rfl) ev33_3 m
noncomputable def L33 : LEnv ((List ty6)) := (loopCons 3 (enter Tryd.prog (0, 0) H33_3 (E33_3 fu)) loopNil)
theorem lq33 : loopsOf c33 = [c33_3] := by kernel_rfl
theorem fr33_3 : firstReg c33_3 = some 3 := by kernel_rfl
theorem le33_3 : L33 3 = enter Tryd.prog (0, 0) H33_3 (E33_3 fu) := by kernel_rfl
theorem lm33 : ∀ x ∈ [c33_3], ∀ id, firstReg x = some id → LoopOk Tryd.prog (0, 0) x (L33 id) := (loops_cons fr33_3 le33_3 (ok33_3 fu) loops_nil)
theorem lp33 : ∀ x ∈ loopsOf c33, ∀ id, firstReg x = some id → LoopOk Tryd.prog (0, 0) x (L33 id) := loops_eq lq33 lm33
noncomputable def sg33 : Sg := ⟨⟨[.one (.sl 0)], [], [(89, sh1, .ro)]⟩, [.row sh1], ⟨[.one (.sl 0)], [], [(73, sh1, .own)]⟩, [.row sh1]⟩
noncomputable def E33 : Fun2 := eOf sg33 L.toItemS
theorem ev33 (a : Args sg33.ks) : evS Tryd.prog G33 L33 (0, 0) [] Tryd.f33 c33 (kOf sg33) (sg33.sk.fl (encP sg33.ks a)) = unc sg33.ks L.toItemS a := by kernel_rfl
theorem good33 : Vm.Good Tryd.prog 33 E33 := good_gen (G := G33) (L := L33) (c := c33) (rn := []) (N := (0, 0)) (envCons_good good50 envNil_good) lp33 Tryd.func33 (by kernel_rfl) (by kernel_rfl) (fun _ => by kernel_rfl) ev33
noncomputable def G51 : Env := envNil
noncomputable def c51 : Code := bodyOf Tryd.f51
noncomputable def L.toRec (a1 a2 a3 : Int) : Option (Int × Int × Int) :=
(some (a1, a2, a3))
noncomputable def sg51 : Sg := ⟨⟨[.agg (ho 3 [])], [], []⟩, (ki 3 []), ⟨[.agg (ho 3 [])], [], []⟩, (ki 3 [])⟩
noncomputable def E51 : Fun2 := eOf sg51 L.toRec
theorem ev51 (a : Args sg51.ks) : evS Tryd.prog G51 loopNil (0, 0) [] Tryd.f51 c51 (kOf sg51) (sg51.sk.fl (encP sg51.ks a)) = unc sg51.ks L.toRec a := by kernel_rfl
theorem good51 : Vm.Good Tryd.prog 51 E51 := good_gen (G := G51) (L := loopNil) (c := c51) (rn := []) (N := (0, 0)) envNil_good (no_loops (c := c51) (by kernel_rfl)) Tryd.func51 (by kernel_rfl) (by kernel_rfl) (fun _ => by kernel_rfl) ev51
noncomputable def G34 : Env := (envCons 51 [] E51 envNil)
noncomputable def c34 : Code := bodyOf Tryd.f34
noncomputable def c34_3 : Code := (loopsOf c34).getD 0 .skip
noncomputable def L.toRecS_l0 : Nat → ((List (Int × Int × Int)) → Option ((List (Int × Int × Int)))) → Int → (List (Int × Int × Int)) → (List (Int × Int × Int)) → Option ((List (Int × Int × Int)))
  | 0, _, _, _, _ => none
  | m + 1, e3_0, a4, a5, a6 =>
    (bif (decide (a4 < (a5.length : Int))) then
    (bif decide ((0 : Int) ≤ a4 ∧ a4 < (a5.length : Int)) then
    (Option.bind (L.toRec ((nthI a5 a4 df2).1) ((nthI a5 a4 df2).2.1) ((nthI a5 a4 df2).2.2)) fun r9 =>
    (bif decide ((0 : Int) ≤ a4 ∧ a4 < (a6.length : Int)) then
    (L.toRecS_l0 m e3_0 (IntKind.wrap .i64 (a4 + 1)) a5 (a6.set (Int.toNat a4) (r9.1, (r9.2.1, r9.2.2))))
    else
    none))
    else
    none)
    else
    (e3_0 a6))
noncomputable def L.toRecS (a1 : List (Int × Int × Int)) : Option ((List (Int × Int × Int))) :=
(let v2 : Int := (a1.length : Int)
(bif decide ((0 : Int) ≤ v2 ∧ v2 ≤ v2 ∧ (24 : Int) * v2 ≤ 281474976710656 ∧ v2 ≤ 9223372036854775807) then
(L.toRecS_l0 fu (fun y12 =>
(some y12)) 0 a1 (List.replicate (Int.toNat v2) (0, (0, 0))))
else
none))
noncomputable def H34_3 : LoopH := ⟨⟨((.one (.sl 0)) :: (hu 2 ((.one (.sl 1)) :: hh :: (hu 18 [])))), [], [(97, sh2, .ro), (75, sh2, .own)]⟩, ([1, 2] ++ rg 5 18), [], ([0, 1] ++ rg 4 19), [], []⟩
noncomputable def k34_3 : List PK := [.int .i64, .row sh2, .row sh2]
noncomputable def W34_3 (m : Nat) (k : Kont ((List (Int × Int × Int)))) : Cur k34_3 (Option ((List (Int × Int × Int)))) := L.toRecS_l0 m (exF k (.exit 0) ⟨(hu 3 ((.one (.sl 0)) :: (hu 19 []))), [], [(75, sh2, .own)]⟩ [.row sh2])
noncomputable def E34_3 (m : Nat) : List Prm → Kont ((List (Int × Int × Int))) → Option ((List (Int × Int × Int))) := eL k34_3 (W34_3 m)
theorem ev34_3 (m : Nat) (k : Kont ((List (Int × Int × Int)))) (a : Args k34_3) : evL Tryd.prog G34 loopNil c34_3 (turn Tryd.prog (0, 0) H34_3 (E34_3 m) k) (H34_3.sk.fl (encP k34_3 a)) = unc k34_3 (W34_3 (m + 1) k) a := by kernel_rfl
theorem ok34_3 (m : Nat) : LoopOk Tryd.prog (0, 0) c34_3 (enter Tryd.prog (0, 0) H34_3 (E34_3 m)) := loop_gen (Fl := W34_3) (G := G34) (L := loopNil) (envCons_good good51 envNil_good) (no_loops (c := c34_3) (by kernel_rfl)) (fun _ _ => by kernel_rfl) ev34_3 m
noncomputable def L34 : LEnv ((List (Int × Int × Int))) := (loopCons 3 (enter Tryd.prog (0, 0) H34_3 (E34_3 fu)) loopNil)
theorem lq34 : loopsOf c34 = [c34_3] := by kernel_rfl
theorem fr34_3 : firstReg c34_3 = some 3 := by kernel_rfl
theorem le34_3 : L34 3 = enter Tryd.prog (0, 0) H34_3 (E34_3 fu) := by kernel_rfl
theorem lm34 : ∀ x ∈ [c34_3], ∀ id, firstReg x = some id → LoopOk Tryd.prog (0, 0) x (L34 id) := (loops_cons fr34_3 le34_3 (ok34_3 fu) loops_nil)
theorem lp34 : ∀ x ∈ loopsOf c34, ∀ id, firstReg x = some id → LoopOk Tryd.prog (0, 0) x (L34 id) := loops_eq lq34 lm34
noncomputable def sg34 : Sg := ⟨⟨[.one (.sl 0)], [], [(97, sh2, .ro)]⟩, [.row sh2], ⟨[.one (.sl 0)], [], [(75, sh2, .own)]⟩, [.row sh2]⟩
noncomputable def E34 : Fun2 := eOf sg34 L.toRecS
theorem ev34 (a : Args sg34.ks) : evS Tryd.prog G34 L34 (0, 0) [] Tryd.f34 c34 (kOf sg34) (sg34.sk.fl (encP sg34.ks a)) = unc sg34.ks L.toRecS a := by kernel_rfl
theorem good34 : Vm.Good Tryd.prog 34 E34 := good_gen (G := G34) (L := L34) (c := c34) (rn := []) (N := (0, 0)) (envCons_good good51 envNil_good) lp34 Tryd.func34 (by kernel_rfl) (by kernel_rfl) (fun _ => by kernel_rfl) ev34
noncomputable def G19 : Env := (envCons 33 [] E33 (envCons 34 [] E34 envNil))
noncomputable def c19 : Code := bodyOf Tryd.f19
noncomputable def L.toTold (a1 a2 : Int) (a3 : List ty6) (a4 : List (Int × Int × Int)) : Option (Int × Int × (List ty6) × (List (Int × Int × Int))) :=
(Option.bind (L.toItemS a3) fun r5 =>
(Option.bind (L.toRecS a4) fun r6 =>
(some (a1, a2, r5, r6))))
noncomputable def sg19 : Sg := ⟨⟨[.agg (ho 2 [.sl 0, .sl 1])], [], [(89, sh1, .ro), (97, sh2, .ro)]⟩, (ki 2 [.row sh1, .row sh2]), ⟨[.agg (ho 2 [.sl 0, .sl 1])], [], [(73, sh1, .own), (75, sh2, .own)]⟩, (ki 2 [.row sh1, .row sh2])⟩
noncomputable def E19 : Fun2 := eOf sg19 L.toTold
theorem ev19 (a : Args sg19.ks) : evS Tryd.prog G19 loopNil (0, 0) [] Tryd.f19 c19 (kOf sg19) (sg19.sk.fl (encP sg19.ks a)) = unc sg19.ks L.toTold a := by kernel_rfl
theorem good19 : Vm.Good Tryd.prog 19 E19 := good_gen (G := G19) (L := loopNil) (c := c19) (rn := []) (N := (0, 0)) (envCons_good good33 (envCons_good good34 envNil_good)) (no_loops (c := c19) (by kernel_rfl)) Tryd.func19 (by kernel_rfl) (by kernel_rfl) (fun _ => by kernel_rfl) ev19
noncomputable def G49 : Env := envNil
noncomputable def c49 : Code := bodyOf Tryd.f49
noncomputable def S.WideOf (a1 : Int) : Option (Int × Int) :=
(bif (decide (a1 < 0)) then
(some ((-1), (IntKind.wrap .u64 a1)))
else
(some (0, (IntKind.wrap .u64 a1))))
noncomputable def sg49 : Sg := ⟨⟨[hh], [], []⟩, [.int .i64], ⟨[.agg (ho 2 [])], [], []⟩, [.int .i64, .int .u64]⟩
noncomputable def E49 : Fun2 := eOf sg49 S.WideOf
theorem ev49 (a : Args sg49.ks) : evS Tryd.prog G49 loopNil (0, 0) [] Tryd.f49 c49 (kOf sg49) (sg49.sk.fl (encP sg49.ks a)) = unc sg49.ks S.WideOf a := by kernel_rfl
theorem good49 : Vm.Good Tryd.prog 49 E49 := good_gen (G := G49) (L := loopNil) (c := c49) (rn := []) (N := (0, 0)) envNil_good (no_loops (c := c49) (by kernel_rfl)) Tryd.func49 (by kernel_rfl) (by kernel_rfl) (fun _ => by kernel_rfl) ev49
noncomputable def G70 : Env := envNil
noncomputable def c70 : Code := bodyOf Tryd.f70
noncomputable def c70_4 : Code := (loopsOf c70).getD 0 .skip
noncomputable def c70_10 : Code := (loopsOf c70).getD 1 .skip
noncomputable def S.l02Bits_l0 : Nat → (Int → Int → List Int → Option (List Int)) → Int → Int → Int → Int → List Int → Option (List Int)
  | 0, _, _, _, _, _, _ => none
  | m + 1, e4_0, a3, a4, a5, a6, a7 =>
    (bif (decide (a4 < 64)) then
    (bif decide (2 = 0) then
    none
    else
    (let v10 : Int := (IntKind.wrap .i64 (Int.tmod a3 2))
    (bif decide ((a7.length + [v10].length) * 8 ≤ 140737488355328) then
    (bif decide (2 = 0) then
    none
    else
    (S.l02Bits_l0 m e4_0 (IntKind.wrap .u64 (Int.tdiv a3 2)) (IntKind.wrap .i64 (a4 + 1)) a5 a6 (a7 ++ [v10])))
    else
    none)))
    else
    (e4_0 a5 a6 a7))
noncomputable def S.l02Bits_l1 : Nat → (List Int → Option (List Int)) → Int → Int → List Int → Option (List Int)
  | 0, _, _, _, _ => none
  | m + 1, e10_0, a17, a18, a19 =>
    (bif (decide (a18 < 64)) then
    (bif decide (2 = 0) then
    none
    else
    (let v22 : Int := (IntKind.wrap .i64 (Int.tmod a17 2))
    (bif decide ((a19.length + [v22].length) * 8 ≤ 140737488355328) then
    (bif decide (2 = 0) then
    none
    else
    (S.l02Bits_l1 m e10_0 (IntKind.wrap .u64 (Int.tdiv a17 2)) (IntKind.wrap .i64 (a18 + 1)) (a19 ++ [v22])))
    else
    none)))
    else
    (e10_0 a19))
noncomputable def S.l02Bits (a1 a2 : Int) : Option (List Int) :=
(S.l02Bits_l0 fu (fun y13 y14 y15 =>
(S.l02Bits_l1 fu (fun y25 =>
(some y25)) (IntKind.wrap .u64 y13) 0 y15)) a2 0 a1 a2 [])
noncomputable def H70_4 : LoopH := ⟨⟨((.one (.unk)) :: (.one (.ptr 0 0)) :: (.one (.unk)) :: (.one (.sl 0)) :: hh :: hh :: (hu 33 [])), [(93, (ho 2 []))], [(3, (.int .i64), .own)]⟩, ([0, 2] ++ rg 6 33), [], ([0] ++ rg 4 35), [], []⟩
noncomputable def k70_4 : List PK := ((.int .u64) :: (ki 2 [.int .u64, .row (.int .i64)]))
noncomputable def W70_4 (m : Nat) (k : Kont (List Int)) : Cur k70_4 (Option (List Int)) := S.l02Bits_l0 m (exF k (.exit 0) ⟨((.one (.unk)) :: (.one (.ptr 0 0)) :: (.one (.unk)) :: (.one (.sl 0)) :: (hu 35 [])), [(93, (ho 2 []))], [(3, (.int .i64), .own)]⟩ [.int .i64, .int .u64, .row (.int .i64)])
noncomputable def E70_4 (m : Nat) : List Prm → Kont (List Int) → Option (List Int) := eL k70_4 (W70_4 m)
theorem ev70_4 (m : Nat) (k : Kont (List Int)) (a : Args k70_4) : evL Tryd.prog G70 loopNil c70_4 (turn Tryd.prog (0, 0) H70_4 (E70_4 m) k) (H70_4.sk.fl (encP k70_4 a)) = unc k70_4 (W70_4 (m + 1) k) a := by kernel_rfl
theorem ok70_4 (m : Nat) : LoopOk Tryd.prog (0, 0) c70_4 (enter Tryd.prog (0, 0) H70_4 (E70_4 m)) := loop_gen (Fl := W70_4) (G := G70) (L := loopNil) envNil_good (no_loops (c := c70_4) (by kernel_rfl)) (fun _ _ => by kernel_rfl) ev70_4 m
noncomputable def H70_10 : LoopH := ⟨⟨(hu 3 ((.one (.sl 0)) :: (hu 2 (hh :: hh :: (hu 31 []))))), [], [(3, (.int .i64), .own)]⟩, ([0, 1, 2, 4, 5] ++ rg 8 31), [], ([0, 1] ++ rg 4 35), [], []⟩
noncomputable def k70_10 : List PK := [.int .u64, .int .i64, .row (.int .i64)]
noncomputable def W70_10 (m : Nat) (k : Kont (List Int)) : Cur k70_10 (Option (List Int)) := S.l02Bits_l1 m (exF k (.exit 2) ⟨(hu 3 ((.one (.sl 0)) :: (hu 35 []))), [], [(3, (.int .i64), .own)]⟩ [.row (.int .i64)])
noncomputable def E70_10 (m : Nat) : List Prm → Kont (List Int) → Option (List Int) := eL k70_10 (W70_10 m)
theorem ev70_10 (m : Nat) (k : Kont (List Int)) (a : Args k70_10) : evL Tryd.prog G70 loopNil c70_10 (turn Tryd.prog (0, 0) H70_10 (E70_10 m) k) (H70_10.sk.fl (encP k70_10 a)) = unc k70_10 (W70_10 (m + 1) k) a := by kernel_rfl
theorem ok70_10 (m : Nat) : LoopOk Tryd.prog (0, 0) c70_10 (enter Tryd.prog (0, 0) H70_10 (E70_10 m)) := loop_gen (Fl := W70_10) (G := G70) (L := loopNil) envNil_good (no_loops (c := c70_10) (by kernel_rfl)) (fun _ _ => by kernel_rfl) ev70_10 m
noncomputable def L70 : LEnv (List Int) := (loopCons 4 (enter Tryd.prog (0, 0) H70_4 (E70_4 fu)) (loopCons 10 (enter Tryd.prog (0, 0) H70_10 (E70_10 fu)) loopNil))
theorem lq70 : loopsOf c70 = [c70_4, c70_10] := by kernel_rfl
theorem fr70_4 : firstReg c70_4 = some 4 := by kernel_rfl
theorem le70_4 : L70 4 = enter Tryd.prog (0, 0) H70_4 (E70_4 fu) := by kernel_rfl
theorem fr70_10 : firstReg c70_10 = some 10 := by kernel_rfl
theorem le70_10 : L70 10 = enter Tryd.prog (0, 0) H70_10 (E70_10 fu) := by kernel_rfl
theorem lm70 : ∀ x ∈ [c70_4, c70_10], ∀ id, firstReg x = some id → LoopOk Tryd.prog (0, 0) x (L70 id) := (loops_cons fr70_4 le70_4 (ok70_4 fu) (loops_cons fr70_10 le70_10 (ok70_10 fu) loops_nil))
theorem lp70 : ∀ x ∈ loopsOf c70, ∀ id, firstReg x = some id → LoopOk Tryd.prog (0, 0) x (L70 id) := loops_eq lq70 lm70
noncomputable def sg70 : Sg := ⟨⟨[.agg (ho 2 [])], [], []⟩, [.int .i64, .int .u64], ⟨[.one (.sl 0)], [], [(3, (.int .i64), .own)]⟩, [.row (.int .i64)]⟩
noncomputable def E70 : Fun2 := eOf sg70 S.l02Bits
theorem ev70 (a : Args sg70.ks) : evS Tryd.prog G70 L70 (0, 0) [] Tryd.f70 c70 (kOf sg70) (sg70.sk.fl (encP sg70.ks a)) = unc sg70.ks S.l02Bits a := by kernel_rfl
theorem good70 : Vm.Good Tryd.prog 70 E70 := good_gen (G := G70) (L := L70) (c := c70) (rn := []) (N := (0, 0)) envNil_good lp70 Tryd.func70 (by kernel_rfl) (by kernel_rfl) (fun _ => by kernel_rfl) ev70
noncomputable def G81 : Env := envNil
noncomputable def c81 : Code := bodyOf Tryd.f81
noncomputable def S.WideAdd (a1 a2 a3 a4 : Int) : Option (Int × Int) :=
(let v5 : Int := (IntKind.wrap .u64 (a2 + a4))
(let v8 : Int := (IntKind.wrap .u64 ((IntKind.wrap .u64 a1) + (IntKind.wrap .u64 a3)))
(bif (decide (v5 < a2)) then
(some ((IntKind.wrap .i64 (IntKind.wrap .u64 (v8 + 1))), v5))
else
(some ((IntKind.wrap .i64 v8), v5)))))
noncomputable def sg81 : Sg := ⟨⟨[.agg (ho 2 []), .agg (ho 2 [])], [], []⟩, [.int .i64, .int .u64, .int .i64, .int .u64], ⟨[.agg (ho 2 [])], [], []⟩, [.int .i64, .int .u64]⟩
noncomputable def E81 : Fun2 := eOf sg81 S.WideAdd
theorem ev81 (a : Args sg81.ks) : evS Tryd.prog G81 loopNil (0, 0) [] Tryd.f81 c81 (kOf sg81) (sg81.sk.fl (encP sg81.ks a)) = unc sg81.ks S.WideAdd a := by kernel_rfl
theorem good81 : Vm.Good Tryd.prog 81 E81 := good_gen (G := G81) (L := loopNil) (c := c81) (rn := []) (N := (0, 0)) envNil_good (no_loops (c := c81) (by kernel_rfl)) Tryd.func81 (by kernel_rfl) (by kernel_rfl) (fun _ => by kernel_rfl) ev81
noncomputable def G71 : Env := (envCons 81 [] E81 envNil)
noncomputable def c71 : Code := bodyOf Tryd.f71
noncomputable def S.WideNeg (a1 a2 : Int) : Option (Int × Int) :=
(Option.bind (S.WideAdd (IntKind.wrap .i64 ((-1) - a1)) (IntKind.wrap .u64 (18446744073709551615 - a2)) 0 1) fun r5 =>
(some (r5.1, r5.2)))
noncomputable def sg71 : Sg := ⟨⟨[.agg (ho 2 [])], [], []⟩, [.int .i64, .int .u64], ⟨[.agg (ho 2 [])], [], []⟩, [.int .i64, .int .u64]⟩
noncomputable def E71 : Fun2 := eOf sg71 S.WideNeg
theorem ev71 (a : Args sg71.ks) : evS Tryd.prog G71 loopNil (0, 0) [] Tryd.f71 c71 (kOf sg71) (sg71.sk.fl (encP sg71.ks a)) = unc sg71.ks S.WideNeg a := by kernel_rfl
theorem good71 : Vm.Good Tryd.prog 71 E71 := good_gen (G := G71) (L := loopNil) (c := c71) (rn := []) (N := (0, 0)) (envCons_good good81 envNil_good) (no_loops (c := c71) (by kernel_rfl)) Tryd.func71 (by kernel_rfl) (by kernel_rfl) (fun _ => by kernel_rfl) ev71
noncomputable def G72 : Env := envNil
noncomputable def c72 : Code := bodyOf Tryd.f72
noncomputable def c72_4 : Code := (loopsOf c72).getD 0 .skip
noncomputable def S.l02Divide_l0 : Nat → (Int → List Int → Option (Int × List Int)) → Int → Int → Int → List Int → List Int → Option (Int × List Int)
  | 0, _, _, _, _, _, _ => none
  | m + 1, e4_0, a4, a5, a6, a7, a8 =>
    (bif (decide (0 ≤ a6)) then
    (bif decide ((0 : Int) ≤ a6 ∧ a6 < (a7.length : Int)) then
    (let v11 : Int := (IntKind.wrap .i64 ((IntKind.wrap .i64 (2 * a5)) + (nthI a7 a6 (0 : Int))))
    (bif (decide (a4 ≤ v11)) then
    (bif decide ((0 : Int) ≤ a6 ∧ a6 < (a8.length : Int)) then
    (S.l02Divide_l0 m e4_0 a4 (IntKind.wrap .i64 (v11 - a4)) (IntKind.wrap .i64 (a6 - 1)) a7 (a8.set (Int.toNat a6) 1))
    else
    none)
    else
    (S.l02Divide_l0 m e4_0 a4 v11 (IntKind.wrap .i64 (a6 - 1)) a7 a8)))
    else
    none)
    else
    (e4_0 a5 a8))
noncomputable def S.l02Divide (a1 : Int) (a2 : List Int) : Option (Int × List Int) :=
(bif decide ((0 : Int) ≤ 128 ∧ 128 ≤ 128 ∧ (8 : Int) * 128 ≤ 281474976710656 ∧ 128 ≤ 9223372036854775807) then
(S.l02Divide_l0 fu (fun y17 y18 =>
(some (y17, y18))) a1 0 127 a2 (List.replicate (Int.toNat 128) (0 : Int)))
else
none)
noncomputable def H72_4 : LoopH := ⟨⟨((.one (.sl 0)) :: hh :: (hu 4 ((.one (.sl 1)) :: hh :: hh :: (hu 23 [])))), [], [(3, (.int .i64), .ro), (3, (.int .i64), .own)]⟩, (rg 2 4 ++ rg 9 23), [], (rg 0 4 ++ rg 8 24), [], []⟩
noncomputable def k72_4 : List PK := (ki 3 [.row (.int .i64), .row (.int .i64)])
noncomputable def W72_4 (m : Nat) (k : Kont (Int × List Int)) : Cur k72_4 (Option (Int × List Int)) := S.l02Divide_l0 m (exF k (.exit 0) ⟨(hu 6 ((.one (.sl 0)) :: hh :: (hu 24 []))), [], [(3, (.int .i64), .own)]⟩ [.int .i64, .row (.int .i64)])
noncomputable def E72_4 (m : Nat) : List Prm → Kont (Int × List Int) → Option (Int × List Int) := eL k72_4 (W72_4 m)
theorem ev72_4 (m : Nat) (k : Kont (Int × List Int)) (a : Args k72_4) : evL Tryd.prog G72 loopNil c72_4 (turn Tryd.prog (0, 0) H72_4 (E72_4 m) k) (H72_4.sk.fl (encP k72_4 a)) = unc k72_4 (W72_4 (m + 1) k) a := by kernel_rfl
theorem ok72_4 (m : Nat) : LoopOk Tryd.prog (0, 0) c72_4 (enter Tryd.prog (0, 0) H72_4 (E72_4 m)) := loop_gen (Fl := W72_4) (G := G72) (L := loopNil) envNil_good (no_loops (c := c72_4) (by kernel_rfl)) (fun _ _ => by kernel_rfl) ev72_4 m
noncomputable def L72 : LEnv (Int × List Int) := (loopCons 4 (enter Tryd.prog (0, 0) H72_4 (E72_4 fu)) loopNil)
theorem lq72 : loopsOf c72 = [c72_4] := by kernel_rfl
theorem fr72_4 : firstReg c72_4 = some 4 := by kernel_rfl
theorem le72_4 : L72 4 = enter Tryd.prog (0, 0) H72_4 (E72_4 fu) := by kernel_rfl
theorem lm72 : ∀ x ∈ [c72_4], ∀ id, firstReg x = some id → LoopOk Tryd.prog (0, 0) x (L72 id) := (loops_cons fr72_4 le72_4 (ok72_4 fu) loops_nil)
theorem lp72 : ∀ x ∈ loopsOf c72, ∀ id, firstReg x = some id → LoopOk Tryd.prog (0, 0) x (L72 id) := loops_eq lq72 lm72
noncomputable def sg72 : Sg := ⟨⟨[.one (.sl 0), hh], [], [(3, (.int .i64), .ro)]⟩, [.int .i64, .row (.int .i64)], ⟨[.one (.sl 0), hh], [], [(3, (.int .i64), .own)]⟩, [.int .i64, .row (.int .i64)]⟩
noncomputable def E72 : Fun2 := eOf sg72 S.l02Divide
theorem ev72 (a : Args sg72.ks) : evS Tryd.prog G72 L72 (0, 0) [] Tryd.f72 c72 (kOf sg72) (sg72.sk.fl (encP sg72.ks a)) = unc sg72.ks S.l02Divide a := by kernel_rfl
theorem good72 : Vm.Good Tryd.prog 72 E72 := good_gen (G := G72) (L := L72) (c := c72) (rn := []) (N := (0, 0)) envNil_good lp72 Tryd.func72 (by kernel_rfl) (by kernel_rfl) (fun _ => by kernel_rfl) ev72
noncomputable def G48 : Env := (envCons 70 [] E70 (envCons 71 [] E71 (envCons 72 [] E72 envNil)))
noncomputable def c48 : Code := bodyOf Tryd.f48
noncomputable def c48_6 : Code := (loopsOf c48).getD 0 .skip
noncomputable def c48_12 : Code := (loopsOf c48_6).getD 0 .skip
noncomputable def S.WideText_l1 : Nat → (Bool → Int → Int → List Int → List Int → Option ByteArray) → Bool → Int → Int → Int → List Int → List Int → Option ByteArray
  | 0, _, _, _, _, _, _, _ => none
  | m + 1, e12_0, a15, a16, a17, a18, a19, a20 =>
    (bif (decide (a16 < 128)) then
    (bif a15 then
    (S.WideText_l1 m e12_0 true (IntKind.wrap .i64 (a16 + 1)) a17 a18 a19 a20)
    else
    (bif decide ((0 : Int) ≤ a16 ∧ a16 < (a19.length : Int)) then
    (S.WideText_l1 m e12_0 ((nthI a19 a16 (0 : Int)) == 1) (IntKind.wrap .i64 (a16 + 1)) a17 a18 a19 a20)
    else
    none))
    else
    (e12_0 a15 a17 a18 a19 a20))
noncomputable def S.WideText_l0 : Nat → (Int → Int → List Int → Option ByteArray) → Bool → Int → Int → List Int → List Int → Option ByteArray
  | 0, _, _, _, _, _, _ => none
  | m + 1, e6_0, a7, a8, a9, a10, a11 =>
    (bif a7 then
    (Option.bind (S.l02Divide 10 a10) fun r12 =>
    (let v14 : Int := (IntKind.wrap .u8 (IntKind.wrap .i64 (48 + r12.1)))
    (bif decide (([v14].length + a11.length) * 1 ≤ 140737488355328) then
    (S.WideText_l1 fu (fun y25 y26 y27 y28 y29 =>
    (S.WideText_l0 m e6_0 y25 y26 y27 y28 y29)) false 0 a8 a9 r12.2 ([v14] ++ a11))
    else
    none)))
    else
    (e6_0 a8 a9 a11))
noncomputable def S.WideText (a1 a2 : Int) : Option ByteArray :=
(Option.bind (S.l02Bits a1 a2) fun r3 =>
(bif (decide (a1 < 0)) then
(Option.bind (S.WideNeg a1 a2) fun r5 =>
(Option.bind (S.l02Bits r5.1 r5.2) fun r6 =>
(S.WideText_l0 fu (fun y30 y31 y32 =>
(bif (decide (y30 < 0)) then
(bif decide (([45].length + y32.length) * 1 ≤ 140737488355328) then
(some (strOfNums ([45] ++ y32)))
else
none)
else
(some (strOfNums y32)))) true a1 a2 r6 [])))
else
(S.WideText_l0 fu (fun y36 y37 y38 =>
(bif (decide (y36 < 0)) then
(bif decide (([45].length + y38.length) * 1 ≤ 140737488355328) then
(some (strOfNums ([45] ++ y38)))
else
none)
else
(some (strOfNums y38)))) true a1 a2 r3 [])))
noncomputable def H48_12 : LoopH := ⟨⟨((.one (.unk)) :: (.one (.ptr 0 0)) :: (.one (.unk)) :: (.one (.sl 0)) :: (.one (.sl 1)) :: hh :: (hu 2 (hh :: (hu 42 [])))), [(93, (ho 2 []))], [(3, (.int .i64), .own), (5, (.int .u8), .own)]⟩, ([0, 2, 6, 7] ++ rg 9 42), [], ([0] ++ rg 6 45), [], []⟩
noncomputable def k48_12 : List PK := ((.bool) :: (ki 2 [.int .u64, .row (.int .i64), .row (.int .u8)]))
noncomputable def W48_12 (m : Nat) (k : Kont ByteArray) : Cur k48_12 (Option ByteArray) := S.WideText_l1 m (exF k (.exit 2) ⟨((.one (.unk)) :: (.one (.ptr 0 0)) :: (.one (.unk)) :: (.one (.sl 0)) :: (.one (.sl 1)) :: hh :: (hu 45 [])), [(93, (ho 2 []))], [(3, (.int .i64), .own), (5, (.int .u8), .own)]⟩ [.bool, .int .i64, .int .u64, .row (.int .i64), .row (.int .u8)])
noncomputable def E48_12 (m : Nat) : List Prm → Kont ByteArray → Option ByteArray := eL k48_12 (W48_12 m)
theorem ev48_12 (m : Nat) (k : Kont ByteArray) (a : Args k48_12) : evL Tryd.prog G48 loopNil c48_12 (turn Tryd.prog (0, 0) H48_12 (E48_12 m) k) (H48_12.sk.fl (encP k48_12 a)) = unc k48_12 (W48_12 (m + 1) k) a := by kernel_rfl
theorem ok48_12 (m : Nat) : LoopOk Tryd.prog (0, 0) c48_12 (enter Tryd.prog (0, 0) H48_12 (E48_12 m)) := loop_gen (Fl := W48_12) (G := G48) (L := loopNil) (envCons_good good70 (envCons_good good71 (envCons_good good72 envNil_good))) (no_loops (c := c48_12) (by kernel_rfl)) (fun _ _ => by kernel_rfl) ev48_12 m
noncomputable def L48_6 : LEnv ByteArray := (loopCons 12 (enter Tryd.prog (0, 0) H48_12 (E48_12 fu)) loopNil)
theorem lq48_6 : loopsOf c48_6 = [c48_12] := by kernel_rfl
theorem fr48_12 : firstReg c48_12 = some 12 := by kernel_rfl
theorem le48_12 : L48_6 12 = enter Tryd.prog (0, 0) H48_12 (E48_12 fu) := by kernel_rfl
theorem lm48_6 : ∀ x ∈ [c48_12], ∀ id, firstReg x = some id → LoopOk Tryd.prog (0, 0) x (L48_6 id) := (loops_cons fr48_12 le48_12 (ok48_12 fu) loops_nil)
theorem lp48_6 : ∀ x ∈ loopsOf c48_6, ∀ id, firstReg x = some id → LoopOk Tryd.prog (0, 0) x (L48_6 id) := loops_eq lq48_6 lm48_6
noncomputable def H48_6 : LoopH := ⟨⟨((.one (.unk)) :: (.one (.ptr 0 0)) :: (.one (.unk)) :: (.one (.sl 0)) :: (.one (.sl 1)) :: hh :: (hu 45 [])), [(93, (ho 2 []))], [(3, (.int .i64), .own), (5, (.int .u8), .own)]⟩, ([0, 2] ++ rg 6 45), [], ([0, 3] ++ rg 5 46), [], []⟩
noncomputable def k48_6 : List PK := [.bool, .int .i64, .int .u64, .row (.int .i64), .row (.int .u8)]
noncomputable def W48_6 (m : Nat) (k : Kont ByteArray) : Cur k48_6 (Option ByteArray) := S.WideText_l0 m (exF k (.exit 0) ⟨((.one (.unk)) :: (.one (.ptr 0 0)) :: (hu 2 ((.one (.sl 0)) :: (hu 46 [])))), [(93, (ho 2 []))], [(5, (.int .u8), .own)]⟩ [.int .i64, .int .u64, .row (.int .u8)])
noncomputable def E48_6 (m : Nat) : List Prm → Kont ByteArray → Option ByteArray := eL k48_6 (W48_6 m)
theorem ev48_6 (m : Nat) (k : Kont ByteArray) (a : Args k48_6) : evL Tryd.prog G48 L48_6 c48_6 (turn Tryd.prog (0, 0) H48_6 (E48_6 m) k) (H48_6.sk.fl (encP k48_6 a)) = unc k48_6 (W48_6 (m + 1) k) a := by kernel_rfl
theorem ok48_6 (m : Nat) : LoopOk Tryd.prog (0, 0) c48_6 (enter Tryd.prog (0, 0) H48_6 (E48_6 m)) := loop_gen (Fl := W48_6) (G := G48) (L := L48_6) (envCons_good good70 (envCons_good good71 (envCons_good good72 envNil_good))) lp48_6 (fun _ _ => by kernel_rfl) ev48_6 m
noncomputable def L48 : LEnv ByteArray := (loopCons 6 (enter Tryd.prog (0, 0) H48_6 (E48_6 fu)) loopNil)
theorem lq48 : loopsOf c48 = [c48_6] := by kernel_rfl
theorem fr48_6 : firstReg c48_6 = some 6 := by kernel_rfl
theorem le48_6 : L48 6 = enter Tryd.prog (0, 0) H48_6 (E48_6 fu) := by kernel_rfl
theorem lm48 : ∀ x ∈ [c48_6], ∀ id, firstReg x = some id → LoopOk Tryd.prog (0, 0) x (L48 id) := (loops_cons fr48_6 le48_6 (ok48_6 fu) loops_nil)
theorem lp48 : ∀ x ∈ loopsOf c48, ∀ id, firstReg x = some id → LoopOk Tryd.prog (0, 0) x (L48 id) := loops_eq lq48 lm48
noncomputable def sg48 : Sg := ⟨⟨[.agg (ho 2 [])], [], []⟩, [.int .i64, .int .u64], ⟨[hh], [], []⟩, [.str]⟩
noncomputable def E48 : Fun2 := eOf sg48 S.WideText
theorem ev48 (a : Args sg48.ks) : evS Tryd.prog G48 L48 (0, 0) [] Tryd.f48 c48 (kOf sg48) (sg48.sk.fl (encP sg48.ks a)) = unc sg48.ks S.WideText a := by kernel_rfl
theorem good48 : Vm.Good Tryd.prog 48 E48 := good_gen (G := G48) (L := L48) (c := c48) (rn := []) (N := (0, 0)) (envCons_good good70 (envCons_good good71 (envCons_good good72 envNil_good))) lp48 Tryd.func48 (by kernel_rfl) (by kernel_rfl) (fun _ => by kernel_rfl) ev48
noncomputable def G32 : Env := (envCons 49 [] E49 (envCons 48 [] E48 envNil))
noncomputable def c32 : Code := bodyOf Tryd.f32
noncomputable def S.l03Num (a1 : Int) : Option ByteArray :=
(Option.bind (S.WideOf a1) fun r2 =>
(Option.bind (S.WideText r2.1 r2.2) fun r3 =>
(some r3)))
noncomputable def sg32 : Sg := ⟨⟨[hh], [], []⟩, [.int .i64], ⟨[hh], [], []⟩, [.str]⟩
noncomputable def E32 : Fun2 := eOf sg32 S.l03Num
theorem ev32 (a : Args sg32.ks) : evS Tryd.prog G32 loopNil (0, 0) [] Tryd.f32 c32 (kOf sg32) (sg32.sk.fl (encP sg32.ks a)) = unc sg32.ks S.l03Num a := by kernel_rfl
theorem good32 : Vm.Good Tryd.prog 32 E32 := good_gen (G := G32) (L := loopNil) (c := c32) (rn := []) (N := (0, 0)) (envCons_good good49 (envCons_good good48 envNil_good)) (no_loops (c := c32) (by kernel_rfl)) Tryd.func32 (by kernel_rfl) (by kernel_rfl) (fun _ => by kernel_rfl) ev32
noncomputable def G26 : Env := (envCons 32 [] E32 envNil)
noncomputable def c26 : Code := bodyOf Tryd.f26
noncomputable def c26_3 : Code := (loopsOf c26).getD 0 .skip
noncomputable def S.l14Join_l0 : Nat → (ByteArray → Option ByteArray) → ByteArray → ByteArray → Int → List Int → Option ByteArray
  | 0, _, _, _, _, _ => none
  | m + 1, e3_0, a3, a4, a5, a6 =>
    (bif (decide (a5 < (a6.length : Int))) then
    (bif (decide (0 < a5)) then
    (bif decide (((a4.size + a3.size : Nat) : Int) ≤ IntKind.max .i64) then
    (bif decide ((0 : Int) ≤ a5 ∧ a5 < (a6.length : Int)) then
    (Option.bind (S.l03Num (nthI a6 a5 (0 : Int))) fun r10 =>
    (bif decide ((((a4 ++ a3).size + r10.size : Nat) : Int) ≤ IntKind.max .i64) then
    (S.l14Join_l0 m e3_0 a3 ((a4 ++ a3) ++ r10) (IntKind.wrap .i64 (a5 + 1)) a6)
    else
    none))
    else
    none)
    else
    none)
    else
    (bif decide ((0 : Int) ≤ a5 ∧ a5 < (a6.length : Int)) then
    (Option.bind (S.l03Num (nthI a6 a5 (0 : Int))) fun r13 =>
    (bif decide (((a4.size + r13.size : Nat) : Int) ≤ IntKind.max .i64) then
    (S.l14Join_l0 m e3_0 a3 (a4 ++ r13) (IntKind.wrap .i64 (a5 + 1)) a6)
    else
    none))
    else
    none))
    else
    (e3_0 a4))
noncomputable def S.l14Join (a1 : ByteArray) (a2 : List Int) : Option ByteArray :=
(S.l14Join_l0 fu (fun y15 =>
(some y15)) a1 lit0 0 a2)
noncomputable def H26_3 : LoopH := ⟨⟨((.one (.sl 0)) :: hh :: (hu 3 (hh :: hh :: (hu 19 [])))), [], [(3, (.int .i64), .ro)]⟩, ([2, 3, 4] ++ rg 7 19), [], (rg 0 4 ++ rg 6 20), [], []⟩
noncomputable def k26_3 : List PK := [.str, .str, .int .i64, .row (.int .i64)]
noncomputable def W26_3 (m : Nat) (k : Kont ByteArray) : Cur k26_3 (Option ByteArray) := S.l14Join_l0 m (exF k (.exit 0) ⟨(hu 5 (hh :: (hu 20 []))), [], []⟩ [.str])
noncomputable def E26_3 (m : Nat) : List Prm → Kont ByteArray → Option ByteArray := eL k26_3 (W26_3 m)
theorem ev26_3 (m : Nat) (k : Kont ByteArray) (a : Args k26_3) : evL Tryd.prog G26 loopNil c26_3 (turn Tryd.prog (0, 0) H26_3 (E26_3 m) k) (H26_3.sk.fl (encP k26_3 a)) = unc k26_3 (W26_3 (m + 1) k) a := by kernel_rfl
theorem ok26_3 (m : Nat) : LoopOk Tryd.prog (0, 0) c26_3 (enter Tryd.prog (0, 0) H26_3 (E26_3 m)) := loop_gen (Fl := W26_3) (G := G26) (L := loopNil) (envCons_good good32 envNil_good) (no_loops (c := c26_3) (by kernel_rfl)) (fun _ _ => by kernel_rfl) ev26_3 m
noncomputable def L26 : LEnv ByteArray := (loopCons 3 (enter Tryd.prog (0, 0) H26_3 (E26_3 fu)) loopNil)
theorem lq26 : loopsOf c26 = [c26_3] := by kernel_rfl
theorem fr26_3 : firstReg c26_3 = some 3 := by kernel_rfl
theorem le26_3 : L26 3 = enter Tryd.prog (0, 0) H26_3 (E26_3 fu) := by kernel_rfl
theorem lm26 : ∀ x ∈ [c26_3], ∀ id, firstReg x = some id → LoopOk Tryd.prog (0, 0) x (L26 id) := (loops_cons fr26_3 le26_3 (ok26_3 fu) loops_nil)
theorem lp26 : ∀ x ∈ loopsOf c26, ∀ id, firstReg x = some id → LoopOk Tryd.prog (0, 0) x (L26 id) := loops_eq lq26 lm26
noncomputable def sg26 : Sg := ⟨⟨[.one (.sl 0), hh], [], [(3, (.int .i64), .ro)]⟩, [.str, .row (.int .i64)], ⟨[hh], [], []⟩, [.str]⟩
noncomputable def E26 : Fun2 := eOf sg26 S.l14Join
theorem ev26 (a : Args sg26.ks) : evS Tryd.prog G26 L26 (0, 0) [] Tryd.f26 c26 (kOf sg26) (sg26.sk.fl (encP sg26.ks a)) = unc sg26.ks S.l14Join a := by kernel_rfl
theorem good26 : Vm.Good Tryd.prog 26 E26 := good_gen (G := G26) (L := L26) (c := c26) (rn := []) (N := (0, 0)) (envCons_good good32 envNil_good) lp26 Tryd.func26 (by kernel_rfl) (by kernel_rfl) (fun _ => by kernel_rfl) ev26
noncomputable def G13 : Env := (envCons 26 [] E26 envNil)
noncomputable def c13 : Code := bodyOf Tryd.f13
noncomputable def S.PaneText (a1 a2 a3 a4 a5 a6 : Int) (a7 : Bool) (a8 : List Int) : Option ByteArray :=
(Option.bind (S.l14Join lit4 [a1, a2, a3, a4, a5, a6]) fun r10 =>
(bif decide (((r10.size + lit5.size : Nat) : Int) ≤ IntKind.max .i64) then
(bif a7 then
(bif decide ((((r10 ++ lit5).size + lit6.size : Nat) : Int) ≤ IntKind.max .i64) then
(some ((r10 ++ lit5) ++ lit6))
else
none)
else
(Option.bind (S.l14Join lit7 a8) fun r12 =>
(bif decide ((((r10 ++ lit5).size + r12.size : Nat) : Int) ≤ IntKind.max .i64) then
(some ((r10 ++ lit5) ++ r12))
else
none)))
else
none))
noncomputable def sg13 : Sg := ⟨⟨[.agg (ho 6 [.sl 0, .hole])], [], [(3, (.int .i64), .ro)]⟩, (ki 6 [.bool, .row (.int .i64)]), ⟨[hh], [], []⟩, [.str]⟩
noncomputable def E13 : Fun2 := eOf sg13 S.PaneText
theorem ev13 (a : Args sg13.ks) : evS Tryd.prog G13 loopNil (0, 0) [] Tryd.f13 c13 (kOf sg13) (sg13.sk.fl (encP sg13.ks a)) = unc sg13.ks S.PaneText a := by kernel_rfl
theorem good13 : Vm.Good Tryd.prog 13 E13 := good_gen (G := G13) (L := loopNil) (c := c13) (rn := []) (N := (0, 0)) (envCons_good good26 envNil_good) (no_loops (c := c13) (by kernel_rfl)) Tryd.func13 (by kernel_rfl) (by kernel_rfl) (fun _ => by kernel_rfl) ev13
noncomputable def G18 : Env := (envCons 32 [] E32 (envCons 13 [] E13 (envCons 26 [] E26 envNil)))
noncomputable def c18 : Code := bodyOf Tryd.f18
noncomputable def c18_7 : Code := (loopsOf c18).getD 0 .skip
noncomputable def c18_11 : Code := (loopsOf c18).getD 1 .skip
noncomputable def S.ToldText_l0 : Nat → (ByteArray → Int → Int → (List ty6) → (List (Int × Int × Int)) → Option ByteArray) → ByteArray → Int → Int → Int → (List ty6) → (List (Int × Int × Int)) → Option ByteArray
  | 0, _, _, _, _, _, _, _ => none
  | m + 1, e7_0, a8, a9, a10, a11, a12, a13 =>
    (bif (decide (a9 < (a12.length : Int))) then
    (bif decide (((a8.size + lit2.size : Nat) : Int) ≤ IntKind.max .i64) then
    (bif decide ((0 : Int) ≤ a9 ∧ a9 < (a12.length : Int)) then
    (bif decide ((0 : Int) ≤ a9 ∧ a9 < (a12.length : Int)) then
    (bif decide ((0 : Int) ≤ a9 ∧ a9 < (a12.length : Int)) then
    (Option.bind (S.l03Num ((nthI a12 a9 df1).1)) fun r16 =>
    (bif decide ((((a8 ++ lit2).size + r16.size : Nat) : Int) ≤ IntKind.max .i64) then
    (let v17 : ByteArray := ((a8 ++ lit2) ++ r16)
    (bif decide (((v17.size + lit3.size : Nat) : Int) ≤ IntKind.max .i64) then
    (Option.bind (S.l03Num ((nthI a12 a9 df1).2.1)) fun r18 =>
    (bif decide ((((v17 ++ lit3).size + r18.size : Nat) : Int) ≤ IntKind.max .i64) then
    (let v19 : ByteArray := ((v17 ++ lit3) ++ r18)
    (bif decide (((v19.size + lit3.size : Nat) : Int) ≤ IntKind.max .i64) then
    (Option.bind (S.PaneText ((nthI a12 a9 df1).2.2.1) ((nthI a12 a9 df1).2.2.2.1) ((nthI a12 a9 df1).2.2.2.2.1) ((nthI a12 a9 df1).2.2.2.2.2.1) ((nthI a12 a9 df1).2.2.2.2.2.2.1) ((nthI a12 a9 df1).2.2.2.2.2.2.2.1) ((nthI a12 a9 df1).2.2.2.2.2.2.2.2.2) ((nthI a12 a9 df1).2.2.2.2.2.2.2.2.1)) fun r20 =>
    (bif decide ((((v19 ++ lit3).size + r20.size : Nat) : Int) ≤ IntKind.max .i64) then
    (S.ToldText_l0 m e7_0 ((v19 ++ lit3) ++ r20) (IntKind.wrap .i64 (a9 + 1)) a10 a11 a12 a13)
    else
    none))
    else
    none))
    else
    none))
    else
    none))
    else
    none))
    else
    none)
    else
    none)
    else
    none)
    else
    none)
    else
    (e7_0 a8 a10 a11 a12 a13))
noncomputable def S.ToldText_l1 : Nat → (ByteArray → Option ByteArray) → ByteArray → Int → Int → Int → (List ty6) → (List (Int × Int × Int)) → Option ByteArray
  | 0, _, _, _, _, _, _, _ => none
  | m + 1, e11_0, a28, a29, a30, a31, a32, a33 =>
    (bif (decide (a29 < (a33.length : Int))) then
    (bif decide (((a28.size + lit2.size : Nat) : Int) ≤ IntKind.max .i64) then
    (bif decide ((0 : Int) ≤ a29 ∧ a29 < (a33.length : Int)) then
    (bif decide ((0 : Int) ≤ a29 ∧ a29 < (a33.length : Int)) then
    (bif decide ((0 : Int) ≤ a29 ∧ a29 < (a33.length : Int)) then
    (let v36 : List Int := [(nthI a33 a29 df2).1, (nthI a33 a29 df2).2.1, (nthI a33 a29 df2).2.2]
    (Option.bind (S.l14Join lit8 v36) fun r37 =>
    (bif decide ((((a28 ++ lit2).size + r37.size : Nat) : Int) ≤ IntKind.max .i64) then
    (S.ToldText_l1 m e11_0 ((a28 ++ lit2) ++ r37) (IntKind.wrap .i64 (a29 + 1)) a30 a31 a32 a33)
    else
    none)))
    else
    none)
    else
    none)
    else
    none)
    else
    none)
    else
    (e11_0 a28))
noncomputable def S.ToldText (a1 a2 : Int) (a3 : List ty6) (a4 : List (Int × Int × Int)) : Option ByteArray :=
(Option.bind (S.l03Num a1) fun r5 =>
(bif (a1 != 0) then
(some r5)
else
(bif (a2 != 0) then
(bif decide (((r5.size + lit1.size : Nat) : Int) ≤ IntKind.max .i64) then
(Option.bind (S.l03Num a2) fun r6 =>
(bif decide ((((r5 ++ lit1).size + r6.size : Nat) : Int) ≤ IntKind.max .i64) then
(S.ToldText_l0 fu (fun y23 y24 y25 y26 y27 =>
(S.ToldText_l1 fu (fun y40 =>
(some y40)) y23 0 y24 y25 y26 y27)) ((r5 ++ lit1) ++ r6) 0 a1 a2 a3 a4)
else
none))
else
none)
else
(S.ToldText_l0 fu (fun y41 y42 y43 y44 y45 =>
(S.ToldText_l1 fu (fun y46 =>
(some y46)) y41 0 y42 y43 y44 y45)) r5 0 a1 a2 a3 a4))))
noncomputable def H18_7 : LoopH := ⟨⟨((.one (.unk)) :: (.one (.ptr 0 0)) :: (.one (.unk)) :: hh :: hh :: (hu 83 [])), [(48, (ho 2 [.sl 0, .sl 1]))], [(73, sh1, .ro), (75, sh2, .ro)]⟩, ([0, 2] ++ rg 5 83), [], ([0] ++ rg 4 84), [], []⟩
noncomputable def k18_7 : List PK := ((.str) :: (ki 3 [.row sh1, .row sh2]))
noncomputable def W18_7 (m : Nat) (k : Kont ByteArray) : Cur k18_7 (Option ByteArray) := S.ToldText_l0 m (exF k (.exit 0) ⟨((.one (.unk)) :: (.one (.ptr 0 0)) :: (.one (.unk)) :: hh :: (hu 84 [])), [(48, (ho 2 [.sl 0, .sl 1]))], [(73, sh1, .ro), (75, sh2, .ro)]⟩ ((.str) :: (ki 2 [.row sh1, .row sh2])))
noncomputable def E18_7 (m : Nat) : List Prm → Kont ByteArray → Option ByteArray := eL k18_7 (W18_7 m)
theorem ev18_7 (m : Nat) (k : Kont ByteArray) (a : Args k18_7) : evL Tryd.prog G18 loopNil c18_7 (turn Tryd.prog (0, 0) H18_7 (E18_7 m) k) (H18_7.sk.fl (encP k18_7 a)) = unc k18_7 (W18_7 (m + 1) k) a := by kernel_rfl
theorem ok18_7 (m : Nat) : LoopOk Tryd.prog (0, 0) c18_7 (enter Tryd.prog (0, 0) H18_7 (E18_7 m)) := loop_gen (Fl := W18_7) (G := G18) (L := loopNil) (envCons_good good32 (envCons_good good13 (envCons_good good26 envNil_good))) (no_loops (c := c18_7) (by kernel_rfl)) (fun _ _ => by kernel_rfl) ev18_7 m
noncomputable def H18_11 : LoopH := ⟨⟨((.one (.unk)) :: (.one (.ptr 0 0)) :: (.one (.unk)) :: hh :: (.one (.unk)) :: hh :: (hu 82 [])), [(48, (ho 2 [.sl 0, .sl 1]))], [(73, sh1, .ro), (75, sh2, .ro)]⟩, ([0, 2, 4] ++ rg 6 82), [], ([0, 1] ++ rg 4 84), [], []⟩
noncomputable def k18_11 : List PK := ((.str) :: (ki 3 [.row sh1, .row sh2]))
noncomputable def W18_11 (m : Nat) (k : Kont ByteArray) : Cur k18_11 (Option ByteArray) := S.ToldText_l1 m (exF k (.exit 2) ⟨(hu 3 (hh :: (hu 84 []))), [], []⟩ [.str])
noncomputable def E18_11 (m : Nat) : List Prm → Kont ByteArray → Option ByteArray := eL k18_11 (W18_11 m)
theorem ev18_11 (m : Nat) (k : Kont ByteArray) (a : Args k18_11) : evL Tryd.prog G18 loopNil c18_11 (turn Tryd.prog (0, 0) H18_11 (E18_11 m) k) (H18_11.sk.fl (encP k18_11 a)) = unc k18_11 (W18_11 (m + 1) k) a := by kernel_rfl
theorem ok18_11 (m : Nat) : LoopOk Tryd.prog (0, 0) c18_11 (enter Tryd.prog (0, 0) H18_11 (E18_11 m)) := loop_gen (Fl := W18_11) (G := G18) (L := loopNil) (envCons_good good32 (envCons_good good13 (envCons_good good26 envNil_good))) (no_loops (c := c18_11) (by kernel_rfl)) (fun _ _ => by kernel_rfl) ev18_11 m
noncomputable def L18 : LEnv ByteArray := (loopCons 7 (enter Tryd.prog (0, 0) H18_7 (E18_7 fu)) (loopCons 11 (enter Tryd.prog (0, 0) H18_11 (E18_11 fu)) loopNil))
theorem lq18 : loopsOf c18 = [c18_7, c18_11] := by kernel_rfl
theorem fr18_7 : firstReg c18_7 = some 7 := by kernel_rfl
theorem le18_7 : L18 7 = enter Tryd.prog (0, 0) H18_7 (E18_7 fu) := by kernel_rfl
theorem fr18_11 : firstReg c18_11 = some 11 := by kernel_rfl
theorem le18_11 : L18 11 = enter Tryd.prog (0, 0) H18_11 (E18_11 fu) := by kernel_rfl
theorem lm18 : ∀ x ∈ [c18_7, c18_11], ∀ id, firstReg x = some id → LoopOk Tryd.prog (0, 0) x (L18 id) := (loops_cons fr18_7 le18_7 (ok18_7 fu) (loops_cons fr18_11 le18_11 (ok18_11 fu) loops_nil))
theorem lp18 : ∀ x ∈ loopsOf c18, ∀ id, firstReg x = some id → LoopOk Tryd.prog (0, 0) x (L18 id) := loops_eq lq18 lm18
noncomputable def sg18 : Sg := ⟨⟨[.agg (ho 2 [.sl 0, .sl 1])], [], [(73, sh1, .ro), (75, sh2, .ro)]⟩, (ki 2 [.row sh1, .row sh2]), ⟨[hh], [], []⟩, [.str]⟩
noncomputable def E18 : Fun2 := eOf sg18 S.ToldText
theorem ev18 (a : Args sg18.ks) : evS Tryd.prog G18 L18 (0, 0) [] Tryd.f18 c18 (kOf sg18) (sg18.sk.fl (encP sg18.ks a)) = unc sg18.ks S.ToldText a := by kernel_rfl
theorem good18 : Vm.Good Tryd.prog 18 E18 := good_gen (G := G18) (L := L18) (c := c18) (rn := []) (N := (0, 0)) (envCons_good good32 (envCons_good good13 (envCons_good good26 envNil_good))) lp18 Tryd.func18 (by kernel_rfl) (by kernel_rfl) (fun _ => by kernel_rfl) ev18
noncomputable def G28 : Env := (envCons 45 [] E45 (envCons 46 [] E46 envNil))
noncomputable def c28 : Code := bodyOf Tryd.f28
noncomputable def c28_3 : Code := (loopsOf c28).getD 0 .skip
noncomputable def I.numbersText_l0 : Nat → (ByteArray → List ByteArray → Option ByteArray) → ByteArray → Int → Int → List ByteArray → List Int → Option ByteArray
  | 0, _, _, _, _, _, _ => none
  | m + 1, e3_0, a4, a5, a6, a7, a8 =>
    (bif (decide (a6 < a5)) then
    (bif decide ((0 : Int) ≤ a6 ∧ a6 < (a8.length : Int)) then
    (Option.bind (X.itoa (nthI a8 a6 (0 : Int))) fun r11 =>
    (bif decide ((a7.length + [r11].length) * 16 ≤ 140737488355328) then
    (I.numbersText_l0 m e3_0 a4 a5 (IntKind.wrap .i64 (a6 + 1)) (a7 ++ [r11]) a8)
    else
    none))
    else
    none)
    else
    (e3_0 a4 a7))
noncomputable def I.numbersText (a1 : ByteArray) (a2 : List Int) : Option ByteArray :=
(I.numbersText_l0 fu (fun y13 y14 =>
(Option.bind (X.join y13 y14) fun r15 =>
(some r15))) a1 (a2.length : Int) 0 [] a2)
noncomputable def H28_3 : LoopH := ⟨⟨((.one (.unk)) :: hh :: (hu 3 ((.one (.sl 0)) :: (hu 3 ((.one (.sl 1)) :: hh :: hh :: (hu 12 [])))))), [], [(9, .str, .own), (3, (.int .i64), .ro)]⟩, ([0, 2, 3, 4, 6, 7, 8] ++ rg 12 12), [], ([0, 2, 3] ++ rg 6 18), [], []⟩
noncomputable def k28_3 : List PK := ((.str) :: (ki 2 [.row (.str), .row (.int .i64)]))
noncomputable def W28_3 (m : Nat) (k : Kont ByteArray) : Cur k28_3 (Option ByteArray) := I.numbersText_l0 m (exF k (.exit 0) ⟨((.one (.unk)) :: hh :: (hu 3 ((.one (.sl 0)) :: (hu 18 [])))), [], [(9, .str, .own)]⟩ [.str, .row (.str)])
noncomputable def E28_3 (m : Nat) : List Prm → Kont ByteArray → Option ByteArray := eL k28_3 (W28_3 m)
theorem ev28_3 (m : Nat) (k : Kont ByteArray) (a : Args k28_3) : evL Tryd.prog G28 loopNil c28_3 (turn Tryd.prog (0, 0) H28_3 (E28_3 m) k) (H28_3.sk.fl (encP k28_3 a)) = unc k28_3 (W28_3 (m + 1) k) a := by kernel_rfl
theorem ok28_3 (m : Nat) : LoopOk Tryd.prog (0, 0) c28_3 (enter Tryd.prog (0, 0) H28_3 (E28_3 m)) := loop_gen (Fl := W28_3) (G := G28) (L := loopNil) (envCons_good good45 (envCons_good good46 envNil_good)) (no_loops (c := c28_3) (by kernel_rfl)) (fun _ _ => by kernel_rfl) ev28_3 m
noncomputable def L28 : LEnv ByteArray := (loopCons 3 (enter Tryd.prog (0, 0) H28_3 (E28_3 fu)) loopNil)
theorem lq28 : loopsOf c28 = [c28_3] := by kernel_rfl
theorem fr28_3 : firstReg c28_3 = some 3 := by kernel_rfl
theorem le28_3 : L28 3 = enter Tryd.prog (0, 0) H28_3 (E28_3 fu) := by kernel_rfl
theorem lm28 : ∀ x ∈ [c28_3], ∀ id, firstReg x = some id → LoopOk Tryd.prog (0, 0) x (L28 id) := (loops_cons fr28_3 le28_3 (ok28_3 fu) loops_nil)
theorem lp28 : ∀ x ∈ loopsOf c28, ∀ id, firstReg x = some id → LoopOk Tryd.prog (0, 0) x (L28 id) := loops_eq lq28 lm28
noncomputable def sg28 : Sg := ⟨⟨[.one (.sl 0), hh], [], [(3, (.int .i64), .ro)]⟩, [.str, .row (.int .i64)], ⟨[hh], [], []⟩, [.str]⟩
noncomputable def E28 : Fun2 := eOf sg28 I.numbersText
theorem ev28 (a : Args sg28.ks) : evS Tryd.prog G28 L28 (0, 0) [] Tryd.f28 c28 (kOf sg28) (sg28.sk.fl (encP sg28.ks a)) = unc sg28.ks I.numbersText a := by kernel_rfl
theorem good28 : Vm.Good Tryd.prog 28 E28 := good_gen (G := G28) (L := L28) (c := c28) (rn := []) (N := (0, 0)) (envCons_good good45 (envCons_good good46 envNil_good)) lp28 Tryd.func28 (by kernel_rfl) (by kernel_rfl) (fun _ => by kernel_rfl) ev28
noncomputable def G15 : Env := (envCons 28 [] E28 envNil)
noncomputable def c15 : Code := bodyOf Tryd.f15
noncomputable def I.PaneText (a1 a2 a3 a4 a5 a6 : Int) (a7 : Bool) (a8 : List Int) : Option ByteArray :=
(Option.bind (I.numbersText lit4 [a1, a2, a3, a4, a5, a6]) fun r10 =>
(bif decide (((r10.size + lit5.size : Nat) : Int) ≤ IntKind.max .i64) then
(bif a7 then
(bif decide ((((r10 ++ lit5).size + lit6.size : Nat) : Int) ≤ IntKind.max .i64) then
(some ((r10 ++ lit5) ++ lit6))
else
none)
else
(Option.bind (I.numbersText lit7 a8) fun r12 =>
(bif decide ((((r10 ++ lit5).size + r12.size : Nat) : Int) ≤ IntKind.max .i64) then
(some ((r10 ++ lit5) ++ r12))
else
none)))
else
none))
noncomputable def sg15 : Sg := ⟨⟨[.agg (ho 6 [.sl 0, .hole])], [], [(3, (.int .i64), .ro)]⟩, (ki 6 [.bool, .row (.int .i64)]), ⟨[hh], [], []⟩, [.str]⟩
noncomputable def E15 : Fun2 := eOf sg15 I.PaneText
theorem ev15 (a : Args sg15.ks) : evS Tryd.prog G15 loopNil (0, 0) [] Tryd.f15 c15 (kOf sg15) (sg15.sk.fl (encP sg15.ks a)) = unc sg15.ks I.PaneText a := by kernel_rfl
theorem good15 : Vm.Good Tryd.prog 15 E15 := good_gen (G := G15) (L := loopNil) (c := c15) (rn := []) (N := (0, 0)) (envCons_good good28 envNil_good) (no_loops (c := c15) (by kernel_rfl)) Tryd.func15 (by kernel_rfl) (by kernel_rfl) (fun _ => by kernel_rfl) ev15
noncomputable def G35 : Env := (envCons 45 [] E45 (envCons 28 [] E28 (envCons 15 [] E15 (envCons 46 [] E46 envNil))))
noncomputable def c35 : Code := bodyOf Tryd.f35
noncomputable def c35_7 : Code := (loopsOf c35).getD 0 .skip
noncomputable def c35_12 : Code := (loopsOf c35).getD 1 .skip
noncomputable def I.toldText_l0 : Nat → (Int → Int → List ByteArray → (List ty6) → (List (Int × Int × Int)) → Option ByteArray) → Int → Int → Int → Int → List ByteArray → (List ty6) → (List (Int × Int × Int)) → Option ByteArray
  | 0, _, _, _, _, _, _, _, _ => none
  | m + 1, e7_0, a10, a11, a12, a13, a14, a15, a16 =>
    (bif (decide (a11 < a10)) then
    (bif decide ((0 : Int) ≤ a11 ∧ a11 < (a15.length : Int)) then
    (let v18 : List Int := [(nthI a15 a11 df1).1, (nthI a15 a11 df1).2.1]
    (Option.bind (I.numbersText lit3 v18) fun r19 =>
    (bif decide (((r19.size + lit3.size : Nat) : Int) ≤ IntKind.max .i64) then
    (Option.bind (I.PaneText ((nthI a15 a11 df1).2.2.1) ((nthI a15 a11 df1).2.2.2.1) ((nthI a15 a11 df1).2.2.2.2.1) ((nthI a15 a11 df1).2.2.2.2.2.1) ((nthI a15 a11 df1).2.2.2.2.2.2.1) ((nthI a15 a11 df1).2.2.2.2.2.2.2.1) ((nthI a15 a11 df1).2.2.2.2.2.2.2.2.2) ((nthI a15 a11 df1).2.2.2.2.2.2.2.2.1)) fun r20 =>
    (bif decide ((((r19 ++ lit3).size + r20.size : Nat) : Int) ≤ IntKind.max .i64) then
    (let v21 : ByteArray := ((r19 ++ lit3) ++ r20)
    (bif decide ((a14.length + [v21].length) * 16 ≤ 140737488355328) then
    (I.toldText_l0 m e7_0 a10 (IntKind.wrap .i64 (a11 + 1)) a12 a13 (a14 ++ [v21]) a15 a16)
    else
    none))
    else
    none))
    else
    none)))
    else
    none)
    else
    (e7_0 a12 a13 a14 a15 a16))
noncomputable def I.toldText_l1 : Nat → (List ByteArray → Option ByteArray) → Int → Int → List ByteArray → (List (Int × Int × Int)) → Option ByteArray
  | 0, _, _, _, _, _ => none
  | m + 1, e12_0, a29, a30, a31, a32 =>
    (bif (decide (a30 < a29)) then
    (bif decide ((0 : Int) ≤ a30 ∧ a30 < (a32.length : Int)) then
    (let v34 : List Int := [(nthI a32 a30 df2).1, (nthI a32 a30 df2).2.1, (nthI a32 a30 df2).2.2]
    (Option.bind (I.numbersText lit8 v34) fun r35 =>
    (bif decide ((a31.length + [r35].length) * 16 ≤ 140737488355328) then
    (I.toldText_l1 m e12_0 a29 (IntKind.wrap .i64 (a30 + 1)) (a31 ++ [r35]) a32)
    else
    none)))
    else
    none)
    else
    (e12_0 a31))
noncomputable def I.toldText (a1 a2 : Int) (a3 : List ty6) (a4 : List (Int × Int × Int)) : Option ByteArray :=
(Option.bind (X.itoa a1) fun r5 =>
(bif (a1 != 0) then
(bif decide ((0 : Int) ≤ 0 ∧ 0 < ([r5].length : Int)) then
(some (nthI [r5] 0 ByteArray.empty))
else
none)
else
(bif (a2 != 0) then
(Option.bind (X.itoa a2) fun r7 =>
(bif decide (([r5].length + [lit9, r7].length) * 16 ≤ 140737488355328) then
(I.toldText_l0 fu (fun y23 y24 y25 y26 y27 =>
(I.toldText_l1 fu (fun y37 =>
(Option.bind (X.join lit2 y37) fun r38 =>
(some r38))) (y27.length : Int) 0 y25 y27)) (a3.length : Int) 0 a1 a2 ([r5] ++ [lit9, r7]) a3 a4)
else
none))
else
(I.toldText_l0 fu (fun y40 y41 y42 y43 y44 =>
(I.toldText_l1 fu (fun y46 =>
(Option.bind (X.join lit2 y46) fun r47 =>
(some r47))) (y44.length : Int) 0 y42 y44)) (a3.length : Int) 0 a1 a2 [r5] a3 a4))))
noncomputable def H35_7 : LoopH := ⟨⟨((.one (.unk)) :: (.one (.ptr 0 0)) :: (.one (.unk)) :: (.one (.sl 0)) :: (hu 24 ((.one (.sl 1)) :: hh :: hh :: (hu 39 [])))), [(48, (ho 2 [.sl 1, .sl 2]))], [(9, .str, .own), (73, sh1, .ro), (75, sh2, .ro)]⟩, ([0, 2] ++ rg 4 24 ++ rg 31 39), [], ([0] ++ rg 4 66), [], []⟩
noncomputable def k35_7 : List PK := (ki 4 [.row (.str), .row sh1, .row sh2])
noncomputable def W35_7 (m : Nat) (k : Kont ByteArray) : Cur k35_7 (Option ByteArray) := I.toldText_l0 m (exF k (.exit 0) ⟨((.one (.unk)) :: (.one (.ptr 0 0)) :: (.one (.unk)) :: (.one (.sl 0)) :: (hu 66 [])), [(48, (ho 2 [.sl 1, .sl 2]))], [(9, .str, .own), (73, sh1, .ro), (75, sh2, .ro)]⟩ (ki 2 [.row (.str), .row sh1, .row sh2]))
noncomputable def E35_7 (m : Nat) : List Prm → Kont ByteArray → Option ByteArray := eL k35_7 (W35_7 m)
theorem ev35_7 (m : Nat) (k : Kont ByteArray) (a : Args k35_7) : evL Tryd.prog G35 loopNil c35_7 (turn Tryd.prog (0, 0) H35_7 (E35_7 m) k) (H35_7.sk.fl (encP k35_7 a)) = unc k35_7 (W35_7 (m + 1) k) a := by kernel_rfl
theorem ok35_7 (m : Nat) : LoopOk Tryd.prog (0, 0) c35_7 (enter Tryd.prog (0, 0) H35_7 (E35_7 m)) := loop_gen (Fl := W35_7) (G := G35) (L := loopNil) (envCons_good good45 (envCons_good good28 (envCons_good good15 (envCons_good good46 envNil_good)))) (no_loops (c := c35_7) (by kernel_rfl)) (fun _ _ => by kernel_rfl) ev35_7 m
noncomputable def H35_12 : LoopH := ⟨⟨(hu 3 ((.one (.sl 0)) :: (hu 46 ((.one (.sl 1)) :: hh :: hh :: (hu 17 []))))), [], [(9, .str, .own), (75, sh2, .ro)]⟩, ([0, 1, 2] ++ rg 4 46 ++ rg 53 17), [], ([0, 1] ++ rg 4 66), [], []⟩
noncomputable def k35_12 : List PK := (ki 2 [.row (.str), .row sh2])
noncomputable def W35_12 (m : Nat) (k : Kont ByteArray) : Cur k35_12 (Option ByteArray) := I.toldText_l1 m (exF k (.exit 2) ⟨(hu 3 ((.one (.sl 0)) :: (hu 66 []))), [], [(9, .str, .own)]⟩ [.row (.str)])
noncomputable def E35_12 (m : Nat) : List Prm → Kont ByteArray → Option ByteArray := eL k35_12 (W35_12 m)
theorem ev35_12 (m : Nat) (k : Kont ByteArray) (a : Args k35_12) : evL Tryd.prog G35 loopNil c35_12 (turn Tryd.prog (0, 0) H35_12 (E35_12 m) k) (H35_12.sk.fl (encP k35_12 a)) = unc k35_12 (W35_12 (m + 1) k) a := by kernel_rfl
theorem ok35_12 (m : Nat) : LoopOk Tryd.prog (0, 0) c35_12 (enter Tryd.prog (0, 0) H35_12 (E35_12 m)) := loop_gen (Fl := W35_12) (G := G35) (L := loopNil) (envCons_good good45 (envCons_good good28 (envCons_good good15 (envCons_good good46 envNil_good)))) (no_loops (c := c35_12) (by kernel_rfl)) (fun _ _ => by kernel_rfl) ev35_12 m
noncomputable def L35 : LEnv ByteArray := (loopCons 7 (enter Tryd.prog (0, 0) H35_7 (E35_7 fu)) (loopCons 12 (enter Tryd.prog (0, 0) H35_12 (E35_12 fu)) loopNil))
theorem lq35 : loopsOf c35 = [c35_7, c35_12] := by kernel_rfl
theorem fr35_7 : firstReg c35_7 = some 7 := by kernel_rfl
theorem le35_7 : L35 7 = enter Tryd.prog (0, 0) H35_7 (E35_7 fu) := by kernel_rfl
theorem fr35_12 : firstReg c35_12 = some 12 := by kernel_rfl
theorem le35_12 : L35 12 = enter Tryd.prog (0, 0) H35_12 (E35_12 fu) := by kernel_rfl
theorem lm35 : ∀ x ∈ [c35_7, c35_12], ∀ id, firstReg x = some id → LoopOk Tryd.prog (0, 0) x (L35 id) := (loops_cons fr35_7 le35_7 (ok35_7 fu) (loops_cons fr35_12 le35_12 (ok35_12 fu) loops_nil))
theorem lp35 : ∀ x ∈ loopsOf c35, ∀ id, firstReg x = some id → LoopOk Tryd.prog (0, 0) x (L35 id) := loops_eq lq35 lm35
noncomputable def sg35 : Sg := ⟨⟨[.agg (ho 2 [.sl 0, .sl 1])], [], [(73, sh1, .ro), (75, sh2, .ro)]⟩, (ki 2 [.row sh1, .row sh2]), ⟨[hh], [], []⟩, [.str]⟩
noncomputable def E35 : Fun2 := eOf sg35 I.toldText
theorem ev35 (a : Args sg35.ks) : evS Tryd.prog G35 L35 (0, 0) [] Tryd.f35 c35 (kOf sg35) (sg35.sk.fl (encP sg35.ks a)) = unc sg35.ks I.toldText a := by kernel_rfl
theorem good35 : Vm.Good Tryd.prog 35 E35 := good_gen (G := G35) (L := L35) (c := c35) (rn := []) (N := (0, 0)) (envCons_good good45 (envCons_good good28 (envCons_good good15 (envCons_good good46 envNil_good)))) lp35 Tryd.func35 (by kernel_rfl) (by kernel_rfl) (fun _ => by kernel_rfl) ev35
noncomputable def G20 : Env := (envCons 35 [] E35 envNil)
noncomputable def c20 : Code := bodyOf Tryd.f20
noncomputable def I.ToldText (a1 a2 : Int) (a3 : List ty6) (a4 : List (Int × Int × Int)) : Option ByteArray :=
(Option.bind (I.toldText a1 a2 a3 a4) fun r5 =>
(some r5))
noncomputable def sg20 : Sg := ⟨⟨[.agg (ho 2 [.sl 0, .sl 1])], [], [(73, sh1, .ro), (75, sh2, .ro)]⟩, (ki 2 [.row sh1, .row sh2]), ⟨[hh], [], []⟩, [.str]⟩
noncomputable def E20 : Fun2 := eOf sg20 I.ToldText
theorem ev20 (a : Args sg20.ks) : evS Tryd.prog G20 loopNil (0, 0) [] Tryd.f20 c20 (kOf sg20) (sg20.sk.fl (encP sg20.ks a)) = unc sg20.ks I.ToldText a := by kernel_rfl
theorem good20 : Vm.Good Tryd.prog 20 E20 := good_gen (G := G20) (L := loopNil) (c := c20) (rn := []) (N := (0, 0)) (envCons_good good35 envNil_good) (no_loops (c := c20) (by kernel_rfl)) Tryd.func20 (by kernel_rfl) (by kernel_rfl) (fun _ => by kernel_rfl) ev20
noncomputable def G29 : Env := envNil
noncomputable def c29 : Code := bodyOf Tryd.f29
noncomputable def c29_4 : Code := (loopsOf c29).getD 0 .skip
noncomputable def L.eqIntS_l0 : Nat → (Bool → Option Bool) → (Option Bool) → Int → List Int → List Int → Option Bool
  | 0, _, _, _, _, _ => none
  | m + 1, e4_0, e4_1, a5, a6, a7 =>
    (bif (decide (a5 < (a6.length : Int))) then
    (bif decide ((0 : Int) ≤ a5 ∧ a5 < (a6.length : Int)) then
    (bif decide ((0 : Int) ≤ a5 ∧ a5 < (a7.length : Int)) then
    (bif ((nthI a6 a5 (0 : Int)) != (nthI a7 a5 (0 : Int))) then
    (e4_0 false)
    else
    (L.eqIntS_l0 m e4_0 e4_1 (IntKind.wrap .i64 (a5 + 1)) a6 a7))
    else
    none)
    else
    none)
    else
    e4_1)
noncomputable def L.eqIntS (a1 a2 : List Int) : Option Bool :=
(bif ((a1.length : Int) != (a2.length : Int)) then
(some false)
else
(L.eqIntS_l0 fu (fun y12 =>
(some y12)) (some true) 0 a1 a2))
noncomputable def H29_4 : LoopH := ⟨⟨((.one (.sl 0)) :: (.one (.sl 1)) :: (hu 3 (hh :: (hu 20 [])))), [], [(3, (.int .i64), .ro), (3, (.int .i64), .ro)]⟩, ([2, 3, 4] ++ rg 6 20), [], (rg 0 4 ++ rg 5 21), [], []⟩
noncomputable def k29_4 : List PK := [.int .i64, .row (.int .i64), .row (.int .i64)]
noncomputable def W29_4 (m : Nat) (k : Kont Bool) : Cur k29_4 (Option Bool) := L.eqIntS_l0 m (exF k .ret ⟨(hu 4 (hh :: (hu 21 []))), [], []⟩ [.bool]) (exF k (.exit 0) ⟨(hu 26 []), [], []⟩ [])
noncomputable def E29_4 (m : Nat) : List Prm → Kont Bool → Option Bool := eL k29_4 (W29_4 m)
theorem ev29_4 (m : Nat) (k : Kont Bool) (a : Args k29_4) : evL Tryd.prog G29 loopNil c29_4 (turn Tryd.prog (0, 0) H29_4 (E29_4 m) k) (H29_4.sk.fl (encP k29_4 a)) = unc k29_4 (W29_4 (m + 1) k) a := by kernel_rfl
theorem ok29_4 (m : Nat) : LoopOk Tryd.prog (0, 0) c29_4 (enter Tryd.prog (0, 0) H29_4 (E29_4 m)) := loop_gen (Fl := W29_4) (G := G29) (L := loopNil) envNil_good (no_loops (c := c29_4) (by kernel_rfl)) (fun _ _ => by kernel_rfl) ev29_4 m
noncomputable def L29 : LEnv Bool := (loopCons 4 (enter Tryd.prog (0, 0) H29_4 (E29_4 fu)) loopNil)
theorem lq29 : loopsOf c29 = [c29_4] := by kernel_rfl
theorem fr29_4 : firstReg c29_4 = some 4 := by kernel_rfl
theorem le29_4 : L29 4 = enter Tryd.prog (0, 0) H29_4 (E29_4 fu) := by kernel_rfl
theorem lm29 : ∀ x ∈ [c29_4], ∀ id, firstReg x = some id → LoopOk Tryd.prog (0, 0) x (L29 id) := (loops_cons fr29_4 le29_4 (ok29_4 fu) loops_nil)
theorem lp29 : ∀ x ∈ loopsOf c29, ∀ id, firstReg x = some id → LoopOk Tryd.prog (0, 0) x (L29 id) := loops_eq lq29 lm29
noncomputable def sg29 : Sg := ⟨⟨[.one (.sl 0), .one (.sl 1)], [], [(3, (.int .i64), .ro), (3, (.int .i64), .ro)]⟩, [.row (.int .i64), .row (.int .i64)], ⟨[hh], [], []⟩, [.bool]⟩
noncomputable def E29 : Fun2 := eOf sg29 L.eqIntS
theorem ev29 (a : Args sg29.ks) : evS Tryd.prog G29 L29 (0, 0) [] Tryd.f29 c29 (kOf sg29) (sg29.sk.fl (encP sg29.ks a)) = unc sg29.ks L.eqIntS a := by kernel_rfl
theorem good29 : Vm.Good Tryd.prog 29 E29 := good_gen (G := G29) (L := L29) (c := c29) (rn := []) (N := (0, 0)) envNil_good lp29 Tryd.func29 (by kernel_rfl) (by kernel_rfl) (fun _ => by kernel_rfl) ev29
noncomputable def G16 : Env := (envCons 29 [] E29 envNil)
noncomputable def c16 : Code := bodyOf Tryd.f16
noncomputable def L.eqPane (a1 a2 a3 a4 a5 a6 : Int) (a7 : Bool) (a8 a9 a10 a11 a12 a13 : Int) (a14 : Bool) (a15 a16 : List Int) : Option Bool :=
(bif (a1 != a8) then
(some false)
else
(bif (a2 != a9) then
(some false)
else
(bif (a3 != a10) then
(some false)
else
(bif (a4 != a11) then
(some false)
else
(bif (a5 != a12) then
(some false)
else
(bif (a6 != a13) then
(some false)
else
(Option.bind (L.eqIntS a15 a16) fun r17 =>
(bif (!r17) then
(some false)
else
(bif (!(a7 == a14)) then
(some false)
else
(some true))))))))))
noncomputable def sg16 : Sg := ⟨⟨[.agg (ho 6 [.sl 0, .hole]), .agg (ho 6 [.sl 1, .hole])], [], [(3, (.int .i64), .ro), (3, (.int .i64), .ro)]⟩, (ki 6 ((.bool) :: (ki 6 [.bool, .row (.int .i64), .row (.int .i64)]))), ⟨[hh], [], []⟩, [.bool]⟩
noncomputable def E16 : Fun2 := eOf sg16 L.eqPane
theorem ev16 (a : Args sg16.ks) : evS Tryd.prog G16 loopNil (0, 0) [] Tryd.f16 c16 (kOf sg16) (sg16.sk.fl (encP sg16.ks a)) = unc sg16.ks L.eqPane a := by kernel_rfl
theorem good16 : Vm.Good Tryd.prog 16 E16 := good_gen (G := G16) (L := loopNil) (c := c16) (rn := []) (N := (0, 0)) (envCons_good good29 envNil_good) (no_loops (c := c16) (by kernel_rfl)) Tryd.func16 (by kernel_rfl) (by kernel_rfl) (fun _ => by kernel_rfl) ev16
noncomputable def G52 : Env := (envCons 16 [] E16 envNil)
noncomputable def c52 : Code := bodyOf Tryd.f52
noncomputable def L.eqItem (a1 a2 a3 a4 a5 a6 a7 a8 : Int) (a9 : Bool) (a10 a11 a12 a13 a14 a15 a16 a17 : Int) (a18 : Bool) (a19 a20 : List Int) : Option Bool :=
(bif (a1 != a10) then
(some false)
else
(bif (a2 != a11) then
(some false)
else
(Option.bind (L.eqPane a3 a4 a5 a6 a7 a8 a9 a12 a13 a14 a15 a16 a17 a18 a19 a20) fun r21 =>
(bif (!r21) then
(some false)
else
(some true)))))
noncomputable def sg52 : Sg := ⟨⟨[.agg (ho 8 [.sl 0, .hole]), .agg (ho 8 [.sl 1, .hole])], [], [(3, (.int .i64), .ro), (3, (.int .i64), .ro)]⟩, (ki 8 ((.bool) :: (ki 8 [.bool, .row (.int .i64), .row (.int .i64)]))), ⟨[hh], [], []⟩, [.bool]⟩
noncomputable def E52 : Fun2 := eOf sg52 L.eqItem
theorem ev52 (a : Args sg52.ks) : evS Tryd.prog G52 loopNil (0, 0) [] Tryd.f52 c52 (kOf sg52) (sg52.sk.fl (encP sg52.ks a)) = unc sg52.ks L.eqItem a := by kernel_rfl
theorem good52 : Vm.Good Tryd.prog 52 E52 := good_gen (G := G52) (L := loopNil) (c := c52) (rn := []) (N := (0, 0)) (envCons_good good16 envNil_good) (no_loops (c := c52) (by kernel_rfl)) Tryd.func52 (by kernel_rfl) (by kernel_rfl) (fun _ => by kernel_rfl) ev52
noncomputable def G36 : Env := (envCons 52 [] E52 envNil)
noncomputable def c36 : Code := bodyOf Tryd.f36
noncomputable def c36_4 : Code := (loopsOf c36).getD 0 .skip
noncomputable def L.eqItemS_l0 : Nat → (Bool → Option Bool) → (Option Bool) → Int → (List ty6) → (List ty6) → Option Bool
  | 0, _, _, _, _, _ => none
  | m + 1, e4_0, e4_1, a5, a6, a7 =>
    (bif (decide (a5 < (a6.length : Int))) then
    (bif decide ((0 : Int) ≤ a5 ∧ a5 < (a6.length : Int)) then
    (bif decide ((0 : Int) ≤ a5 ∧ a5 < (a7.length : Int)) then
    (Option.bind (L.eqItem ((nthI a6 a5 df1).1) ((nthI a6 a5 df1).2.1) ((nthI a6 a5 df1).2.2.1) ((nthI a6 a5 df1).2.2.2.1) ((nthI a6 a5 df1).2.2.2.2.1) ((nthI a6 a5 df1).2.2.2.2.2.1) ((nthI a6 a5 df1).2.2.2.2.2.2.1) ((nthI a6 a5 df1).2.2.2.2.2.2.2.1) ((nthI a6 a5 df1).2.2.2.2.2.2.2.2.2) ((nthI a7 a5 df1).1) ((nthI a7 a5 df1).2.1) ((nthI a7 a5 df1).2.2.1) ((nthI a7 a5 df1).2.2.2.1) ((nthI a7 a5 df1).2.2.2.2.1) ((nthI a7 a5 df1).2.2.2.2.2.1) ((nthI a7 a5 df1).2.2.2.2.2.2.1) ((nthI a7 a5 df1).2.2.2.2.2.2.2.1) ((nthI a7 a5 df1).2.2.2.2.2.2.2.2.2) ((nthI a6 a5 df1).2.2.2.2.2.2.2.2.1) ((nthI a7 a5 df1).2.2.2.2.2.2.2.2.1)) fun r10 =>
    (bif (!r10) then
    (e4_0 false)
    else
    (L.eqItemS_l0 m e4_0 e4_1 (IntKind.wrap .i64 (a5 + 1)) a6 a7)))
    else
    none)
    else
    none)
    else
    e4_1)
noncomputable def L.eqItemS (a1 a2 : List ty6) : Option Bool :=
(bif ((a1.length : Int) != (a2.length : Int)) then
(some false)
else
(L.eqItemS_l0 fu (fun y12 =>
(some y12)) (some true) 0 a1 a2))
noncomputable def H36_4 : LoopH := ⟨⟨((.one (.sl 0)) :: (.one (.sl 1)) :: (hu 3 (hh :: (hu 21 [])))), [], [(73, sh1, .ro), (73, sh1, .ro)]⟩, ([2, 3, 4] ++ rg 6 21), [], (rg 0 4 ++ rg 5 22), [], []⟩
noncomputable def k36_4 : List PK := [.int .i64, .row sh1, .row sh1]
noncomputable def W36_4 (m : Nat) (k : Kont Bool) : Cur k36_4 (Option Bool) := L.eqItemS_l0 m (exF k .ret ⟨(hu 4 (hh :: (hu 22 []))), [], []⟩ [.bool]) (exF k (.exit 0) ⟨(hu 27 []), [], []⟩ [])
noncomputable def E36_4 (m : Nat) : List Prm → Kont Bool → Option Bool := eL k36_4 (W36_4 m)
theorem ev36_4 (m : Nat) (k : Kont Bool) (a : Args k36_4) : evL Tryd.prog G36 loopNil c36_4 (turn Tryd.prog (0, 0) H36_4 (E36_4 m) k) (H36_4.sk.fl (encP k36_4 a)) = unc k36_4 (W36_4 (m + 1) k) a := by kernel_rfl
theorem ok36_4 (m : Nat) : LoopOk Tryd.prog (0, 0) c36_4 (enter Tryd.prog (0, 0) H36_4 (E36_4 m)) := loop_gen (Fl := W36_4) (G := G36) (L := loopNil) (envCons_good good52 envNil_good) (no_loops (c := c36_4) (by kernel_rfl)) (fun _ _ => by kernel_rfl) ev36_4 m
noncomputable def L36 : LEnv Bool := (loopCons 4 (enter Tryd.prog (0, 0) H36_4 (E36_4 fu)) loopNil)
theorem lq36 : loopsOf c36 = [c36_4] := by kernel_rfl
theorem fr36_4 : firstReg c36_4 = some 4 := by kernel_rfl
theorem le36_4 : L36 4 = enter Tryd.prog (0, 0) H36_4 (E36_4 fu) := by kernel_rfl
theorem lm36 : ∀ x ∈ [c36_4], ∀ id, firstReg x = some id → LoopOk Tryd.prog (0, 0) x (L36 id) := (loops_cons fr36_4 le36_4 (ok36_4 fu) loops_nil)
theorem lp36 : ∀ x ∈ loopsOf c36, ∀ id, firstReg x = some id → LoopOk Tryd.prog (0, 0) x (L36 id) := loops_eq lq36 lm36
noncomputable def sg36 : Sg := ⟨⟨[.one (.sl 0), .one (.sl 1)], [], [(73, sh1, .ro), (73, sh1, .ro)]⟩, [.row sh1, .row sh1], ⟨[hh], [], []⟩, [.bool]⟩
noncomputable def E36 : Fun2 := eOf sg36 L.eqItemS
theorem ev36 (a : Args sg36.ks) : evS Tryd.prog G36 L36 (0, 0) [] Tryd.f36 c36 (kOf sg36) (sg36.sk.fl (encP sg36.ks a)) = unc sg36.ks L.eqItemS a := by kernel_rfl
theorem good36 : Vm.Good Tryd.prog 36 E36 := good_gen (G := G36) (L := L36) (c := c36) (rn := []) (N := (0, 0)) (envCons_good good52 envNil_good) lp36 Tryd.func36 (by kernel_rfl) (by kernel_rfl) (fun _ => by kernel_rfl) ev36
noncomputable def G53 : Env := envNil
noncomputable def c53 : Code := bodyOf Tryd.f53
noncomputable def L.eqRec (a1 a2 a3 a4 a5 a6 : Int) : Option Bool :=
(bif (a1 != a4) then
(some false)
else
(bif (a2 != a5) then
(some false)
else
(bif (a3 != a6) then
(some false)
else
(some true))))
noncomputable def sg53 : Sg := ⟨⟨[.agg (ho 3 []), .agg (ho 3 [])], [], []⟩, (ki 6 []), ⟨[hh], [], []⟩, [.bool]⟩
noncomputable def E53 : Fun2 := eOf sg53 L.eqRec
theorem ev53 (a : Args sg53.ks) : evS Tryd.prog G53 loopNil (0, 0) [] Tryd.f53 c53 (kOf sg53) (sg53.sk.fl (encP sg53.ks a)) = unc sg53.ks L.eqRec a := by kernel_rfl
theorem good53 : Vm.Good Tryd.prog 53 E53 := good_gen (G := G53) (L := loopNil) (c := c53) (rn := []) (N := (0, 0)) envNil_good (no_loops (c := c53) (by kernel_rfl)) Tryd.func53 (by kernel_rfl) (by kernel_rfl) (fun _ => by kernel_rfl) ev53
noncomputable def G37 : Env := (envCons 53 [] E53 envNil)
noncomputable def c37 : Code := bodyOf Tryd.f37
noncomputable def c37_4 : Code := (loopsOf c37).getD 0 .skip
noncomputable def L.eqRecS_l0 : Nat → (Bool → Option Bool) → (Option Bool) → Int → (List (Int × Int × Int)) → (List (Int × Int × Int)) → Option Bool
  | 0, _, _, _, _, _ => none
  | m + 1, e4_0, e4_1, a5, a6, a7 =>
    (bif (decide (a5 < (a6.length : Int))) then
    (bif decide ((0 : Int) ≤ a5 ∧ a5 < (a6.length : Int)) then
    (bif decide ((0 : Int) ≤ a5 ∧ a5 < (a7.length : Int)) then
    (Option.bind (L.eqRec ((nthI a6 a5 df2).1) ((nthI a6 a5 df2).2.1) ((nthI a6 a5 df2).2.2) ((nthI a7 a5 df2).1) ((nthI a7 a5 df2).2.1) ((nthI a7 a5 df2).2.2)) fun r10 =>
    (bif (!r10) then
    (e4_0 false)
    else
    (L.eqRecS_l0 m e4_0 e4_1 (IntKind.wrap .i64 (a5 + 1)) a6 a7)))
    else
    none)
    else
    none)
    else
    e4_1)
noncomputable def L.eqRecS (a1 a2 : List (Int × Int × Int)) : Option Bool :=
(bif ((a1.length : Int) != (a2.length : Int)) then
(some false)
else
(L.eqRecS_l0 fu (fun y12 =>
(some y12)) (some true) 0 a1 a2))
noncomputable def H37_4 : LoopH := ⟨⟨((.one (.sl 0)) :: (.one (.sl 1)) :: (hu 3 (hh :: (hu 21 [])))), [], [(75, sh2, .ro), (75, sh2, .ro)]⟩, ([2, 3, 4] ++ rg 6 21), [], (rg 0 4 ++ rg 5 22), [], []⟩
noncomputable def k37_4 : List PK := [.int .i64, .row sh2, .row sh2]
noncomputable def W37_4 (m : Nat) (k : Kont Bool) : Cur k37_4 (Option Bool) := L.eqRecS_l0 m (exF k .ret ⟨(hu 4 (hh :: (hu 22 []))), [], []⟩ [.bool]) (exF k (.exit 0) ⟨(hu 27 []), [], []⟩ [])
noncomputable def E37_4 (m : Nat) : List Prm → Kont Bool → Option Bool := eL k37_4 (W37_4 m)
theorem ev37_4 (m : Nat) (k : Kont Bool) (a : Args k37_4) : evL Tryd.prog G37 loopNil c37_4 (turn Tryd.prog (0, 0) H37_4 (E37_4 m) k) (H37_4.sk.fl (encP k37_4 a)) = unc k37_4 (W37_4 (m + 1) k) a := by kernel_rfl
theorem ok37_4 (m : Nat) : LoopOk Tryd.prog (0, 0) c37_4 (enter Tryd.prog (0, 0) H37_4 (E37_4 m)) := loop_gen (Fl := W37_4) (G := G37) (L := loopNil) (envCons_good good53 envNil_good) (no_loops (c := c37_4) (by kernel_rfl)) (fun _ _ => by kernel_rfl) ev37_4 m
noncomputable def L37 : LEnv Bool := (loopCons 4 (enter Tryd.prog (0, 0) H37_4 (E37_4 fu)) loopNil)
theorem lq37 : loopsOf c37 = [c37_4] := by kernel_rfl
theorem fr37_4 : firstReg c37_4 = some 4 := by kernel_rfl
theorem le37_4 : L37 4 = enter Tryd.prog (0, 0) H37_4 (E37_4 fu) := by kernel_rfl
theorem lm37 : ∀ x ∈ [c37_4], ∀ id, firstReg x = some id → LoopOk Tryd.prog (0, 0) x (L37 id) := (loops_cons fr37_4 le37_4 (ok37_4 fu) loops_nil)
theorem lp37 : ∀ x ∈ loopsOf c37, ∀ id, firstReg x = some id → LoopOk Tryd.prog (0, 0) x (L37 id) := loops_eq lq37 lm37
noncomputable def sg37 : Sg := ⟨⟨[.one (.sl 0), .one (.sl 1)], [], [(75, sh2, .ro), (75, sh2, .ro)]⟩, [.row sh2, .row sh2], ⟨[hh], [], []⟩, [.bool]⟩
noncomputable def E37 : Fun2 := eOf sg37 L.eqRecS
theorem ev37 (a : Args sg37.ks) : evS Tryd.prog G37 L37 (0, 0) [] Tryd.f37 c37 (kOf sg37) (sg37.sk.fl (encP sg37.ks a)) = unc sg37.ks L.eqRecS a := by kernel_rfl
theorem good37 : Vm.Good Tryd.prog 37 E37 := good_gen (G := G37) (L := L37) (c := c37) (rn := []) (N := (0, 0)) (envCons_good good53 envNil_good) lp37 Tryd.func37 (by kernel_rfl) (by kernel_rfl) (fun _ => by kernel_rfl) ev37
noncomputable def G21 : Env := (envCons 36 [] E36 (envCons 37 [] E37 envNil))
noncomputable def c21 : Code := bodyOf Tryd.f21
noncomputable def L.eqTold (a1 a2 a3 a4 : Int) (a5 : List ty6) (a6 : List (Int × Int × Int)) (a7 : List ty6) (a8 : List (Int × Int × Int)) : Option Bool :=
(bif (a1 != a3) then
(some false)
else
(bif (a2 != a4) then
(some false)
else
(Option.bind (L.eqItemS a5 a7) fun r9 =>
(bif (!r9) then
(some false)
else
(Option.bind (L.eqRecS a6 a8) fun r10 =>
(bif (!r10) then
(some false)
else
(some true)))))))
noncomputable def sg21 : Sg := ⟨⟨[.agg (ho 2 [.sl 0, .sl 1]), .agg (ho 2 [.sl 2, .sl 3])], [], [(73, sh1, .ro), (75, sh2, .ro), (73, sh1, .ro), (75, sh2, .ro)]⟩, (ki 4 [.row sh1, .row sh2, .row sh1, .row sh2]), ⟨[hh], [], []⟩, [.bool]⟩
noncomputable def E21 : Fun2 := eOf sg21 L.eqTold
theorem ev21 (a : Args sg21.ks) : evS Tryd.prog G21 loopNil (0, 0) [] Tryd.f21 c21 (kOf sg21) (sg21.sk.fl (encP sg21.ks a)) = unc sg21.ks L.eqTold a := by kernel_rfl
theorem good21 : Vm.Good Tryd.prog 21 E21 := good_gen (G := G21) (L := loopNil) (c := c21) (rn := []) (N := (0, 0)) (envCons_good good36 (envCons_good good37 envNil_good)) (no_loops (c := c21) (by kernel_rfl)) Tryd.func21 (by kernel_rfl) (by kernel_rfl) (fun _ => by kernel_rfl) ev21
noncomputable def G5 : Env := (envCons 17 [] E17 (envCons 19 [] E19 (envCons 18 [] E18 (envCons 20 [] E20 (envCons 21 [] E21 envNil)))))
noncomputable def c5 : Code := bodyOf Tryd.f5
noncomputable def L.FnExactToldText (a1 a2 : Int) (a3 : List ty6) (a4 : List (Int × Int × Int)) : Option Bool :=
(Option.bind (L.szTold a1 a2 1048576 a3 a4) fun r5 =>
(bif (decide (r5 < 0)) then
(some true)
else
(Option.bind (L.toTold a1 a2 a3 a4) fun r7 =>
(Option.bind (S.ToldText r7.1 r7.2.1 r7.2.2.1 r7.2.2.2) fun r8 =>
(Option.bind (L.toTold a1 a2 a3 a4) fun r9 =>
(Option.bind (I.ToldText r9.1 r9.2.1 r9.2.2.1 r9.2.2.2) fun r10 =>
(bif (!(r10.toList == r8.toList)) then
(some false)
else
(Option.bind (L.toTold a1 a2 a3 a4) fun r12 =>
(Option.bind (L.eqTold r9.1 r9.2.1 r12.1 r12.2.1 r9.2.2.1 r9.2.2.2 r12.2.2.1 r12.2.2.2) fun r13 =>
(bif (!r13) then
(some false)
else
(some true)))))))))))
noncomputable def sg5 : Sg := ⟨⟨[.agg (ho 2 [.sl 0, .sl 1])], [], [(89, sh1, .ro), (97, sh2, .ro)]⟩, (ki 2 [.row sh1, .row sh2]), ⟨[hh], [], []⟩, [.bool]⟩
noncomputable def E5 : Fun2 := eOf sg5 L.FnExactToldText
theorem ev5 (a : Args sg5.ks) : evS Tryd.prog G5 loopNil (0, 0) [] Tryd.f5 c5 (kOf sg5) (sg5.sk.fl (encP sg5.ks a)) = unc sg5.ks L.FnExactToldText a := by kernel_rfl
theorem good5 : Vm.Good Tryd.prog 5 E5 := good_gen (G := G5) (L := loopNil) (c := c5) (rn := []) (N := (0, 0)) (envCons_good good17 (envCons_good good19 (envCons_good good18 (envCons_good good20 (envCons_good good21 envNil_good))))) (no_loops (c := c5) (by kernel_rfl)) Tryd.func5 (by kernel_rfl) (by kernel_rfl) (fun _ => by kernel_rfl) ev5
end Go.Proofs.YtipipipngmenoaaDoor.Run
