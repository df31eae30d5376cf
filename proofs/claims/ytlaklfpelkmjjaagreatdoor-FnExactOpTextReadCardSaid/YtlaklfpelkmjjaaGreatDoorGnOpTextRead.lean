import Derived.Test.YtlaklfpelkmjjaaGreatDoorVmXt
import Derived.Test.YtlaklfpelkmjjaaGreatDoorProg
namespace Go.Proofs.YtlaklfpelkmjjaaGreatDoor.Run
open Go Go.RowKit Go.Proofs.YtlaklfpelkmjjaaGreatDoorW.PrintWords Go.Proofs.YtlaklfpelkmjjaaGreatDoor.Vm
set_option linter.unusedVariables false
set_option maxRecDepth 100000
set_option maxHeartbeats 4000000


noncomputable def lit0 : ByteArray := ⟨#[]⟩
noncomputable def lit1 : ByteArray := ⟨#[101, 108, 101, 109]⟩
noncomputable def lit2 : ByteArray := ⟨#[115, 101, 116]⟩
noncomputable def lit3 : ByteArray := ⟨#[100, 114, 111, 112]⟩
noncomputable def lit4 : ByteArray := ⟨#[109, 97, 114, 107]⟩
noncomputable def lit5 : ByteArray := ⟨#[105, 100, 108, 101]⟩
noncomputable def lit6 : ByteArray := ⟨#[98, 117, 115, 121]⟩
noncomputable def lit7 : ByteArray := ⟨#[112, 111, 108, 108]⟩
noncomputable def lit8 : ByteArray := ⟨#[97, 99, 107]⟩
noncomputable def lit9 : ByteArray := ⟨#[97, 117, 100, 105, 116]⟩
noncomputable def lit10 : ByteArray := ⟨#[32]⟩
noncomputable def lit11 : ByteArray := ⟨#[101, 108, 101, 109, 32, 115, 101, 116, 32, 100, 114, 111, 112, 32, 109, 97, 114, 107, 32, 105, 100, 108, 101, 32, 98, 117, 115, 121, 32, 112, 111, 108, 108, 32, 97, 99, 107, 32, 97, 117, 100, 105, 116]⟩
noncomputable def G7 : Env := envNil
noncomputable def c7 : Code := bodyOf Tryz.f7
noncomputable def c7_4 : Code := (loopsOf c7).getD 0 .skip
noncomputable def S.l03Cut_l0 : Nat → (ByteArray → Int → List ByteArray → Option (List ByteArray)) → ByteArray → Int → Int → Int → List ByteArray → Option (List ByteArray)
  | 0, _, _, _, _, _, _ => none
  | m + 1, e4_0, a3, a4, a5, a6, a7 =>
    (bif (decide (a6 < (a3.size : Int))) then
    (bif decide ((0 : Int) ≤ a6 ∧ a6 < (a3.size : Int)) then
    (bif ((byteAt a3 a6) == a4) then
    (bif decide ((0 : Int) ≤ a5 ∧ a5 ≤ a6 ∧ a6 ≤ (a3.size : Int)) then
    (let v11 : List ByteArray := [(ByteArray.extract a3 (Int.toNat a5) (Int.toNat a6))]
    (bif decide ((a7.length + v11.length) * 16 ≤ 140737488355328) then
    (S.l03Cut_l0 m e4_0 a3 a4 (IntKind.wrap .i64 (a6 + 1)) (IntKind.wrap .i64 (a6 + 1)) (a7 ++ v11))
    else
    none))
    else
    none)
    else
    (S.l03Cut_l0 m e4_0 a3 a4 a5 (IntKind.wrap .i64 (a6 + 1)) a7))
    else
    none)
    else
    (e4_0 a3 a5 a7))
noncomputable def S.l03Cut (a1 : ByteArray) (a2 : Int) : Option (List ByteArray) :=
(S.l03Cut_l0 fu (fun y15 y16 y17 =>
(bif decide ((0 : Int) ≤ y16 ∧ y16 ≤ (y15.size : Int) ∧ (y15.size : Int) ≤ (y15.size : Int)) then
(let v18 : List ByteArray := [(ByteArray.extract y15 (Int.toNat y16) (Int.toNat (y15.size : Int)))]
(bif decide ((y17.length + v18.length) * 16 ≤ 140737488355328) then
(some (y17 ++ v18))
else
none))
else
none)) a1 a2 0 0 [])
noncomputable def H7_4 : LoopH := ⟨⟨(hh :: hh :: (hu 3 ((.one (.sl 0)) :: hh :: hh :: (hu 27 [])))), [], [(9, .str, .own)]⟩, ([2, 3, 4] ++ rg 8 27), [], ([1, 2, 3] ++ rg 7 28), [], []⟩
noncomputable def k7_4 : List PK := ((.str) :: (.int .u8) :: (ki 2 [.row (.str)]))
noncomputable def W7_4 (m : Nat) (k : Kont (List ByteArray)) : Cur k7_4 (Option (List ByteArray)) := S.l03Cut_l0 m (exF k (.exit 0) ⟨(hh :: (hu 4 ((.one (.sl 0)) :: hh :: (hu 28 [])))), [], [(9, .str, .own)]⟩ [.str, .int .i64, .row (.str)])
noncomputable def E7_4 (m : Nat) : List Prm → Kont (List ByteArray) → Option (List ByteArray) := eL k7_4 (W7_4 m)
theorem ev7_4 (m : Nat) (k : Kont (List ByteArray)) (a : Args k7_4) : evL Tryz.prog G7 loopNil c7_4 (turn Tryz.prog (0, 0) H7_4 (E7_4 m) k) (H7_4.sk.fl (encP k7_4 a)) = unc k7_4 (W7_4 (m + 1) k) a := by kernel_rfl
theorem ok7_4 (m : Nat) : LoopOk Tryz.prog (0, 0) c7_4 (enter Tryz.prog (0, 0) H7_4 (E7_4 m)) := loop_gen (Fl := W7_4) (G := G7) (L := loopNil) envNil_good (no_loops (c := c7_4) (by kernel_rfl)) (fun _ _ => by kernel_rfl) ev7_4 m
noncomputable def L7 : LEnv (List ByteArray) := (loopCons 4 (enter Tryz.prog (0, 0) H7_4 (E7_4 fu)) loopNil)
theorem lq7 : loopsOf c7 = [c7_4] := by kernel_rfl
theorem fr7_4 : firstReg c7_4 = some 4 := by kernel_rfl
theorem le7_4 : L7 4 = enter Tryz.prog (0, 0) H7_4 (E7_4 fu) := by kernel_rfl
theorem lm7 : ∀ x ∈ [c7_4], ∀ id, firstReg x = some id → LoopOk Tryz.prog (0, 0) x (L7 id) := (loops_cons fr7_4 le7_4 (ok7_4 fu) loops_nil)
theorem lp7 : ∀ x ∈ loopsOf c7, ∀ id, firstReg x = some id → LoopOk Tryz.prog (0, 0) x (L7 id) := loops_eq lq7 lm7
noncomputable def sg7 : Sg := ⟨⟨[hh, hh], [], []⟩, [.str, .int .u8], ⟨[.one (.sl 0)], [], [(9, .str, .own)]⟩, [.row (.str)]⟩
noncomputable def E7 : Fun2 := eOf sg7 S.l03Cut
theorem ev7 (a : Args sg7.ks) : evS Tryz.prog G7 L7 (0, 0) [] Tryz.f7 c7 (kOf sg7) (sg7.sk.fl (encP sg7.ks a)) = unc sg7.ks S.l03Cut a := by kernel_rfl
theorem good7 : Vm.Good Tryz.prog 7 E7 := good_gen (G := G7) (L := L7) (c := c7) (rn := []) (N := (0, 0)) envNil_good lp7 Tryz.func7 (by kernel_rfl) (by kernel_rfl) (fun _ => by kernel_rfl) ev7
noncomputable def G8 : Env := envNil
noncomputable def c8 : Code := bodyOf Tryz.f8
noncomputable def c8_3 : Code := (loopsOf c8).getD 0 .skip
noncomputable def S.l03Value_l0 : Nat → (ByteArray → Int → Option Int) → ByteArray → Int → Int → Option Int
  | 0, _, _, _, _ => none
  | m + 1, e3_0, a2, a3, a4 =>
    (bif (decide (a4 < (a2.size : Int))) then
    (bif (decide (a4 < 20)) then
    (bif decide ((0 : Int) ≤ a4 ∧ a4 < (a2.size : Int)) then
    (bif (decide (48 ≤ (byteAt a2 a4))) then
    (bif decide ((0 : Int) ≤ a4 ∧ a4 < (a2.size : Int)) then
    (bif (decide ((byteAt a2 a4) ≤ 57)) then
    (bif decide ((0 : Int) ≤ a4 ∧ a4 < (a2.size : Int)) then
    (S.l03Value_l0 m e3_0 a2 (IntKind.wrap .i64 ((IntKind.wrap .i64 (10 * a3)) - (IntKind.wrap .i64 (IntKind.wrap .u8 ((byteAt a2 a4) - 48))))) (IntKind.wrap .i64 (a4 + 1)))
    else
    none)
    else
    (S.l03Value_l0 m e3_0 a2 a3 (IntKind.wrap .i64 (a4 + 1))))
    else
    none)
    else
    (S.l03Value_l0 m e3_0 a2 a3 (IntKind.wrap .i64 (a4 + 1))))
    else
    none)
    else
    (e3_0 a2 a3))
    else
    (e3_0 a2 a3))
noncomputable def S.l03Value (a1 : ByteArray) : Option Int :=
(S.l03Value_l0 fu (fun y17 y18 =>
(bif (decide (0 < (y17.size : Int))) then
(bif decide ((0 : Int) ≤ 0 ∧ 0 < (y17.size : Int)) then
(bif ((byteAt y17 0) == 45) then
(some y18)
else
(some (IntKind.wrap .i64 (0 - y18))))
else
none)
else
(some (IntKind.wrap .i64 (0 - y18))))) a1 0 0)
noncomputable def H8_3 : LoopH := ⟨⟨(hh :: (hu 2 (hh :: hh :: (hu 39 [])))), [], []⟩, ([1, 2] ++ rg 5 39), [], ([1] ++ rg 4 40), [], []⟩
noncomputable def k8_3 : List PK := ((.str) :: (ki 2 []))
noncomputable def W8_3 (m : Nat) (k : Kont Int) : Cur k8_3 (Option Int) := S.l03Value_l0 m (exF k (.exit 0) ⟨(hh :: (hu 2 (hh :: (hu 40 [])))), [], []⟩ [.str, .int .i64])
noncomputable def E8_3 (m : Nat) : List Prm → Kont Int → Option Int := eL k8_3 (W8_3 m)
theorem ev8_3 (m : Nat) (k : Kont Int) (a : Args k8_3) : evL Tryz.prog G8 loopNil c8_3 (turn Tryz.prog (0, 0) H8_3 (E8_3 m) k) (H8_3.sk.fl (encP k8_3 a)) = unc k8_3 (W8_3 (m + 1) k) a := by kernel_rfl
theorem ok8_3 (m : Nat) : LoopOk Tryz.prog (0, 0) c8_3 (enter Tryz.prog (0, 0) H8_3 (E8_3 m)) := loop_gen (Fl := W8_3) (G := G8) (L := loopNil) envNil_good (no_loops (c := c8_3) (by kernel_rfl)) (fun _ _ => by kernel_rfl) ev8_3 m
noncomputable def L8 : LEnv Int := (loopCons 3 (enter Tryz.prog (0, 0) H8_3 (E8_3 fu)) loopNil)
theorem lq8 : loopsOf c8 = [c8_3] := by kernel_rfl
theorem fr8_3 : firstReg c8_3 = some 3 := by kernel_rfl
theorem le8_3 : L8 3 = enter Tryz.prog (0, 0) H8_3 (E8_3 fu) := by kernel_rfl
theorem lm8 : ∀ x ∈ [c8_3], ∀ id, firstReg x = some id → LoopOk Tryz.prog (0, 0) x (L8 id) := (loops_cons fr8_3 le8_3 (ok8_3 fu) loops_nil)
theorem lp8 : ∀ x ∈ loopsOf c8, ∀ id, firstReg x = some id → LoopOk Tryz.prog (0, 0) x (L8 id) := loops_eq lq8 lm8
noncomputable def sg8 : Sg := ⟨⟨[hh], [], []⟩, [.str], ⟨[hh], [], []⟩, [.int .i64]⟩
noncomputable def E8 : Fun2 := eOf sg8 S.l03Value
theorem ev8 (a : Args sg8.ks) : evS Tryz.prog G8 L8 (0, 0) [] Tryz.f8 c8 (kOf sg8) (sg8.sk.fl (encP sg8.ks a)) = unc sg8.ks S.l03Value a := by kernel_rfl
theorem good8 : Vm.Good Tryz.prog 8 E8 := good_gen (G := G8) (L := L8) (c := c8) (rn := []) (N := (0, 0)) envNil_good lp8 Tryz.func8 (by kernel_rfl) (by kernel_rfl) (fun _ => by kernel_rfl) ev8
noncomputable def G9 : Env := envNil
noncomputable def c9 : Code := bodyOf Tryz.f9
noncomputable def S.l14Words  : Option (List ByteArray) :=
(some [lit1, lit2, lit3, lit4, lit5, lit6, lit7, lit8, lit9])
noncomputable def sg9 : Sg := ⟨⟨[], [], []⟩, [], ⟨[.one (.sl 0)], [], [(9, .str, .own)]⟩, [.row (.str)]⟩
noncomputable def E9 : Fun2 := eOf sg9 S.l14Words
theorem ev9 (a : Args sg9.ks) : evS Tryz.prog G9 loopNil (0, 0) [] Tryz.f9 c9 (kOf sg9) (sg9.sk.fl (encP sg9.ks a)) = unc sg9.ks S.l14Words a := by kernel_rfl
theorem good9 : Vm.Good Tryz.prog 9 E9 := good_gen (G := G9) (L := loopNil) (c := c9) (rn := []) (N := (0, 0)) envNil_good (no_loops (c := c9) (by kernel_rfl)) Tryz.func9 (by kernel_rfl) (by kernel_rfl) (fun _ => by kernel_rfl) ev9
noncomputable def G25 : Env := envNil
noncomputable def c25 : Code := bodyOf Tryz.f25
noncomputable def S.l04Src (a1 : Int) : Option Bool :=
(bif (decide (0 ≤ a1)) then
(some (decide (a1 < 4)))
else
(some false))
noncomputable def sg25 : Sg := ⟨⟨[hh], [], []⟩, [.int .i64], ⟨[hh], [], []⟩, [.bool]⟩
noncomputable def E25 : Fun2 := eOf sg25 S.l04Src
theorem ev25 (a : Args sg25.ks) : evS Tryz.prog G25 loopNil (0, 0) [] Tryz.f25 c25 (kOf sg25) (sg25.sk.fl (encP sg25.ks a)) = unc sg25.ks S.l04Src a := by kernel_rfl
theorem good25 : Vm.Good Tryz.prog 25 E25 := good_gen (G := G25) (L := loopNil) (c := c25) (rn := []) (N := (0, 0)) envNil_good (no_loops (c := c25) (by kernel_rfl)) Tryz.func25 (by kernel_rfl) (by kernel_rfl) (fun _ => by kernel_rfl) ev25
noncomputable def G41 : Env := envNil
noncomputable def c41 : Code := bodyOf Tryz.f41
noncomputable def S.l04Key (a1 : Int) : Option Bool :=
(bif (decide (0 ≤ a1)) then
(some (decide (a1 ≤ 15)))
else
(some false))
noncomputable def sg41 : Sg := ⟨⟨[hh], [], []⟩, [.int .i64], ⟨[hh], [], []⟩, [.bool]⟩
noncomputable def E41 : Fun2 := eOf sg41 S.l04Key
theorem ev41 (a : Args sg41.ks) : evS Tryz.prog G41 loopNil (0, 0) [] Tryz.f41 c41 (kOf sg41) (sg41.sk.fl (encP sg41.ks a)) = unc sg41.ks S.l04Key a := by kernel_rfl
theorem good41 : Vm.Good Tryz.prog 41 E41 := good_gen (G := G41) (L := loopNil) (c := c41) (rn := []) (N := (0, 0)) envNil_good (no_loops (c := c41) (by kernel_rfl)) Tryz.func41 (by kernel_rfl) (by kernel_rfl) (fun _ => by kernel_rfl) ev41
noncomputable def G26 : Env := envNil
noncomputable def c26 : Code := bodyOf Tryz.f26
noncomputable def S.l05Time (a1 : Int) : Option Bool :=
(bif (decide (0 ≤ a1)) then
(some (decide (a1 ≤ 1000)))
else
(some false))
noncomputable def sg26 : Sg := ⟨⟨[hh], [], []⟩, [.int .i64], ⟨[hh], [], []⟩, [.bool]⟩
noncomputable def E26 : Fun2 := eOf sg26 S.l05Time
theorem ev26 (a : Args sg26.ks) : evS Tryz.prog G26 loopNil (0, 0) [] Tryz.f26 c26 (kOf sg26) (sg26.sk.fl (encP sg26.ks a)) = unc sg26.ks S.l05Time a := by kernel_rfl
theorem good26 : Vm.Good Tryz.prog 26 E26 := good_gen (G := G26) (L := loopNil) (c := c26) (rn := []) (N := (0, 0)) envNil_good (no_loops (c := c26) (by kernel_rfl)) Tryz.func26 (by kernel_rfl) (by kernel_rfl) (fun _ => by kernel_rfl) ev26
noncomputable def G23 : Env := (envCons 25 [] E25 (envCons 41 [] E41 (envCons 26 [] E26 envNil)))
noncomputable def c23 : Code := bodyOf Tryz.f23
noncomputable def S.ElemOk (a1 a2 a3 a4 : Int) : Option Bool :=
(Option.bind (S.l04Src a1) fun r5 =>
(bif r5 then
(Option.bind (S.l04Key a2) fun r6 =>
(bif r6 then
(Option.bind (S.l05Time a4) fun r7 =>
(some r7))
else
(some false)))
else
(some false)))
noncomputable def sg23 : Sg := ⟨⟨[.agg (ho 4 [])], [], []⟩, (ki 4 []), ⟨[hh], [], []⟩, [.bool]⟩
noncomputable def E23 : Fun2 := eOf sg23 S.ElemOk
theorem ev23 (a : Args sg23.ks) : evS Tryz.prog G23 loopNil (0, 0) [] Tryz.f23 c23 (kOf sg23) (sg23.sk.fl (encP sg23.ks a)) = unc sg23.ks S.ElemOk a := by kernel_rfl
theorem good23 : Vm.Good Tryz.prog 23 E23 := good_gen (G := G23) (L := loopNil) (c := c23) (rn := []) (N := (0, 0)) (envCons_good good25 (envCons_good good41 (envCons_good good26 envNil_good))) (no_loops (c := c23) (by kernel_rfl)) Tryz.func23 (by kernel_rfl) (by kernel_rfl) (fun _ => by kernel_rfl) ev23
noncomputable def G42 : Env := envNil
noncomputable def c42 : Code := bodyOf Tryz.f42
noncomputable def S.l04Bits (a1 : Int) : Option Bool :=
(bif (decide (0 ≤ a1)) then
(some (decide (a1 ≤ 4)))
else
(some false))
noncomputable def sg42 : Sg := ⟨⟨[hh], [], []⟩, [.int .i64], ⟨[hh], [], []⟩, [.bool]⟩
noncomputable def E42 : Fun2 := eOf sg42 S.l04Bits
theorem ev42 (a : Args sg42.ks) : evS Tryz.prog G42 loopNil (0, 0) [] Tryz.f42 c42 (kOf sg42) (sg42.sk.fl (encP sg42.ks a)) = unc sg42.ks S.l04Bits a := by kernel_rfl
theorem good42 : Vm.Good Tryz.prog 42 E42 := good_gen (G := G42) (L := loopNil) (c := c42) (rn := []) (N := (0, 0)) envNil_good (no_loops (c := c42) (by kernel_rfl)) Tryz.func42 (by kernel_rfl) (by kernel_rfl) (fun _ => by kernel_rfl) ev42
noncomputable def G24 : Env := (envCons 25 [] E25 (envCons 42 [] E42 (envCons 41 [] E41 envNil)))
noncomputable def c24 : Code := bodyOf Tryz.f24
noncomputable def S.l11Punct (a1 a2 a3 a4 : Int) : Option Bool :=
(Option.bind (S.l04Src a1) fun r5 =>
(bif r5 then
(Option.bind (S.l04Bits a2) fun r6 =>
(bif r6 then
(Option.bind (S.l04Key a3) fun r7 =>
(bif r7 then
(bif (decide (0 ≤ a4)) then
(some (decide (a4 < 16)))
else
(some false))
else
(some false)))
else
(some false)))
else
(some false)))
noncomputable def sg24 : Sg := ⟨⟨[.agg (ho 4 [])], [], []⟩, (ki 4 []), ⟨[hh], [], []⟩, [.bool]⟩
noncomputable def E24 : Fun2 := eOf sg24 S.l11Punct
theorem ev24 (a : Args sg24.ks) : evS Tryz.prog G24 loopNil (0, 0) [] Tryz.f24 c24 (kOf sg24) (sg24.sk.fl (encP sg24.ks a)) = unc sg24.ks S.l11Punct a := by kernel_rfl
theorem good24 : Vm.Good Tryz.prog 24 E24 := good_gen (G := G24) (L := loopNil) (c := c24) (rn := []) (N := (0, 0)) (envCons_good good25 (envCons_good good42 (envCons_good good41 envNil_good))) (no_loops (c := c24) (by kernel_rfl)) Tryz.func24 (by kernel_rfl) (by kernel_rfl) (fun _ => by kernel_rfl) ev24
noncomputable def G27 : Env := envNil
noncomputable def c27 : Code := bodyOf Tryz.f27
noncomputable def S.l10Count (a1 : Int) : Option Bool :=
(bif (decide (0 ≤ a1)) then
(some (decide (a1 ≤ 1000000)))
else
(some false))
noncomputable def sg27 : Sg := ⟨⟨[hh], [], []⟩, [.int .i64], ⟨[hh], [], []⟩, [.bool]⟩
noncomputable def E27 : Fun2 := eOf sg27 S.l10Count
theorem ev27 (a : Args sg27.ks) : evS Tryz.prog G27 loopNil (0, 0) [] Tryz.f27 c27 (kOf sg27) (sg27.sk.fl (encP sg27.ks a)) = unc sg27.ks S.l10Count a := by kernel_rfl
theorem good27 : Vm.Good Tryz.prog 27 E27 := good_gen (G := G27) (L := loopNil) (c := c27) (rn := []) (N := (0, 0)) envNil_good (no_loops (c := c27) (by kernel_rfl)) Tryz.func27 (by kernel_rfl) (by kernel_rfl) (fun _ => by kernel_rfl) ev27
noncomputable def G14 : Env := (envCons 23 [] E23 (envCons 24 [] E24 (envCons 25 [] E25 (envCons 26 [] E26 (envCons 27 [] E27 envNil)))))
noncomputable def c14 : Code := bodyOf Tryz.f14
noncomputable def S.OpOk (a1 a2 a3 a4 a5 a6 a7 a8 a9 a10 a11 : Int) : Option Bool :=
(let v12 : Bool := ((a2 == 0) && ((a3 == 0) && ((a4 == 0) && ((a5 == 0) && true))))
(let v13 : Bool := ((a6 == 0) && ((a7 == 0) && ((a8 == 0) && ((a9 == 0) && true))))
(bif (a1 == 1) then
(Option.bind (S.ElemOk a2 a3 a4 a5) fun r14 =>
(bif r14 then
(bif v13 then
(bif (a10 == 0) then
(some (a11 == 0))
else
(some false))
else
(some false))
else
(some false)))
else
(bif (a1 == 2) then
(bif v12 then
(Option.bind (S.l11Punct a6 a7 a8 a9) fun r15 =>
(bif r15 then
(bif (a10 == 0) then
(bif (a11 == 0) then
(bif (a1 == 2) then
(some true)
else
(some (a9 == 0)))
else
(some false))
else
(some false))
else
(some false)))
else
(some false))
else
(bif (a1 == 3) then
(bif v12 then
(Option.bind (S.l11Punct a6 a7 a8 a9) fun r16 =>
(bif r16 then
(bif (a10 == 0) then
(bif (a11 == 0) then
(bif (a1 == 2) then
(some true)
else
(some (a9 == 0)))
else
(some false))
else
(some false))
else
(some false)))
else
(some false))
else
(bif (a1 == 4) then
(bif v12 then
(bif v13 then
(Option.bind (S.l04Src a10) fun r17 =>
(bif r17 then
(Option.bind (S.l05Time a11) fun r18 =>
(some r18))
else
(some false)))
else
(some false))
else
(some false))
else
(bif (a1 == 5) then
(bif v12 then
(bif v13 then
(Option.bind (S.l04Src a10) fun r19 =>
(bif r19 then
(some (a11 == 0))
else
(some false)))
else
(some false))
else
(some false))
else
(bif (a1 == 6) then
(bif v12 then
(bif v13 then
(Option.bind (S.l04Src a10) fun r20 =>
(bif r20 then
(some (a11 == 0))
else
(some false)))
else
(some false))
else
(some false))
else
(bif (a1 == 7) then
(bif v12 then
(bif v13 then
(bif (decide (0 ≤ a10)) then
(bif (decide (a10 < 4)) then
(Option.bind (S.l10Count a11) fun r23 =>
(some r23))
else
(some false))
else
(some false))
else
(some false))
else
(some false))
else
(bif (a1 == 8) then
(bif v12 then
(bif v13 then
(bif (decide (0 ≤ a10)) then
(bif (decide (a10 < 4)) then
(Option.bind (S.l10Count a11) fun r26 =>
(some r26))
else
(some false))
else
(some false))
else
(some false))
else
(some false))
else
(bif (a1 == 9) then
(bif v12 then
(bif v13 then
(bif (decide (0 ≤ a10)) then
(bif (decide (a10 < 4)) then
(Option.bind (S.l10Count a11) fun r29 =>
(some r29))
else
(some false))
else
(some false))
else
(some false))
else
(some false))
else
(some false))))))))))))
noncomputable def sg14 : Sg := ⟨⟨[.agg (ho 11 [])], [], []⟩, (ki 11 []), ⟨[hh], [], []⟩, [.bool]⟩
noncomputable def E14 : Fun2 := eOf sg14 S.OpOk
theorem ev14 (a : Args sg14.ks) : evS Tryz.prog G14 loopNil (0, 0) [] Tryz.f14 c14 (kOf sg14) (sg14.sk.fl (encP sg14.ks a)) = unc sg14.ks S.OpOk a := by kernel_rfl
theorem good14 : Vm.Good Tryz.prog 14 E14 := good_gen (G := G14) (L := loopNil) (c := c14) (rn := []) (N := (0, 0)) (envCons_good good23 (envCons_good good24 (envCons_good good25 (envCons_good good26 (envCons_good good27 envNil_good))))) (no_loops (c := c14) (by kernel_rfl)) Tryz.func14 (by kernel_rfl) (by kernel_rfl) (fun _ => by kernel_rfl) ev14
noncomputable def G16 : Env := envNil
noncomputable def c16 : Code := bodyOf Tryz.f16
noncomputable def S.l14Fields (a1 a2 a3 a4 a5 a6 a7 a8 a9 a10 a11 : Int) : Option (List Int) :=
(bif (a1 == 1) then
(some [a2, a3, a4, a5])
else
(bif (a1 == 2) then
(some [a6, a7, a8, a9])
else
(bif (a1 == 3) then
(some [a6, a7, a8])
else
(bif (a1 == 5) then
(some [a10])
else
(bif (a1 == 6) then
(some [a10])
else
(some [a10, a11]))))))
noncomputable def sg16 : Sg := ⟨⟨[.agg (ho 11 [])], [], []⟩, (ki 11 []), ⟨[.one (.sl 0)], [], [(3, (.int .i64), .own)]⟩, [.row (.int .i64)]⟩
noncomputable def E16 : Fun2 := eOf sg16 S.l14Fields
theorem ev16 (a : Args sg16.ks) : evS Tryz.prog G16 loopNil (0, 0) [] Tryz.f16 c16 (kOf sg16) (sg16.sk.fl (encP sg16.ks a)) = unc sg16.ks S.l14Fields a := by kernel_rfl
theorem good16 : Vm.Good Tryz.prog 16 E16 := good_gen (G := G16) (L := loopNil) (c := c16) (rn := []) (N := (0, 0)) envNil_good (no_loops (c := c16) (by kernel_rfl)) Tryz.func16 (by kernel_rfl) (by kernel_rfl) (fun _ => by kernel_rfl) ev16
noncomputable def G44 : Env := envNil
noncomputable def c44 : Code := bodyOf Tryz.f44
noncomputable def S.WideOf (a1 : Int) : Option (Int × Int) :=
(bif (decide (a1 < 0)) then
(some ((-1), (IntKind.wrap .u64 a1)))
else
(some (0, (IntKind.wrap .u64 a1))))
noncomputable def sg44 : Sg := ⟨⟨[hh], [], []⟩, [.int .i64], ⟨[.agg (ho 2 [])], [], []⟩, [.int .i64, .int .u64]⟩
noncomputable def E44 : Fun2 := eOf sg44 S.WideOf
theorem ev44 (a : Args sg44.ks) : evS Tryz.prog G44 loopNil (0, 0) [] Tryz.f44 c44 (kOf sg44) (sg44.sk.fl (encP sg44.ks a)) = unc sg44.ks S.WideOf a := by kernel_rfl
theorem good44 : Vm.Good Tryz.prog 44 E44 := good_gen (G := G44) (L := loopNil) (c := c44) (rn := []) (N := (0, 0)) envNil_good (no_loops (c := c44) (by kernel_rfl)) Tryz.func44 (by kernel_rfl) (by kernel_rfl) (fun _ => by kernel_rfl) ev44
noncomputable def G57 : Env := envNil
noncomputable def c57 : Code := bodyOf Tryz.f57
noncomputable def c57_4 : Code := (loopsOf c57).getD 0 .skip
noncomputable def c57_10 : Code := (loopsOf c57).getD 1 .skip
noncomputable def S.l02Bits_l0 : Nat → (Int → Int → List Int → Option (List Int)) → Int → Int → Int → Int → List Int → Option (List Int)
  | 0, _, _, _, _, _, _ => none
  | m + 1, e4_0, a3, a4, a5, a6, a7 =>
    (bif (decide (a4 < 64)) then
    (bif decide (2 = 0) then
    none
    else
    (let v10 : Int := (IntKind.wrap .i64 (Int.tmod a3 2))
    (bif decide ((a7.length + [v10].length) * 8 ≤ 140737488355328) then
    (bif decide (2 = 0) then
    none
    else
    (S.l02Bits_l0 m e4_0 (IntKind.wrap .u64 (Int.tdiv a3 2)) (IntKind.wrap .i64 (a4 + 1)) a5 a6 (a7 ++ [v10])))
    else
    none)))
    else
    (e4_0 a5 a6 a7))
noncomputable def S.l02Bits_l1 : Nat → (List Int → Option (List Int)) → Int → Int → List Int → Option (List Int)
  | 0, _, _, _, _ => none
  | m + 1, e10_0, a17, a18, a19 =>
    (bif (decide (a18 < 64)) then
    (bif decide (2 = 0) then
    none
    else
    (let v22 : Int := (IntKind.wrap .i64 (Int.tmod a17 2))
    (bif decide ((a19.length + [v22].length) * 8 ≤ 140737488355328) then
    (bif decide (2 = 0) then
    none
    else
    (S.l02Bits_l1 m e10_0 (IntKind.wrap .u64 (Int.tdiv a17 2)) (IntKind.wrap .i64 (a18 + 1)) (a19 ++ [v22])))
    else
    none)))
    else
    (e10_0 a19))
noncomputable def S.l02Bits (a1 a2 : Int) : Option (List Int) :=
(S.l02Bits_l0 fu (fun y13 y14 y15 =>
(S.l02Bits_l1 fu (fun y25 =>
(some y25)) (IntKind.wrap .u64 y13) 0 y15)) a2 0 a1 a2 [])
noncomputable def H57_4 : LoopH := ⟨⟨((.one (.unk)) :: (.one (.ptr 0 0)) :: (.one (.unk)) :: (.one (.sl 0)) :: hh :: hh :: (hu 33 [])), [(65, (ho 2 []))], [(3, (.int .i64), .own)]⟩, ([0, 2] ++ rg 6 33), [], ([0] ++ rg 4 35), [], []⟩
noncomputable def k57_4 : List PK := ((.int .u64) :: (ki 2 [.int .u64, .row (.int .i64)]))
noncomputable def W57_4 (m : Nat) (k : Kont (List Int)) : Cur k57_4 (Option (List Int)) := S.l02Bits_l0 m (exF k (.exit 0) ⟨((.one (.unk)) :: (.one (.ptr 0 0)) :: (.one (.unk)) :: (.one (.sl 0)) :: (hu 35 [])), [(65, (ho 2 []))], [(3, (.int .i64), .own)]⟩ [.int .i64, .int .u64, .row (.int .i64)])
noncomputable def E57_4 (m : Nat) : List Prm → Kont (List Int) → Option (List Int) := eL k57_4 (W57_4 m)
theorem ev57_4 (m : Nat) (k : Kont (List Int)) (a : Args k57_4) : evL Tryz.prog G57 loopNil c57_4 (turn Tryz.prog (0, 0) H57_4 (E57_4 m) k) (H57_4.sk.fl (encP k57_4 a)) = unc k57_4 (W57_4 (m + 1) k) a := by kernel_rfl
theorem ok57_4 (m : Nat) : LoopOk Tryz.prog (0, 0) c57_4 (enter Tryz.prog (0, 0) H57_4 (E57_4 m)) := loop_gen (Fl := W57_4) (G := G57) (L := loopNil) envNil_good (no_loops (c := c57_4) (by kernel_rfl)) (fun _ _ => by kernel_rfl) ev57_4 m
noncomputable def H57_10 : LoopH := ⟨⟨(hu 3 ((.one (.sl 0)) :: (hu 2 (hh :: hh :: (hu 31 []))))), [], [(3, (.int .i64), .own)]⟩, ([0, 1, 2, 4, 5] ++ rg 8 31), [], ([0, 1] ++ rg 4 35), [], []⟩
noncomputable def k57_10 : List PK := [.int .u64, .int .i64, .row (.int .i64)]
noncomputable def W57_10 (m : Nat) (k : Kont (List Int)) : Cur k57_10 (Option (List Int)) := S.l02Bits_l1 m (exF k (.exit 2) ⟨(hu 3 ((.one (.sl 0)) :: (hu 35 []))), [], [(3, (.int .i64), .own)]⟩ [.row (.int .i64)])
noncomputable def E57_10 (m : Nat) : List Prm → Kont (List Int) → Option (List Int) := eL k57_10 (W57_10 m)
theorem ev57_10 (m : Nat) (k : Kont (List Int)) (a : Args k57_10) : evL Tryz.prog G57 loopNil c57_10 (turn Tryz.prog (0, 0) H57_10 (E57_10 m) k) (H57_10.sk.fl (encP k57_10 a)) = unc k57_10 (W57_10 (m + 1) k) a := by kernel_rfl
theorem ok57_10 (m : Nat) : LoopOk Tryz.prog (0, 0) c57_10 (enter Tryz.prog (0, 0) H57_10 (E57_10 m)) := loop_gen (Fl := W57_10) (G := G57) (L := loopNil) envNil_good (no_loops (c := c57_10) (by kernel_rfl)) (fun _ _ => by kernel_rfl) ev57_10 m
noncomputable def L57 : LEnv (List Int) := (loopCons 4 (enter Tryz.prog (0, 0) H57_4 (E57_4 fu)) (loopCons 10 (enter Tryz.prog (0, 0) H57_10 (E57_10 fu)) loopNil))
theorem lq57 : loopsOf c57 = [c57_4, c57_10] := by kernel_rfl
theorem fr57_4 : firstReg c57_4 = some 4 := by kernel_rfl
theorem le57_4 : L57 4 = enter Tryz.prog (0, 0) H57_4 (E57_4 fu) := by kernel_rfl
theorem fr57_10 : firstReg c57_10 = some 10 := by kernel_rfl
theorem le57_10 : L57 10 = enter Tryz.prog (0, 0) H57_10 (E57_10 fu) := by kernel_rfl
theorem lm57 : ∀ x ∈ [c57_4, c57_10], ∀ id, firstReg x = some id → LoopOk Tryz.prog (0, 0) x (L57 id) := (loops_cons fr57_4 le57_4 (ok57_4 fu) (loops_cons fr57_10 le57_10 (ok57_10 fu) loops_nil))
theorem lp57 : ∀ x ∈ loopsOf c57, ∀ id, firstReg x = some id → LoopOk Tryz.prog (0, 0) x (L57 id) := loops_eq lq57 lm57
noncomputable def sg57 : Sg := ⟨⟨[.agg (ho 2 [])], [], []⟩, [.int .i64, .int .u64], ⟨[.one (.sl 0)], [], [(3, (.int .i64), .own)]⟩, [.row (.int .i64)]⟩
noncomputable def E57 : Fun2 := eOf sg57 S.l02Bits
theorem ev57 (a : Args sg57.ks) : evS Tryz.prog G57 L57 (0, 0) [] Tryz.f57 c57 (kOf sg57) (sg57.sk.fl (encP sg57.ks a)) = unc sg57.ks S.l02Bits a := by kernel_rfl
theorem good57 : Vm.Good Tryz.prog 57 E57 := good_gen (G := G57) (L := L57) (c := c57) (rn := []) (N := (0, 0)) envNil_good lp57 Tryz.func57 (by kernel_rfl) (by kernel_rfl) (fun _ => by kernel_rfl) ev57
noncomputable def G73 : Env := envNil
noncomputable def c73 : Code := bodyOf Tryz.f73
noncomputable def S.WideAdd (a1 a2 a3 a4 : Int) : Option (Int × Int) :=
(let v5 : Int := (IntKind.wrap .u64 (a2 + a4))
(let v8 : Int := (IntKind.wrap .u64 ((IntKind.wrap .u64 a1) + (IntKind.wrap .u64 a3)))
(bif (decide (v5 < a2)) then
(some ((IntKind.wrap .i64 (IntKind.wrap .u64 (v8 + 1))), v5))
else
(some ((IntKind.wrap .i64 v8), v5)))))
noncomputable def sg73 : Sg := ⟨⟨[.agg (ho 2 []), .agg (ho 2 [])], [], []⟩, [.int .i64, .int .u64, .int .i64, .int .u64], ⟨[.agg (ho 2 [])], [], []⟩, [.int .i64, .int .u64]⟩
noncomputable def E73 : Fun2 := eOf sg73 S.WideAdd
theorem ev73 (a : Args sg73.ks) : evS Tryz.prog G73 loopNil (0, 0) [] Tryz.f73 c73 (kOf sg73) (sg73.sk.fl (encP sg73.ks a)) = unc sg73.ks S.WideAdd a := by kernel_rfl
theorem good73 : Vm.Good Tryz.prog 73 E73 := good_gen (G := G73) (L := loopNil) (c := c73) (rn := []) (N := (0, 0)) envNil_good (no_loops (c := c73) (by kernel_rfl)) Tryz.func73 (by kernel_rfl) (by kernel_rfl) (fun _ => by kernel_rfl) ev73
noncomputable def G58 : Env := (envCons 73 [] E73 envNil)
noncomputable def c58 : Code := bodyOf Tryz.f58
noncomputable def S.WideNeg (a1 a2 : Int) : Option (Int × Int) :=
(Option.bind (S.WideAdd (IntKind.wrap .i64 ((-1) - a1)) (IntKind.wrap .u64 (18446744073709551615 - a2)) 0 1) fun r5 =>
(some (r5.1, r5.2)))
noncomputable def sg58 : Sg := ⟨⟨[.agg (ho 2 [])], [], []⟩, [.int .i64, .int .u64], ⟨[.agg (ho 2 [])], [], []⟩, [.int .i64, .int .u64]⟩
noncomputable def E58 : Fun2 := eOf sg58 S.WideNeg
theorem ev58 (a : Args sg58.ks) : evS Tryz.prog G58 loopNil (0, 0) [] Tryz.f58 c58 (kOf sg58) (sg58.sk.fl (encP sg58.ks a)) = unc sg58.ks S.WideNeg a := by kernel_rfl
theorem good58 : Vm.Good Tryz.prog 58 E58 := good_gen (G := G58) (L := loopNil) (c := c58) (rn := []) (N := (0, 0)) (envCons_good good73 envNil_good) (no_loops (c := c58) (by kernel_rfl)) Tryz.func58 (by kernel_rfl) (by kernel_rfl) (fun _ => by kernel_rfl) ev58
noncomputable def G59 : Env := envNil
noncomputable def c59 : Code := bodyOf Tryz.f59
noncomputable def c59_4 : Code := (loopsOf c59).getD 0 .skip
noncomputable def S.l02Divide_l0 : Nat → (Int → List Int → Option (Int × List Int)) → Int → Int → Int → List Int → List Int → Option (Int × List Int)
  | 0, _, _, _, _, _, _ => none
  | m + 1, e4_0, a4, a5, a6, a7, a8 =>
    (bif (decide (0 ≤ a6)) then
    (bif decide ((0 : Int) ≤ a6 ∧ a6 < (a7.length : Int)) then
    (let v11 : Int := (IntKind.wrap .i64 ((IntKind.wrap .i64 (2 * a5)) + (nthI a7 a6 (0 : Int))))
    (bif (decide (a4 ≤ v11)) then
    (bif decide ((0 : Int) ≤ a6 ∧ a6 < (a8.length : Int)) then
    (S.l02Divide_l0 m e4_0 a4 (IntKind.wrap .i64 (v11 - a4)) (IntKind.wrap .i64 (a6 - 1)) a7 (a8.set (Int.toNat a6) 1))
    else
    none)
    else
    (S.l02Divide_l0 m e4_0 a4 v11 (IntKind.wrap .i64 (a6 - 1)) a7 a8)))
    else
    none)
    else
    (e4_0 a5 a8))
noncomputable def S.l02Divide (a1 : Int) (a2 : List Int) : Option (Int × List Int) :=
(bif decide ((0 : Int) ≤ 128 ∧ 128 ≤ 128 ∧ (8 : Int) * 128 ≤ 281474976710656 ∧ 128 ≤ 9223372036854775807) then
(S.l02Divide_l0 fu (fun y17 y18 =>
(some (y17, y18))) a1 0 127 a2 (List.replicate (Int.toNat 128) (0 : Int)))
else
none)
noncomputable def H59_4 : LoopH := ⟨⟨((.one (.sl 0)) :: hh :: (hu 4 ((.one (.sl 1)) :: hh :: hh :: (hu 23 [])))), [], [(3, (.int .i64), .ro), (3, (.int .i64), .own)]⟩, (rg 2 4 ++ rg 9 23), [], (rg 0 4 ++ rg 8 24), [], []⟩
noncomputable def k59_4 : List PK := (ki 3 [.row (.int .i64), .row (.int .i64)])
noncomputable def W59_4 (m : Nat) (k : Kont (Int × List Int)) : Cur k59_4 (Option (Int × List Int)) := S.l02Divide_l0 m (exF k (.exit 0) ⟨(hu 6 ((.one (.sl 0)) :: hh :: (hu 24 []))), [], [(3, (.int .i64), .own)]⟩ [.int .i64, .row (.int .i64)])
noncomputable def E59_4 (m : Nat) : List Prm → Kont (Int × List Int) → Option (Int × List Int) := eL k59_4 (W59_4 m)
theorem ev59_4 (m : Nat) (k : Kont (Int × List Int)) (a : Args k59_4) : evL Tryz.prog G59 loopNil c59_4 (turn Tryz.prog (0, 0) H59_4 (E59_4 m) k) (H59_4.sk.fl (encP k59_4 a)) = unc k59_4 (W59_4 (m + 1) k) a := by kernel_rfl
theorem ok59_4 (m : Nat) : LoopOk Tryz.prog (0, 0) c59_4 (enter Tryz.prog (0, 0) H59_4 (E59_4 m)) := loop_gen (Fl := W59_4) (G := G59) (L := loopNil) envNil_good (no_loops (c := c59_4) (by kernel_rfl)) (fun _ _ => by kernel_rfl) ev59_4 m
noncomputable def L59 : LEnv (Int × List Int) := (loopCons 4 (enter Tryz.prog (0, 0) H59_4 (E59_4 fu)) loopNil)
theorem lq59 : loopsOf c59 = [c59_4] := by kernel_rfl
theorem fr59_4 : firstReg c59_4 = some 4 := by kernel_rfl
theorem le59_4 : L59 4 = enter Tryz.prog (0, 0) H59_4 (E59_4 fu) := by kernel_rfl
theorem lm59 : ∀ x ∈ [c59_4], ∀ id, firstReg x = some id → LoopOk Tryz.prog (0, 0) x (L59 id) := (loops_cons fr59_4 le59_4 (ok59_4 fu) loops_nil)
theorem lp59 : ∀ x ∈ loopsOf c59, ∀ id, firstReg x = some id → LoopOk Tryz.prog (0, 0) x (L59 id) := loops_eq lq59 lm59
noncomputable def sg59 : Sg := ⟨⟨[.one (.sl 0), hh], [], [(3, (.int .i64), .ro)]⟩, [.int .i64, .row (.int .i64)], ⟨[.one (.sl 0), hh], [], [(3, (.int .i64), .own)]⟩, [.int .i64, .row (.int .i64)]⟩
noncomputable def E59 : Fun2 := eOf sg59 S.l02Divide
theorem ev59 (a : Args sg59.ks) : evS Tryz.prog G59 L59 (0, 0) [] Tryz.f59 c59 (kOf sg59) (sg59.sk.fl (encP sg59.ks a)) = unc sg59.ks S.l02Divide a := by kernel_rfl
theorem good59 : Vm.Good Tryz.prog 59 E59 := good_gen (G := G59) (L := L59) (c := c59) (rn := []) (N := (0, 0)) envNil_good lp59 Tryz.func59 (by kernel_rfl) (by kernel_rfl) (fun _ => by kernel_rfl) ev59
noncomputable def G43 : Env := (envCons 57 [] E57 (envCons 58 [] E58 (envCons 59 [] E59 envNil)))
noncomputable def c43 : Code := bodyOf Tryz.f43
noncomputable def c43_6 : Code := (loopsOf c43).getD 0 .skip
noncomputable def c43_12 : Code := (loopsOf c43_6).getD 0 .skip
noncomputable def S.WideText_l1 : Nat → (Bool → Int → Int → List Int → List Int → Option ByteArray) → Bool → Int → Int → Int → List Int → List Int → Option ByteArray
  | 0, _, _, _, _, _, _, _ => none
  | m + 1, e12_0, a15, a16, a17, a18, a19, a20 =>
    (bif (decide (a16 < 128)) then
    (bif a15 then
    (S.WideText_l1 m e12_0 true (IntKind.wrap .i64 (a16 + 1)) a17 a18 a19 a20)
    else
    (bif decide ((0 : Int) ≤ a16 ∧ a16 < (a19.length : Int)) then
    (S.WideText_l1 m e12_0 ((nthI a19 a16 (0 : Int)) == 1) (IntKind.wrap .i64 (a16 + 1)) a17 a18 a19 a20)
    else
    none))
    else
    (e12_0 a15 a17 a18 a19 a20))
noncomputable def S.WideText_l0 : Nat → (Int → Int → List Int → Option ByteArray) → Bool → Int → Int → List Int → List Int → Option ByteArray
  | 0, _, _, _, _, _, _ => none
  | m + 1, e6_0, a7, a8, a9, a10, a11 =>
    (bif a7 then
    (Option.bind (S.l02Divide 10 a10) fun r12 =>
    (let v14 : Int := (IntKind.wrap .u8 (IntKind.wrap .i64 (48 + r12.1)))
    (bif decide (([v14].length + a11.length) * 1 ≤ 140737488355328) then
    (S.WideText_l1 fu (fun y25 y26 y27 y28 y29 =>
    (S.WideText_l0 m e6_0 y25 y26 y27 y28 y29)) false 0 a8 a9 r12.2 ([v14] ++ a11))
    else
    none)))
    else
    (e6_0 a8 a9 a11))
noncomputable def S.WideText (a1 a2 : Int) : Option ByteArray :=
(Option.bind (S.l02Bits a1 a2) fun r3 =>
(bif (decide (a1 < 0)) then
(Option.bind (S.WideNeg a1 a2) fun r5 =>
(Option.bind (S.l02Bits r5.1 r5.2) fun r6 =>
(S.WideText_l0 fu (fun y30 y31 y32 =>
(bif (decide (y30 < 0)) then
(bif decide (([45].length + y32.length) * 1 ≤ 140737488355328) then
(some (strOfNums ([45] ++ y32)))
else
none)
else
(some (strOfNums y32)))) true a1 a2 r6 [])))
else
(S.WideText_l0 fu (fun y36 y37 y38 =>
(bif (decide (y36 < 0)) then
(bif decide (([45].length + y38.length) * 1 ≤ 140737488355328) then
(some (strOfNums ([45] ++ y38)))
else
none)
else
(some (strOfNums y38)))) true a1 a2 r3 [])))
noncomputable def H43_12 : LoopH := ⟨⟨((.one (.unk)) :: (.one (.ptr 0 0)) :: (.one (.unk)) :: (.one (.sl 0)) :: (.one (.sl 1)) :: hh :: (hu 2 (hh :: (hu 42 [])))), [(65, (ho 2 []))], [(3, (.int .i64), .own), (5, (.int .u8), .own)]⟩, ([0, 2, 6, 7] ++ rg 9 42), [], ([0] ++ rg 6 45), [], []⟩
noncomputable def k43_12 : List PK := ((.bool) :: (ki 2 [.int .u64, .row (.int .i64), .row (.int .u8)]))
noncomputable def W43_12 (m : Nat) (k : Kont ByteArray) : Cur k43_12 (Option ByteArray) := S.WideText_l1 m (exF k (.exit 2) ⟨((.one (.unk)) :: (.one (.ptr 0 0)) :: (.one (.unk)) :: (.one (.sl 0)) :: (.one (.sl 1)) :: hh :: (hu 45 [])), [(65, (ho 2 []))], [(3, (.int .i64), .own), (5, (.int .u8), .own)]⟩ [.bool, .int .i64, .int .u64, .row (.int .i64), .row (.int .u8)])
noncomputable def E43_12 (m : Nat) : List Prm → Kont ByteArray → Option ByteArray := eL k43_12 (W43_12 m)
theorem ev43_12 (m : Nat) (k : Kont ByteArray) (a : Args k43_12) : evL Tryz.prog G43 loopNil c43_12 (turn Tryz.prog (0, 0) H43_12 (E43_12 m) k) (H43_12.sk.fl (encP k43_12 a)) = unc k43_12 (W43_12 (m + 1) k) a := by kernel_rfl
theorem ok43_12 (m : Nat) : LoopOk Tryz.prog (0, 0) c43_12 (enter Tryz.prog (0, 0) H43_12 (E43_12 m)) := loop_gen (Fl := W43_12) (G := G43) (L := loopNil) (envCons_good good57 (envCons_good good58 (envCons_good good59 envNil_good))) (no_loops (c := c43_12) (by kernel_rfl)) (fun _ _ => by kernel_rfl) ev43_12 m
noncomputable def L43_6 : LEnv ByteArray := (loopCons 12 (enter Tryz.prog (0, 0) H43_12 (E43_12 fu)) loopNil)
theorem lq43_6 : loopsOf c43_6 = [c43_12] := by kernel_rfl
theorem fr43_12 : firstReg c43_12 = some 12 := by kernel_rfl
theorem le43_12 : L43_6 12 = enter Tryz.prog (0, 0) H43_12 (E43_12 fu) := by kernel_rfl
theorem lm43_6 : ∀ x ∈ [c43_12], ∀ id, firstReg x = some id → LoopOk Tryz.prog (0, 0) x (L43_6 id) := (loops_cons fr43_12 le43_12 (ok43_12 fu) loops_nil)
theorem lp43_6 : ∀ x ∈ loopsOf c43_6, ∀ id, firstReg x = some id → LoopOk Tryz.prog (0, 0) x (L43_6 id) := loops_eq lq43_6 lm43_6
noncomputable def H43_6 : LoopH := ⟨⟨((.one (.unk)) :: (.one (.ptr 0 0)) :: (.one (.unk)) :: (.one (.sl 0)) :: (.one (.sl 1)) :: hh :: (hu 45 [])), [(65, (ho 2 []))], [(3, (.int .i64), .own), (5, (.int .u8), .own)]⟩, ([0, 2] ++ rg 6 45), [], ([0, 3] ++ rg 5 46), [], []⟩
noncomputable def k43_6 : List PK := [.bool, .int .i64, .int .u64, .row (.int .i64), .row (.int .u8)]
noncomputable def W43_6 (m : Nat) (k : Kont ByteArray) : Cur k43_6 (Option ByteArray) := S.WideText_l0 m (exF k (.exit 0) ⟨((.one (.unk)) :: (.one (.ptr 0 0)) :: (hu 2 ((.one (.sl 0)) :: (hu 46 [])))), [(65, (ho 2 []))], [(5, (.int .u8), .own)]⟩ [.int .i64, .int .u64, .row (.int .u8)])
noncomputable def E43_6 (m : Nat) : List Prm → Kont ByteArray → Option ByteArray := eL k43_6 (W43_6 m)
theorem ev43_6 (m : Nat) (k : Kont ByteArray) (a : Args k43_6) : evL Tryz.prog G43 L43_6 c43_6 (turn Tryz.prog (0, 0) H43_6 (E43_6 m) k) (H43_6.sk.fl (encP k43_6 a)) = unc k43_6 (W43_6 (m + 1) k) a := by kernel_rfl
theorem ok43_6 (m : Nat) : LoopOk Tryz.prog (0, 0) c43_6 (enter Tryz.prog (0, 0) H43_6 (E43_6 m)) := loop_gen (Fl := W43_6) (G := G43) (L := L43_6) (envCons_good good57 (envCons_good good58 (envCons_good good59 envNil_good))) lp43_6 (fun _ _ => by kernel_rfl) ev43_6 m
noncomputable def L43 : LEnv ByteArray := (loopCons 6 (enter Tryz.prog (0, 0) H43_6 (E43_6 fu)) loopNil)
theorem lq43 : loopsOf c43 = [c43_6] := by kernel_rfl
theorem fr43_6 : firstReg c43_6 = some 6 := by kernel_rfl
theorem le43_6 : L43 6 = enter Tryz.prog (0, 0) H43_6 (E43_6 fu) := by kernel_rfl
theorem lm43 : ∀ x ∈ [c43_6], ∀ id, firstReg x = some id → LoopOk Tryz.prog (0, 0) x (L43 id) := (loops_cons fr43_6 le43_6 (ok43_6 fu) loops_nil)
theorem lp43 : ∀ x ∈ loopsOf c43, ∀ id, firstReg x = some id → LoopOk Tryz.prog (0, 0) x (L43 id) := loops_eq lq43 lm43
noncomputable def sg43 : Sg := ⟨⟨[.agg (ho 2 [])], [], []⟩, [.int .i64, .int .u64], ⟨[hh], [], []⟩, [.str]⟩
noncomputable def E43 : Fun2 := eOf sg43 S.WideText
theorem ev43 (a : Args sg43.ks) : evS Tryz.prog G43 L43 (0, 0) [] Tryz.f43 c43 (kOf sg43) (sg43.sk.fl (encP sg43.ks a)) = unc sg43.ks S.WideText a := by kernel_rfl
theorem good43 : Vm.Good Tryz.prog 43 E43 := good_gen (G := G43) (L := L43) (c := c43) (rn := []) (N := (0, 0)) (envCons_good good57 (envCons_good good58 (envCons_good good59 envNil_good))) lp43 Tryz.func43 (by kernel_rfl) (by kernel_rfl) (fun _ => by kernel_rfl) ev43
noncomputable def G28 : Env := (envCons 44 [] E44 (envCons 43 [] E43 envNil))
noncomputable def c28 : Code := bodyOf Tryz.f28
noncomputable def S.l03Num (a1 : Int) : Option ByteArray :=
(Option.bind (S.WideOf a1) fun r2 =>
(Option.bind (S.WideText r2.1 r2.2) fun r3 =>
(some r3)))
noncomputable def sg28 : Sg := ⟨⟨[hh], [], []⟩, [.int .i64], ⟨[hh], [], []⟩, [.str]⟩
noncomputable def E28 : Fun2 := eOf sg28 S.l03Num
theorem ev28 (a : Args sg28.ks) : evS Tryz.prog G28 loopNil (0, 0) [] Tryz.f28 c28 (kOf sg28) (sg28.sk.fl (encP sg28.ks a)) = unc sg28.ks S.l03Num a := by kernel_rfl
theorem good28 : Vm.Good Tryz.prog 28 E28 := good_gen (G := G28) (L := loopNil) (c := c28) (rn := []) (N := (0, 0)) (envCons_good good44 (envCons_good good43 envNil_good)) (no_loops (c := c28) (by kernel_rfl)) Tryz.func28 (by kernel_rfl) (by kernel_rfl) (fun _ => by kernel_rfl) ev28
noncomputable def G15 : Env := (envCons 28 [] E28 envNil)
noncomputable def c15 : Code := bodyOf Tryz.f15
noncomputable def c15_3 : Code := (loopsOf c15).getD 0 .skip
noncomputable def S.l14Join_l0 : Nat → (ByteArray → Option ByteArray) → ByteArray → ByteArray → Int → List Int → Option ByteArray
  | 0, _, _, _, _, _ => none
  | m + 1, e3_0, a3, a4, a5, a6 =>
    (bif (decide (a5 < (a6.length : Int))) then
    (bif (decide (0 < a5)) then
    (bif decide (((a4.size + a3.size : Nat) : Int) ≤ IntKind.max .i64) then
    (bif decide ((0 : Int) ≤ a5 ∧ a5 < (a6.length : Int)) then
    (Option.bind (S.l03Num (nthI a6 a5 (0 : Int))) fun r10 =>
    (bif decide ((((a4 ++ a3).size + r10.size : Nat) : Int) ≤ IntKind.max .i64) then
    (S.l14Join_l0 m e3_0 a3 ((a4 ++ a3) ++ r10) (IntKind.wrap .i64 (a5 + 1)) a6)
    else
    none))
    else
    none)
    else
    none)
    else
    (bif decide ((0 : Int) ≤ a5 ∧ a5 < (a6.length : Int)) then
    (Option.bind (S.l03Num (nthI a6 a5 (0 : Int))) fun r13 =>
    (bif decide (((a4.size + r13.size : Nat) : Int) ≤ IntKind.max .i64) then
    (S.l14Join_l0 m e3_0 a3 (a4 ++ r13) (IntKind.wrap .i64 (a5 + 1)) a6)
    else
    none))
    else
    none))
    else
    (e3_0 a4))
noncomputable def S.l14Join (a1 : ByteArray) (a2 : List Int) : Option ByteArray :=
(S.l14Join_l0 fu (fun y15 =>
(some y15)) a1 lit0 0 a2)
noncomputable def H15_3 : LoopH := ⟨⟨((.one (.sl 0)) :: hh :: (hu 3 (hh :: hh :: (hu 19 [])))), [], [(3, (.int .i64), .ro)]⟩, ([2, 3, 4] ++ rg 7 19), [], (rg 0 4 ++ rg 6 20), [], []⟩
noncomputable def k15_3 : List PK := [.str, .str, .int .i64, .row (.int .i64)]
noncomputable def W15_3 (m : Nat) (k : Kont ByteArray) : Cur k15_3 (Option ByteArray) := S.l14Join_l0 m (exF k (.exit 0) ⟨(hu 5 (hh :: (hu 20 []))), [], []⟩ [.str])
noncomputable def E15_3 (m : Nat) : List Prm → Kont ByteArray → Option ByteArray := eL k15_3 (W15_3 m)
theorem ev15_3 (m : Nat) (k : Kont ByteArray) (a : Args k15_3) : evL Tryz.prog G15 loopNil c15_3 (turn Tryz.prog (0, 0) H15_3 (E15_3 m) k) (H15_3.sk.fl (encP k15_3 a)) = unc k15_3 (W15_3 (m + 1) k) a := by kernel_rfl
theorem ok15_3 (m : Nat) : LoopOk Tryz.prog (0, 0) c15_3 (enter Tryz.prog (0, 0) H15_3 (E15_3 m)) := loop_gen (Fl := W15_3) (G := G15) (L := loopNil) (envCons_good good28 envNil_good) (no_loops (c := c15_3) (by kernel_rfl)) (fun _ _ => by kernel_rfl) ev15_3 m
noncomputable def L15 : LEnv ByteArray := (loopCons 3 (enter Tryz.prog (0, 0) H15_3 (E15_3 fu)) loopNil)
theorem lq15 : loopsOf c15 = [c15_3] := by kernel_rfl
theorem fr15_3 : firstReg c15_3 = some 3 := by kernel_rfl
theorem le15_3 : L15 3 = enter Tryz.prog (0, 0) H15_3 (E15_3 fu) := by kernel_rfl
theorem lm15 : ∀ x ∈ [c15_3], ∀ id, firstReg x = some id → LoopOk Tryz.prog (0, 0) x (L15 id) := (loops_cons fr15_3 le15_3 (ok15_3 fu) loops_nil)
theorem lp15 : ∀ x ∈ loopsOf c15, ∀ id, firstReg x = some id → LoopOk Tryz.prog (0, 0) x (L15 id) := loops_eq lq15 lm15
noncomputable def sg15 : Sg := ⟨⟨[.one (.sl 0), hh], [], [(3, (.int .i64), .ro)]⟩, [.str, .row (.int .i64)], ⟨[hh], [], []⟩, [.str]⟩
noncomputable def E15 : Fun2 := eOf sg15 S.l14Join
theorem ev15 (a : Args sg15.ks) : evS Tryz.prog G15 L15 (0, 0) [] Tryz.f15 c15 (kOf sg15) (sg15.sk.fl (encP sg15.ks a)) = unc sg15.ks S.l14Join a := by kernel_rfl
theorem good15 : Vm.Good Tryz.prog 15 E15 := good_gen (G := G15) (L := L15) (c := c15) (rn := []) (N := (0, 0)) (envCons_good good28 envNil_good) lp15 Tryz.func15 (by kernel_rfl) (by kernel_rfl) (fun _ => by kernel_rfl) ev15
noncomputable def G10 : Env := (envCons 14 [] E14 (envCons 9 [] E9 (envCons 16 [] E16 (envCons 15 [] E15 envNil))))
noncomputable def c10 : Code := bodyOf Tryz.f10
noncomputable def S.OpText (a1 a2 a3 a4 a5 a6 a7 a8 a9 a10 a11 : Int) : Option ByteArray :=
(Option.bind (S.OpOk a1 a2 a3 a4 a5 a6 a7 a8 a9 a10 a11) fun r12 =>
(bif (!r12) then
(some lit0)
else
(let v13 : Int := (IntKind.wrap .i64 (a1 - 1))
(Option.bind (S.l14Words) fun r14 =>
(bif decide ((0 : Int) ≤ v13 ∧ v13 < (r14.length : Int)) then
(bif decide ((((nthI r14 v13 ByteArray.empty).size + lit10.size : Nat) : Int) ≤ IntKind.max .i64) then
(let v15 : ByteArray := ((nthI r14 v13 ByteArray.empty) ++ lit10)
(Option.bind (S.l14Fields a1 a2 a3 a4 a5 a6 a7 a8 a9 a10 a11) fun r16 =>
(Option.bind (S.l14Join lit10 r16) fun r17 =>
(bif decide (((v15.size + r17.size : Nat) : Int) ≤ IntKind.max .i64) then
(some (v15 ++ r17))
else
none))))
else
none)
else
none)))))
noncomputable def sg10 : Sg := ⟨⟨[.agg (ho 11 [])], [], []⟩, (ki 11 []), ⟨[hh], [], []⟩, [.str]⟩
noncomputable def E10 : Fun2 := eOf sg10 S.OpText
theorem ev10 (a : Args sg10.ks) : evS Tryz.prog G10 loopNil (0, 0) [] Tryz.f10 c10 (kOf sg10) (sg10.sk.fl (encP sg10.ks a)) = unc sg10.ks S.OpText a := by kernel_rfl
theorem good10 : Vm.Good Tryz.prog 10 E10 := good_gen (G := G10) (L := loopNil) (c := c10) (rn := []) (N := (0, 0)) (envCons_good good14 (envCons_good good9 (envCons_good good16 (envCons_good good15 envNil_good)))) (no_loops (c := c10) (by kernel_rfl)) Tryz.func10 (by kernel_rfl) (by kernel_rfl) (fun _ => by kernel_rfl) ev10
noncomputable def G4 : Env := (envCons 7 [] E7 (envCons 8 [] E8 (envCons 9 [] E9 (envCons 10 [] E10 envNil))))
noncomputable def c4 : Code := bodyOf Tryz.f4
noncomputable def c4_6 : Code := (loopsOf c4).getD 0 .skip
noncomputable def c4_9 : Code := (loopsOf c4).getD 1 .skip
noncomputable def c4_13 : Code := (loopsOf c4).getD 2 .skip
noncomputable def S.OpTextRead_l0 : Nat → (ByteArray → Int → Int → Int → Int → Int → Int → Int → Int → Int → Int → Int → List ByteArray → List Int → Option (Int × Int × Int × Int × Int × Int × Int × Int × Int × Int × Int × Bool)) → ByteArray → Int → Int → Int → Int → Int → Int → Int → Int → Int → Int → Int → Int → List ByteArray → List Int → Option (Int × Int × Int × Int × Int × Int × Int × Int × Int × Int × Int × Bool)
  | 0, _, _, _, _, _, _, _, _, _, _, _, _, _, _, _, _ => none
  | m + 1, e6_0, a5, a6, a7, a8, a9, a10, a11, a12, a13, a14, a15, a16, a17, a18, a19 =>
    (bif (decide (a6 < (a18.length : Int))) then
    (bif decide ((0 : Int) ≤ a6 ∧ a6 < (a18.length : Int)) then
    (Option.bind (S.l03Value (nthI a18 a6 ByteArray.empty)) fun r22 =>
    (bif decide ((a19.length + [r22].length) * 8 ≤ 140737488355328) then
    (S.OpTextRead_l0 m e6_0 a5 (IntKind.wrap .i64 (a6 + 1)) a7 a8 a9 a10 a11 a12 a13 a14 a15 a16 a17 a18 (a19 ++ [r22]))
    else
    none))
    else
    none)
    else
    (e6_0 a5 a7 a8 a9 a10 a11 a12 a13 a14 a15 a16 a17 a18 a19))
noncomputable def S.OpTextRead_l1 : Nat → (ByteArray → Int → Int → Int → Int → Int → Int → Int → Int → Int → Int → Int → List ByteArray → List Int → Option (Int × Int × Int × Int × Int × Int × Int × Int × Int × Int × Int × Bool)) → ByteArray → Int → Int → Int → Int → Int → Int → Int → Int → Int → Int → Int → List ByteArray → List Int → Option (Int × Int × Int × Int × Int × Int × Int × Int × Int × Int × Int × Bool)
  | 0, _, _, _, _, _, _, _, _, _, _, _, _, _, _, _ => none
  | m + 1, e9_0, a38, a39, a40, a41, a42, a43, a44, a45, a46, a47, a48, a49, a50, a51 =>
    (bif (decide ((a51.length : Int) < 4)) then
    (bif decide ((a51.length + [0].length) * 8 ≤ 140737488355328) then
    (S.OpTextRead_l1 m e9_0 a38 a39 a40 a41 a42 a43 a44 a45 a46 a47 a48 a49 a50 (a51 ++ [0]))
    else
    none)
    else
    (e9_0 a38 a39 a40 a41 a42 a43 a44 a45 a46 a47 a48 a49 a50 a51))
noncomputable def S.OpTextRead_l2 : Nat → (ByteArray → Int → Int → Int → Int → Int → Int → Int → Int → Int → Int → Int → Int → Int → Int → Int → Int → Int → Int → Int → Int → Int → Int → List Int → Option (Int × Int × Int × Int × Int × Int × Int × Int × Int × Int × Int × Bool)) → ByteArray → Int → Int → Int → Int → Int → Int → Int → Int → Int → Int → Int → Int → Int → Int → Int → Int → Int → Int → Int → Int → Int → Int → Int → List ByteArray → List Int → Option (Int × Int × Int × Int × Int × Int × Int × Int × Int × Int × Int × Bool)
  | 0, _, _, _, _, _, _, _, _, _, _, _, _, _, _, _, _, _, _, _, _, _, _, _, _, _, _, _ => none
  | m + 1, e13_0, a68, a69, a70, a71, a72, a73, a74, a75, a76, a77, a78, a79, a80, a81, a82, a83, a84, a85, a86, a87, a88, a89, a90, a91, a92, a93 =>
    (bif (decide (a69 < 9)) then
    (bif decide ((0 : Int) ≤ 0 ∧ 0 < (a92.length : Int)) then
    (Option.bind (S.l14Words) fun r95 =>
    (bif decide ((0 : Int) ≤ a69 ∧ a69 < (r95.length : Int)) then
    (let v96 : Bool := ((nthI a92 0 ByteArray.empty).toList == (nthI r95 a69 ByteArray.empty).toList)
    (bif v96 then
    (S.OpTextRead_l2 m e13_0 a68 (IntKind.wrap .i64 (a69 + 1)) a70 a71 a72 a73 a74 a75 a76 a77 a78 a79 a80 (IntKind.wrap .i64 (a69 + 1)) a82 a83 a84 a85 a86 a87 a88 a89 a90 a91 a92 a93)
    else
    (S.OpTextRead_l2 m e13_0 a68 (IntKind.wrap .i64 (a69 + 1)) a70 a71 a72 a73 a74 a75 a76 a77 a78 a79 a80 a81 a82 a83 a84 a85 a86 a87 a88 a89 a90 a91 a92 a93)))
    else
    none))
    else
    none)
    else
    (e13_0 a68 a70 a71 a72 a73 a74 a75 a76 a77 a78 a79 a80 a81 a82 a83 a84 a85 a86 a87 a88 a89 a90 a91 a93))
noncomputable def S.OpTextRead (a1 : ByteArray) : Option (Int × Int × Int × Int × Int × Int × Int × Int × Int × Int × Int × Bool) :=
(bif (decide (100 < (a1.size : Int))) then
(some (0, 0, 0, 0, 0, 0, 0, 0, 0, 0, 0, false))
else
(Option.bind (S.l03Cut a1 32) fun r4 =>
(S.OpTextRead_l0 fu (fun y24 y25 y26 y27 y28 y29 y30 y31 y32 y33 y34 y35 y36 y37 =>
(S.OpTextRead_l1 fu (fun y54 y55 y56 y57 y58 y59 y60 y61 y62 y63 y64 y65 y66 y67 =>
(S.OpTextRead_l2 fu (fun y100 y101 y102 y103 y104 y105 y106 y107 y108 y109 y110 y111 y112 y113 y114 y115 y116 y117 y118 y119 y120 y121 y122 y123 =>
(bif (y112 == 1) then
(bif decide ((0 : Int) ≤ 0 ∧ 0 < (y123.length : Int)) then
(bif decide ((0 : Int) ≤ 1 ∧ 1 < (y123.length : Int)) then
(bif decide ((0 : Int) ≤ 2 ∧ 2 < (y123.length : Int)) then
(bif decide ((0 : Int) ≤ 3 ∧ 3 < (y123.length : Int)) then
(Option.bind (S.OpText y112 (nthI y123 0 (0 : Int)) (nthI y123 1 (0 : Int)) (nthI y123 2 (0 : Int)) (nthI y123 3 (0 : Int)) y117 y118 y119 y120 y121 y122) fun r124 =>
(bif (r124.toList == lit0.toList) then
(some (0, 0, 0, 0, 0, 0, 0, 0, 0, 0, 0, false))
else
(bif (!(r124.toList == y100.toList)) then
(some (0, 0, 0, 0, 0, 0, 0, 0, 0, 0, 0, false))
else
(some (y112, (nthI y123 0 (0 : Int)), (nthI y123 1 (0 : Int)), (nthI y123 2 (0 : Int)), (nthI y123 3 (0 : Int)), y117, y118, y119, y120, y121, y122, true)))))
else
none)
else
none)
else
none)
else
none)
else
(bif (y112 == 2) then
(bif decide ((0 : Int) ≤ 0 ∧ 0 < (y123.length : Int)) then
(bif decide ((0 : Int) ≤ 1 ∧ 1 < (y123.length : Int)) then
(bif decide ((0 : Int) ≤ 2 ∧ 2 < (y123.length : Int)) then
(bif decide ((0 : Int) ≤ 3 ∧ 3 < (y123.length : Int)) then
(Option.bind (S.OpText y112 y113 y114 y115 y116 (nthI y123 0 (0 : Int)) (nthI y123 1 (0 : Int)) (nthI y123 2 (0 : Int)) (nthI y123 3 (0 : Int)) y121 y122) fun r127 =>
(bif (r127.toList == lit0.toList) then
(some (0, 0, 0, 0, 0, 0, 0, 0, 0, 0, 0, false))
else
(bif (!(r127.toList == y100.toList)) then
(some (0, 0, 0, 0, 0, 0, 0, 0, 0, 0, 0, false))
else
(some (y112, y113, y114, y115, y116, (nthI y123 0 (0 : Int)), (nthI y123 1 (0 : Int)), (nthI y123 2 (0 : Int)), (nthI y123 3 (0 : Int)), y121, y122, true)))))
else
none)
else
none)
else
none)
else
none)
else
(bif (y112 == 3) then
(bif decide ((0 : Int) ≤ 0 ∧ 0 < (y123.length : Int)) then
(bif decide ((0 : Int) ≤ 1 ∧ 1 < (y123.length : Int)) then
(bif decide ((0 : Int) ≤ 2 ∧ 2 < (y123.length : Int)) then
(bif decide ((0 : Int) ≤ 3 ∧ 3 < (y123.length : Int)) then
(Option.bind (S.OpText y112 y113 y114 y115 y116 (nthI y123 0 (0 : Int)) (nthI y123 1 (0 : Int)) (nthI y123 2 (0 : Int)) (nthI y123 3 (0 : Int)) y121 y122) fun r130 =>
(bif (r130.toList == lit0.toList) then
(some (0, 0, 0, 0, 0, 0, 0, 0, 0, 0, 0, false))
else
(bif (!(r130.toList == y100.toList)) then
(some (0, 0, 0, 0, 0, 0, 0, 0, 0, 0, 0, false))
else
(some (y112, y113, y114, y115, y116, (nthI y123 0 (0 : Int)), (nthI y123 1 (0 : Int)), (nthI y123 2 (0 : Int)), (nthI y123 3 (0 : Int)), y121, y122, true)))))
else
none)
else
none)
else
none)
else
none)
else
(bif (y112 == 5) then
(bif decide ((0 : Int) ≤ 0 ∧ 0 < (y123.length : Int)) then
(Option.bind (S.OpText y112 y113 y114 y115 y116 y117 y118 y119 y120 (nthI y123 0 (0 : Int)) y122) fun r133 =>
(bif (r133.toList == lit0.toList) then
(some (0, 0, 0, 0, 0, 0, 0, 0, 0, 0, 0, false))
else
(bif (!(r133.toList == y100.toList)) then
(some (0, 0, 0, 0, 0, 0, 0, 0, 0, 0, 0, false))
else
(some (y112, y113, y114, y115, y116, y117, y118, y119, y120, (nthI y123 0 (0 : Int)), y122, true)))))
else
none)
else
(bif (y112 == 6) then
(bif decide ((0 : Int) ≤ 0 ∧ 0 < (y123.length : Int)) then
(Option.bind (S.OpText y112 y113 y114 y115 y116 y117 y118 y119 y120 (nthI y123 0 (0 : Int)) y122) fun r136 =>
(bif (r136.toList == lit0.toList) then
(some (0, 0, 0, 0, 0, 0, 0, 0, 0, 0, 0, false))
else
(bif (!(r136.toList == y100.toList)) then
(some (0, 0, 0, 0, 0, 0, 0, 0, 0, 0, 0, false))
else
(some (y112, y113, y114, y115, y116, y117, y118, y119, y120, (nthI y123 0 (0 : Int)), y122, true)))))
else
none)
else
(bif decide ((0 : Int) ≤ 0 ∧ 0 < (y123.length : Int)) then
(bif decide ((0 : Int) ≤ 1 ∧ 1 < (y123.length : Int)) then
(Option.bind (S.OpText y112 y113 y114 y115 y116 y117 y118 y119 y120 (nthI y123 0 (0 : Int)) (nthI y123 1 (0 : Int))) fun r139 =>
(bif (r139.toList == lit0.toList) then
(some (0, 0, 0, 0, 0, 0, 0, 0, 0, 0, 0, false))
else
(bif (!(r139.toList == y100.toList)) then
(some (0, 0, 0, 0, 0, 0, 0, 0, 0, 0, 0, false))
else
(some (y112, y113, y114, y115, y116, y117, y118, y119, y120, (nthI y123 0 (0 : Int)), (nthI y123 1 (0 : Int)), true)))))
else
none)
else
none))))))) y54 0 y55 y56 y57 y58 y59 y60 y61 y62 y63 y64 y65 0 0 0 0 0 0 0 0 0 0 0 y66 y67)) y24 y25 y26 y27 y28 y29 y30 y31 y32 y33 y34 y35 y36 y37)) a1 1 0 0 0 0 0 0 0 0 0 0 0 r4 [])))
noncomputable def H4_6 : LoopH := ⟨⟨(hh :: (.one (.unk)) :: (.one (.ptr 0 0)) :: (.one (.unk)) :: (.one (.sl 0)) :: (.one (.sl 1)) :: hh :: (hu 107 [])), [(27, (ho 11 []))], [(9, .str, .own), (3, (.int .i64), .own)]⟩, ([1, 3] ++ rg 7 107), [], ([1] ++ rg 6 108), [], []⟩
noncomputable def k4_6 : List PK := ((.str) :: (ki 12 [.row (.str), .row (.int .i64)]))
noncomputable def W4_6 (m : Nat) (k : Kont (Int × Int × Int × Int × Int × Int × Int × Int × Int × Int × Int × Bool)) : Cur k4_6 (Option (Int × Int × Int × Int × Int × Int × Int × Int × Int × Int × Int × Bool)) := S.OpTextRead_l0 m (exF k (.exit 0) ⟨(hh :: (.one (.unk)) :: (.one (.ptr 0 0)) :: (.one (.unk)) :: (.one (.sl 0)) :: (.one (.sl 1)) :: (hu 108 [])), [(27, (ho 11 []))], [(9, .str, .own), (3, (.int .i64), .own)]⟩ ((.str) :: (ki 11 [.row (.str), .row (.int .i64)])))
noncomputable def E4_6 (m : Nat) : List Prm → Kont (Int × Int × Int × Int × Int × Int × Int × Int × Int × Int × Int × Bool) → Option (Int × Int × Int × Int × Int × Int × Int × Int × Int × Int × Int × Bool) := eL k4_6 (W4_6 m)
theorem ev4_6 (m : Nat) (k : Kont (Int × Int × Int × Int × Int × Int × Int × Int × Int × Int × Int × Bool)) (a : Args k4_6) : evL Tryz.prog G4 loopNil c4_6 (turn Tryz.prog (0, 0) H4_6 (E4_6 m) k) (H4_6.sk.fl (encP k4_6 a)) = unc k4_6 (W4_6 (m + 1) k) a := by kernel_rfl
theorem ok4_6 (m : Nat) : LoopOk Tryz.prog (0, 0) c4_6 (enter Tryz.prog (0, 0) H4_6 (E4_6 m)) := loop_gen (Fl := W4_6) (G := G4) (L := loopNil) (envCons_good good7 (envCons_good good8 (envCons_good good9 (envCons_good good10 envNil_good)))) (no_loops (c := c4_6) (by kernel_rfl)) (fun _ _ => by kernel_rfl) ev4_6 m
noncomputable def H4_9 : LoopH := ⟨⟨(hh :: (.one (.unk)) :: (.one (.ptr 0 0)) :: (.one (.unk)) :: (.one (.sl 0)) :: (.one (.sl 1)) :: (hu 108 [])), [(27, (ho 11 []))], [(9, .str, .own), (3, (.int .i64), .own)]⟩, ([1, 3] ++ rg 6 108), [], ([1] ++ rg 6 108), [], []⟩
noncomputable def k4_9 : List PK := ((.str) :: (ki 11 [.row (.str), .row (.int .i64)]))
noncomputable def W4_9 (m : Nat) (k : Kont (Int × Int × Int × Int × Int × Int × Int × Int × Int × Int × Int × Bool)) : Cur k4_9 (Option (Int × Int × Int × Int × Int × Int × Int × Int × Int × Int × Int × Bool)) := S.OpTextRead_l1 m (exF k (.exit 2) ⟨(hh :: (.one (.unk)) :: (.one (.ptr 0 0)) :: (.one (.unk)) :: (.one (.sl 0)) :: (.one (.sl 1)) :: (hu 108 [])), [(27, (ho 11 []))], [(9, .str, .own), (3, (.int .i64), .own)]⟩ ((.str) :: (ki 11 [.row (.str), .row (.int .i64)])))
noncomputable def E4_9 (m : Nat) : List Prm → Kont (Int × Int × Int × Int × Int × Int × Int × Int × Int × Int × Int × Bool) → Option (Int × Int × Int × Int × Int × Int × Int × Int × Int × Int × Int × Bool) := eL k4_9 (W4_9 m)
theorem ev4_9 (m : Nat) (k : Kont (Int × Int × Int × Int × Int × Int × Int × Int × Int × Int × Int × Bool)) (a : Args k4_9) : evL Tryz.prog G4 loopNil c4_9 (turn Tryz.prog (0, 0) H4_9 (E4_9 m) k) (H4_9.sk.fl (encP k4_9 a)) = unc k4_9 (W4_9 (m + 1) k) a := by kernel_rfl
theorem ok4_9 (m : Nat) : LoopOk Tryz.prog (0, 0) c4_9 (enter Tryz.prog (0, 0) H4_9 (E4_9 m)) := loop_gen (Fl := W4_9) (G := G4) (L := loopNil) (envCons_good good7 (envCons_good good8 (envCons_good good9 (envCons_good good10 envNil_good)))) (no_loops (c := c4_9) (by kernel_rfl)) (fun _ _ => by kernel_rfl) ev4_9 m
noncomputable def H4_13 : LoopH := ⟨⟨(hh :: (.one (.unk)) :: (.one (.ptr 0 0)) :: (.one (.unk)) :: (.one (.sl 0)) :: (.one (.sl 1)) :: (.one (.unk)) :: (.one (.ptr 1 0)) :: hh :: (hu 105 [])), [(27, (ho 11 [])), (27, (ho 11 []))], [(9, .str, .own), (3, (.int .i64), .own)]⟩, ([1, 3, 6] ++ rg 9 105), [], ([1, 4, 6] ++ rg 8 106), [], []⟩
noncomputable def k4_13 : List PK := ((.str) :: (ki 23 [.row (.str), .row (.int .i64)]))
noncomputable def W4_13 (m : Nat) (k : Kont (Int × Int × Int × Int × Int × Int × Int × Int × Int × Int × Int × Bool)) : Cur k4_13 (Option (Int × Int × Int × Int × Int × Int × Int × Int × Int × Int × Int × Bool)) := S.OpTextRead_l2 m (exF k (.exit 4) ⟨(hh :: (.one (.unk)) :: (.one (.ptr 0 0)) :: (hu 2 ((.one (.sl 0)) :: (.one (.unk)) :: (.one (.ptr 1 0)) :: (hu 106 [])))), [(27, (ho 11 [])), (27, (ho 11 []))], [(3, (.int .i64), .own)]⟩ ((.str) :: (ki 22 [.row (.int .i64)])))
noncomputable def E4_13 (m : Nat) : List Prm → Kont (Int × Int × Int × Int × Int × Int × Int × Int × Int × Int × Int × Bool) → Option (Int × Int × Int × Int × Int × Int × Int × Int × Int × Int × Int × Bool) := eL k4_13 (W4_13 m)
theorem ev4_13 (m : Nat) (k : Kont (Int × Int × Int × Int × Int × Int × Int × Int × Int × Int × Int × Bool)) (a : Args k4_13) : evL Tryz.prog G4 loopNil c4_13 (turn Tryz.prog (0, 0) H4_13 (E4_13 m) k) (H4_13.sk.fl (encP k4_13 a)) = unc k4_13 (W4_13 (m + 1) k) a := by kernel_rfl
theorem ok4_13 (m : Nat) : LoopOk Tryz.prog (0, 0) c4_13 (enter Tryz.prog (0, 0) H4_13 (E4_13 m)) := loop_gen (Fl := W4_13) (G := G4) (L := loopNil) (envCons_good good7 (envCons_good good8 (envCons_good good9 (envCons_good good10 envNil_good)))) (no_loops (c := c4_13) (by kernel_rfl)) (fun _ _ => by kernel_rfl) ev4_13 m
noncomputable def L4 : LEnv (Int × Int × Int × Int × Int × Int × Int × Int × Int × Int × Int × Bool) := (loopCons 6 (enter Tryz.prog (0, 0) H4_6 (E4_6 fu)) (loopCons 9 (enter Tryz.prog (0, 0) H4_9 (E4_9 fu)) (loopCons 13 (enter Tryz.prog (0, 0) H4_13 (E4_13 fu)) loopNil)))
theorem lq4 : loopsOf c4 = [c4_6, c4_9, c4_13] := by kernel_rfl
theorem fr4_6 : firstReg c4_6 = some 6 := by kernel_rfl
theorem le4_6 : L4 6 = enter Tryz.prog (0, 0) H4_6 (E4_6 fu) := by kernel_rfl
theorem fr4_9 : firstReg c4_9 = some 9 := by kernel_rfl
theorem le4_9 : L4 9 = enter Tryz.prog (0, 0) H4_9 (E4_9 fu) := by kernel_rfl
theorem fr4_13 : firstReg c4_13 = some 13 := by kernel_rfl
theorem le4_13 : L4 13 = enter Tryz.prog (0, 0) H4_13 (E4_13 fu) := by kernel_rfl
theorem lm4 : ∀ x ∈ [c4_6, c4_9, c4_13], ∀ id, firstReg x = some id → LoopOk Tryz.prog (0, 0) x (L4 id) := (loops_cons fr4_6 le4_6 (ok4_6 fu) (loops_cons fr4_9 le4_9 (ok4_9 fu) (loops_cons fr4_13 le4_13 (ok4_13 fu) loops_nil)))
theorem lp4 : ∀ x ∈ loopsOf c4, ∀ id, firstReg x = some id → LoopOk Tryz.prog (0, 0) x (L4 id) := loops_eq lq4 lm4
noncomputable def sg4 : Sg := ⟨⟨[hh], [], []⟩, [.str], ⟨[.agg (ho 11 []), hh], [], []⟩, (ki 11 [.bool])⟩
noncomputable def E4 : Fun2 := eOf sg4 S.OpTextRead
theorem ev4 (a : Args sg4.ks) : evS Tryz.prog G4 L4 (0, 0) [] Tryz.f4 c4 (kOf sg4) (sg4.sk.fl (encP sg4.ks a)) = unc sg4.ks S.OpTextRead a := by kernel_rfl
theorem good4 : Vm.Good Tryz.prog 4 E4 := good_gen (G := G4) (L := L4) (c := c4) (rn := []) (N := (0, 0)) (envCons_good good7 (envCons_good good8 (envCons_good good9 (envCons_good good10 envNil_good)))) lp4 Tryz.func4 (by kernel_rfl) (by kernel_rfl) (fun _ => by kernel_rfl) ev4
noncomputable def G34 : Env := envNil
noncomputable def c34 : Code := bodyOf Tryz.f34
noncomputable def I.Op_operands (a1 a2 a3 a4 a5 a6 a7 a8 a9 a10 a11 : Int) : Option (List Int) :=
(bif (a1 == 1) then
(some [a2, a3, a4, a5])
else
(bif (a1 == 2) then
(some [a6, a7, a8, a9])
else
(bif (a1 == 3) then
(some [a6, a7, a8])
else
(bif (a1 == 5) then
(some [a10])
else
(bif (a1 == 6) then
(some [a10])
else
(some [a10, a11]))))))
noncomputable def sg34 : Sg := ⟨⟨[.agg (ho 11 [])], [], []⟩, (ki 11 []), ⟨[.one (.sl 0)], [], [(3, (.int .i64), .own)]⟩, [.row (.int .i64)]⟩
noncomputable def E34 : Fun2 := eOf sg34 I.Op_operands
theorem ev34 (a : Args sg34.ks) : evS Tryz.prog G34 loopNil (0, 0) [] Tryz.f34 c34 (kOf sg34) (sg34.sk.fl (encP sg34.ks a)) = unc sg34.ks I.Op_operands a := by kernel_rfl
theorem good34 : Vm.Good Tryz.prog 34 E34 := good_gen (G := G34) (L := loopNil) (c := c34) (rn := []) (N := (0, 0)) envNil_good (no_loops (c := c34) (by kernel_rfl)) Tryz.func34 (by kernel_rfl) (by kernel_rfl) (fun _ => by kernel_rfl) ev34
noncomputable def G20 : Env := (envCons 34 [] E34 envNil)
noncomputable def c20 : Code := bodyOf Tryz.f20
noncomputable def I.withOperands (a1 : Int) (a2 : List Int) : Option (Int × Int × Int × Int × Int × Int × Int × Int × Int × Int × Int × Bool) :=
(Option.bind (I.Op_operands a1 0 0 0 0 0 0 0 0 0 0) fun r4 =>
(bif ((a2.length : Int) != (r4.length : Int)) then
(some (0, 0, 0, 0, 0, 0, 0, 0, 0, 0, 0, false))
else
(bif (a1 == 1) then
(bif decide ((0 : Int) ≤ 0 ∧ 0 < (a2.length : Int)) then
(bif decide ((0 : Int) ≤ 1 ∧ 1 < (a2.length : Int)) then
(bif decide ((0 : Int) ≤ 2 ∧ 2 < (a2.length : Int)) then
(bif decide ((0 : Int) ≤ 3 ∧ 3 < (a2.length : Int)) then
(some (a1, (nthI a2 0 (0 : Int)), (nthI a2 1 (0 : Int)), (nthI a2 2 (0 : Int)), (nthI a2 3 (0 : Int)), 0, 0, 0, 0, 0, 0, true))
else
none)
else
none)
else
none)
else
none)
else
(bif (a1 == 2) then
(bif decide ((0 : Int) ≤ 0 ∧ 0 < (a2.length : Int)) then
(bif decide ((0 : Int) ≤ 1 ∧ 1 < (a2.length : Int)) then
(bif decide ((0 : Int) ≤ 2 ∧ 2 < (a2.length : Int)) then
(bif decide ((0 : Int) ≤ 3 ∧ 3 < (a2.length : Int)) then
(some (a1, 0, 0, 0, 0, (nthI a2 0 (0 : Int)), (nthI a2 1 (0 : Int)), (nthI a2 2 (0 : Int)), (nthI a2 3 (0 : Int)), 0, 0, true))
else
none)
else
none)
else
none)
else
none)
else
(bif (a1 == 3) then
(bif decide ((0 : Int) ≤ 0 ∧ 0 < (a2.length : Int)) then
(bif decide ((0 : Int) ≤ 1 ∧ 1 < (a2.length : Int)) then
(bif decide ((0 : Int) ≤ 2 ∧ 2 < (a2.length : Int)) then
(some (a1, 0, 0, 0, 0, (nthI a2 0 (0 : Int)), (nthI a2 1 (0 : Int)), (nthI a2 2 (0 : Int)), 0, 0, 0, true))
else
none)
else
none)
else
none)
else
(bif (a1 == 5) then
(bif decide ((0 : Int) ≤ 0 ∧ 0 < (a2.length : Int)) then
(some (a1, 0, 0, 0, 0, 0, 0, 0, 0, (nthI a2 0 (0 : Int)), 0, true))
else
none)
else
(bif (a1 == 6) then
(bif decide ((0 : Int) ≤ 0 ∧ 0 < (a2.length : Int)) then
(some (a1, 0, 0, 0, 0, 0, 0, 0, 0, (nthI a2 0 (0 : Int)), 0, true))
else
none)
else
(bif decide ((0 : Int) ≤ 0 ∧ 0 < (a2.length : Int)) then
(bif decide ((0 : Int) ≤ 1 ∧ 1 < (a2.length : Int)) then
(some (a1, 0, 0, 0, 0, 0, 0, 0, 0, (nthI a2 0 (0 : Int)), (nthI a2 1 (0 : Int)), true))
else
none)
else
none))))))))
noncomputable def sg20 : Sg := ⟨⟨[hh, .one (.sl 0)], [], [(3, (.int .i64), .ro)]⟩, [.int .i64, .row (.int .i64)], ⟨[.agg (ho 11 []), hh], [], []⟩, (ki 11 [.bool])⟩
noncomputable def E20 : Fun2 := eOf sg20 I.withOperands
theorem ev20 (a : Args sg20.ks) : evS Tryz.prog G20 loopNil (0, 0) [] Tryz.f20 c20 (kOf sg20) (sg20.sk.fl (encP sg20.ks a)) = unc sg20.ks I.withOperands a := by kernel_rfl
theorem good20 : Vm.Good Tryz.prog 20 E20 := good_gen (G := G20) (L := loopNil) (c := c20) (rn := []) (N := (0, 0)) (envCons_good good34 envNil_good) (no_loops (c := c20) (by kernel_rfl)) Tryz.func20 (by kernel_rfl) (by kernel_rfl) (fun _ => by kernel_rfl) ev20
noncomputable def G37 : Env := envNil
noncomputable def c37 : Code := bodyOf Tryz.f37
noncomputable def I.in (a1 a2 a3 : Int) : Option Bool :=
(bif (decide (a2 ≤ a1)) then
(some (decide (a1 ≤ a3)))
else
(some false))
noncomputable def sg37 : Sg := ⟨⟨[hh, hh, hh], [], []⟩, (ki 3 []), ⟨[hh], [], []⟩, [.bool]⟩
noncomputable def E37 : Fun2 := eOf sg37 I.in
theorem ev37 (a : Args sg37.ks) : evS Tryz.prog G37 loopNil (0, 0) [] Tryz.f37 c37 (kOf sg37) (sg37.sk.fl (encP sg37.ks a)) = unc sg37.ks I.in a := by kernel_rfl
theorem good37 : Vm.Good Tryz.prog 37 E37 := good_gen (G := G37) (L := loopNil) (c := c37) (rn := []) (N := (0, 0)) envNil_good (no_loops (c := c37) (by kernel_rfl)) Tryz.func37 (by kernel_rfl) (by kernel_rfl) (fun _ => by kernel_rfl) ev37
noncomputable def G38 : Env := (envCons 37 [] E37 envNil)
noncomputable def c38 : Code := bodyOf Tryz.f38
noncomputable def I.isSource (a1 : Int) : Option Bool :=
(Option.bind (I.in a1 0 3) fun r2 =>
(some r2))
noncomputable def sg38 : Sg := ⟨⟨[hh], [], []⟩, [.int .i64], ⟨[hh], [], []⟩, [.bool]⟩
noncomputable def E38 : Fun2 := eOf sg38 I.isSource
theorem ev38 (a : Args sg38.ks) : evS Tryz.prog G38 loopNil (0, 0) [] Tryz.f38 c38 (kOf sg38) (sg38.sk.fl (encP sg38.ks a)) = unc sg38.ks I.isSource a := by kernel_rfl
theorem good38 : Vm.Good Tryz.prog 38 E38 := good_gen (G := G38) (L := loopNil) (c := c38) (rn := []) (N := (0, 0)) (envCons_good good37 envNil_good) (no_loops (c := c38) (by kernel_rfl)) Tryz.func38 (by kernel_rfl) (by kernel_rfl) (fun _ => by kernel_rfl) ev38
noncomputable def G54 : Env := (envCons 37 [] E37 envNil)
noncomputable def c54 : Code := bodyOf Tryz.f54
noncomputable def I.isKey (a1 : Int) : Option Bool :=
(Option.bind (I.in a1 0 15) fun r2 =>
(some r2))
noncomputable def sg54 : Sg := ⟨⟨[hh], [], []⟩, [.int .i64], ⟨[hh], [], []⟩, [.bool]⟩
noncomputable def E54 : Fun2 := eOf sg54 I.isKey
theorem ev54 (a : Args sg54.ks) : evS Tryz.prog G54 loopNil (0, 0) [] Tryz.f54 c54 (kOf sg54) (sg54.sk.fl (encP sg54.ks a)) = unc sg54.ks I.isKey a := by kernel_rfl
theorem good54 : Vm.Good Tryz.prog 54 E54 := good_gen (G := G54) (L := loopNil) (c := c54) (rn := []) (N := (0, 0)) (envCons_good good37 envNil_good) (no_loops (c := c54) (by kernel_rfl)) Tryz.func54 (by kernel_rfl) (by kernel_rfl) (fun _ => by kernel_rfl) ev54
noncomputable def G39 : Env := (envCons 37 [] E37 envNil)
noncomputable def c39 : Code := bodyOf Tryz.f39
noncomputable def I.isTime (a1 : Int) : Option Bool :=
(Option.bind (I.in a1 0 1000) fun r2 =>
(some r2))
noncomputable def sg39 : Sg := ⟨⟨[hh], [], []⟩, [.int .i64], ⟨[hh], [], []⟩, [.bool]⟩
noncomputable def E39 : Fun2 := eOf sg39 I.isTime
theorem ev39 (a : Args sg39.ks) : evS Tryz.prog G39 loopNil (0, 0) [] Tryz.f39 c39 (kOf sg39) (sg39.sk.fl (encP sg39.ks a)) = unc sg39.ks I.isTime a := by kernel_rfl
theorem good39 : Vm.Good Tryz.prog 39 E39 := good_gen (G := G39) (L := loopNil) (c := c39) (rn := []) (N := (0, 0)) (envCons_good good37 envNil_good) (no_loops (c := c39) (by kernel_rfl)) Tryz.func39 (by kernel_rfl) (by kernel_rfl) (fun _ => by kernel_rfl) ev39
noncomputable def G35 : Env := (envCons 38 [] E38 (envCons 54 [] E54 (envCons 39 [] E39 envNil)))
noncomputable def c35 : Code := bodyOf Tryz.f35
noncomputable def I.isElem (a1 a2 a3 a4 : Int) : Option Bool :=
(Option.bind (I.isSource a1) fun r5 =>
(bif r5 then
(Option.bind (I.isKey a2) fun r6 =>
(bif r6 then
(Option.bind (I.isTime a4) fun r7 =>
(some r7))
else
(some false)))
else
(some false)))
noncomputable def sg35 : Sg := ⟨⟨[.agg (ho 4 [])], [], []⟩, (ki 4 []), ⟨[hh], [], []⟩, [.bool]⟩
noncomputable def E35 : Fun2 := eOf sg35 I.isElem
theorem ev35 (a : Args sg35.ks) : evS Tryz.prog G35 loopNil (0, 0) [] Tryz.f35 c35 (kOf sg35) (sg35.sk.fl (encP sg35.ks a)) = unc sg35.ks I.isElem a := by kernel_rfl
theorem good35 : Vm.Good Tryz.prog 35 E35 := good_gen (G := G35) (L := loopNil) (c := c35) (rn := []) (N := (0, 0)) (envCons_good good38 (envCons_good good54 (envCons_good good39 envNil_good))) (no_loops (c := c35) (by kernel_rfl)) Tryz.func35 (by kernel_rfl) (by kernel_rfl) (fun _ => by kernel_rfl) ev35
noncomputable def G36 : Env := (envCons 38 [] E38 (envCons 37 [] E37 (envCons 54 [] E54 envNil)))
noncomputable def c36 : Code := bodyOf Tryz.f36
noncomputable def I.Punct_isPlace (a1 a2 a3 a4 : Int) : Option Bool :=
(Option.bind (I.isSource a1) fun r5 =>
(bif r5 then
(Option.bind (I.in a2 0 4) fun r6 =>
(bif r6 then
(Option.bind (I.isKey a3) fun r7 =>
(some r7))
else
(some false)))
else
(some false)))
noncomputable def sg36 : Sg := ⟨⟨[.agg (ho 4 [])], [], []⟩, (ki 4 []), ⟨[hh], [], []⟩, [.bool]⟩
noncomputable def E36 : Fun2 := eOf sg36 I.Punct_isPlace
theorem ev36 (a : Args sg36.ks) : evS Tryz.prog G36 loopNil (0, 0) [] Tryz.f36 c36 (kOf sg36) (sg36.sk.fl (encP sg36.ks a)) = unc sg36.ks I.Punct_isPlace a := by kernel_rfl
theorem good36 : Vm.Good Tryz.prog 36 E36 := good_gen (G := G36) (L := loopNil) (c := c36) (rn := []) (N := (0, 0)) (envCons_good good38 (envCons_good good37 (envCons_good good54 envNil_good))) (no_loops (c := c36) (by kernel_rfl)) Tryz.func36 (by kernel_rfl) (by kernel_rfl) (fun _ => by kernel_rfl) ev36
noncomputable def G21 : Env := (envCons 35 [] E35 (envCons 36 [] E36 (envCons 37 [] E37 (envCons 38 [] E38 (envCons 39 [] E39 envNil)))))
noncomputable def c21 : Code := bodyOf Tryz.f21
noncomputable def I.isOp (a1 a2 a3 a4 a5 a6 a7 a8 a9 a10 a11 : Int) : Option Bool :=
(bif (a1 == 1) then
(let v12 : Bool := ((a1 == a1) && (((a2 == a2) && ((a3 == a3) && ((a4 == a4) && ((a5 == a5) && true)))) && (((a6 == 0) && ((a7 == 0) && ((a8 == 0) && ((a9 == 0) && true)))) && ((a10 == 0) && ((a11 == 0) && true)))))
(bif v12 then
(Option.bind (I.isElem a2 a3 a4 a5) fun r13 =>
(some r13))
else
(some false)))
else
(bif (a1 == 2) then
(let v14 : Bool := ((a1 == a1) && (((a2 == 0) && ((a3 == 0) && ((a4 == 0) && ((a5 == 0) && true)))) && (((a6 == a6) && ((a7 == a7) && ((a8 == a8) && ((a9 == a9) && true)))) && ((a10 == 0) && ((a11 == 0) && true)))))
(bif v14 then
(Option.bind (I.Punct_isPlace a6 a7 a8 a9) fun r15 =>
(bif r15 then
(Option.bind (I.in a9 0 15) fun r16 =>
(bif r16 then
(bif (a1 == 2) then
(some true)
else
(some (a9 == 0)))
else
(some false)))
else
(some false)))
else
(some false)))
else
(bif (a1 == 3) then
(let v17 : Bool := ((a1 == a1) && (((a2 == 0) && ((a3 == 0) && ((a4 == 0) && ((a5 == 0) && true)))) && (((a6 == a6) && ((a7 == a7) && ((a8 == a8) && ((a9 == a9) && true)))) && ((a10 == 0) && ((a11 == 0) && true)))))
(bif v17 then
(Option.bind (I.Punct_isPlace a6 a7 a8 a9) fun r18 =>
(bif r18 then
(Option.bind (I.in a9 0 15) fun r19 =>
(bif r19 then
(bif (a1 == 2) then
(some true)
else
(some (a9 == 0)))
else
(some false)))
else
(some false)))
else
(some false)))
else
(bif (a1 == 4) then
(let v20 : Bool := ((a1 == a1) && (((a2 == 0) && ((a3 == 0) && ((a4 == 0) && ((a5 == 0) && true)))) && (((a6 == 0) && ((a7 == 0) && ((a8 == 0) && ((a9 == 0) && true)))) && ((a10 == a10) && ((a11 == a11) && true)))))
(bif v20 then
(Option.bind (I.isSource a10) fun r21 =>
(bif r21 then
(Option.bind (I.isTime a11) fun r22 =>
(some r22))
else
(some false)))
else
(some false)))
else
(bif (a1 == 5) then
(let v23 : Bool := ((a1 == a1) && (((a2 == 0) && ((a3 == 0) && ((a4 == 0) && ((a5 == 0) && true)))) && (((a6 == 0) && ((a7 == 0) && ((a8 == 0) && ((a9 == 0) && true)))) && ((a10 == a10) && ((a11 == 0) && true)))))
(bif v23 then
(Option.bind (I.isSource a10) fun r24 =>
(some r24))
else
(some false)))
else
(bif (a1 == 6) then
(let v25 : Bool := ((a1 == a1) && (((a2 == 0) && ((a3 == 0) && ((a4 == 0) && ((a5 == 0) && true)))) && (((a6 == 0) && ((a7 == 0) && ((a8 == 0) && ((a9 == 0) && true)))) && ((a10 == a10) && ((a11 == 0) && true)))))
(bif v25 then
(Option.bind (I.isSource a10) fun r26 =>
(some r26))
else
(some false)))
else
(bif (a1 == 7) then
(let v27 : Bool := ((a1 == a1) && (((a2 == 0) && ((a3 == 0) && ((a4 == 0) && ((a5 == 0) && true)))) && (((a6 == 0) && ((a7 == 0) && ((a8 == 0) && ((a9 == 0) && true)))) && ((a10 == a10) && ((a11 == a11) && true)))))
(bif v27 then
(Option.bind (I.in a10 0 3) fun r28 =>
(bif r28 then
(Option.bind (I.in a11 0 1000000) fun r29 =>
(some r29))
else
(some false)))
else
(some false)))
else
(bif (a1 == 8) then
(let v30 : Bool := ((a1 == a1) && (((a2 == 0) && ((a3 == 0) && ((a4 == 0) && ((a5 == 0) && true)))) && (((a6 == 0) && ((a7 == 0) && ((a8 == 0) && ((a9 == 0) && true)))) && ((a10 == a10) && ((a11 == a11) && true)))))
(bif v30 then
(Option.bind (I.in a10 0 3) fun r31 =>
(bif r31 then
(Option.bind (I.in a11 0 1000000) fun r32 =>
(some r32))
else
(some false)))
else
(some false)))
else
(bif (a1 == 9) then
(let v33 : Bool := ((a1 == a1) && (((a2 == 0) && ((a3 == 0) && ((a4 == 0) && ((a5 == 0) && true)))) && (((a6 == 0) && ((a7 == 0) && ((a8 == 0) && ((a9 == 0) && true)))) && ((a10 == a10) && ((a11 == a11) && true)))))
(bif v33 then
(Option.bind (I.in a10 0 3) fun r34 =>
(bif r34 then
(Option.bind (I.in a11 0 1000000) fun r35 =>
(some r35))
else
(some false)))
else
(some false)))
else
(some false))))))))))
noncomputable def sg21 : Sg := ⟨⟨[.agg (ho 11 [])], [], []⟩, (ki 11 []), ⟨[hh], [], []⟩, [.bool]⟩
noncomputable def E21 : Fun2 := eOf sg21 I.isOp
theorem ev21 (a : Args sg21.ks) : evS Tryz.prog G21 loopNil (0, 0) [] Tryz.f21 c21 (kOf sg21) (sg21.sk.fl (encP sg21.ks a)) = unc sg21.ks I.isOp a := by kernel_rfl
theorem good21 : Vm.Good Tryz.prog 21 E21 := good_gen (G := G21) (L := loopNil) (c := c21) (rn := []) (N := (0, 0)) (envCons_good good35 (envCons_good good36 (envCons_good good37 (envCons_good good38 (envCons_good good39 envNil_good))))) (no_loops (c := c21) (by kernel_rfl)) Tryz.func21 (by kernel_rfl) (by kernel_rfl) (fun _ => by kernel_rfl) ev21
noncomputable def G40 : Env := (envCons 55 [] E55 (envCons 56 [] E56 envNil))
noncomputable def c40 : Code := bodyOf Tryz.f40
noncomputable def c40_3 : Code := (loopsOf c40).getD 0 .skip
noncomputable def I.numbersText_l0 : Nat → (ByteArray → List ByteArray → Option ByteArray) → ByteArray → Int → Int → List ByteArray → List Int → Option ByteArray
  | 0, _, _, _, _, _, _ => none
  | m + 1, e3_0, a4, a5, a6, a7, a8 =>
    (bif (decide (a6 < a5)) then
    (bif decide ((0 : Int) ≤ a6 ∧ a6 < (a8.length : Int)) then
    (Option.bind (X.itoa (nthI a8 a6 (0 : Int))) fun r11 =>
    (bif decide ((a7.length + [r11].length) * 16 ≤ 140737488355328) then
    (I.numbersText_l0 m e3_0 a4 a5 (IntKind.wrap .i64 (a6 + 1)) (a7 ++ [r11]) a8)
    else
    none))
    else
    none)
    else
    (e3_0 a4 a7))
noncomputable def I.numbersText (a1 : ByteArray) (a2 : List Int) : Option ByteArray :=
(I.numbersText_l0 fu (fun y13 y14 =>
(Option.bind (X.join y13 y14) fun r15 =>
(some r15))) a1 (a2.length : Int) 0 [] a2)
noncomputable def H40_3 : LoopH := ⟨⟨((.one (.unk)) :: hh :: (hu 3 ((.one (.sl 0)) :: (hu 3 ((.one (.sl 1)) :: hh :: hh :: (hu 12 [])))))), [], [(9, .str, .own), (3, (.int .i64), .ro)]⟩, ([0, 2, 3, 4, 6, 7, 8] ++ rg 12 12), [], ([0, 2, 3] ++ rg 6 18), [], []⟩
noncomputable def k40_3 : List PK := ((.str) :: (ki 2 [.row (.str), .row (.int .i64)]))
noncomputable def W40_3 (m : Nat) (k : Kont ByteArray) : Cur k40_3 (Option ByteArray) := I.numbersText_l0 m (exF k (.exit 0) ⟨((.one (.unk)) :: hh :: (hu 3 ((.one (.sl 0)) :: (hu 18 [])))), [], [(9, .str, .own)]⟩ [.str, .row (.str)])
noncomputable def E40_3 (m : Nat) : List Prm → Kont ByteArray → Option ByteArray := eL k40_3 (W40_3 m)
theorem ev40_3 (m : Nat) (k : Kont ByteArray) (a : Args k40_3) : evL Tryz.prog G40 loopNil c40_3 (turn Tryz.prog (0, 0) H40_3 (E40_3 m) k) (H40_3.sk.fl (encP k40_3 a)) = unc k40_3 (W40_3 (m + 1) k) a := by kernel_rfl
theorem ok40_3 (m : Nat) : LoopOk Tryz.prog (0, 0) c40_3 (enter Tryz.prog (0, 0) H40_3 (E40_3 m)) := loop_gen (Fl := W40_3) (G := G40) (L := loopNil) (envCons_good good55 (envCons_good good56 envNil_good)) (no_loops (c := c40_3) (by kernel_rfl)) (fun _ _ => by kernel_rfl) ev40_3 m
noncomputable def L40 : LEnv ByteArray := (loopCons 3 (enter Tryz.prog (0, 0) H40_3 (E40_3 fu)) loopNil)
theorem lq40 : loopsOf c40 = [c40_3] := by kernel_rfl
theorem fr40_3 : firstReg c40_3 = some 3 := by kernel_rfl
theorem le40_3 : L40 3 = enter Tryz.prog (0, 0) H40_3 (E40_3 fu) := by kernel_rfl
theorem lm40 : ∀ x ∈ [c40_3], ∀ id, firstReg x = some id → LoopOk Tryz.prog (0, 0) x (L40 id) := (loops_cons fr40_3 le40_3 (ok40_3 fu) loops_nil)
theorem lp40 : ∀ x ∈ loopsOf c40, ∀ id, firstReg x = some id → LoopOk Tryz.prog (0, 0) x (L40 id) := loops_eq lq40 lm40
noncomputable def sg40 : Sg := ⟨⟨[.one (.sl 0), hh], [], [(3, (.int .i64), .ro)]⟩, [.str, .row (.int .i64)], ⟨[hh], [], []⟩, [.str]⟩
noncomputable def E40 : Fun2 := eOf sg40 I.numbersText
theorem ev40 (a : Args sg40.ks) : evS Tryz.prog G40 L40 (0, 0) [] Tryz.f40 c40 (kOf sg40) (sg40.sk.fl (encP sg40.ks a)) = unc sg40.ks I.numbersText a := by kernel_rfl
theorem good40 : Vm.Good Tryz.prog 40 E40 := good_gen (G := G40) (L := L40) (c := c40) (rn := []) (N := (0, 0)) (envCons_good good55 (envCons_good good56 envNil_good)) lp40 Tryz.func40 (by kernel_rfl) (by kernel_rfl) (fun _ => by kernel_rfl) ev40
noncomputable def G22 : Env := (envCons 19 [] E19 (envCons 34 [] E34 (envCons 40 [] E40 envNil)))
noncomputable def c22 : Code := bodyOf Tryz.f22
noncomputable def I.opText (a1 a2 a3 a4 a5 a6 a7 a8 a9 a10 a11 : Int) : Option ByteArray :=
(let v12 : Int := (IntKind.wrap .i64 (a1 - 1))
(Option.bind (X.fields lit11) fun r13 =>
(bif decide ((0 : Int) ≤ v12 ∧ v12 < (r13.length : Int)) then
(bif decide ((((nthI r13 v12 ByteArray.empty).size + lit10.size : Nat) : Int) ≤ IntKind.max .i64) then
(let v14 : ByteArray := ((nthI r13 v12 ByteArray.empty) ++ lit10)
(Option.bind (I.Op_operands a1 a2 a3 a4 a5 a6 a7 a8 a9 a10 a11) fun r15 =>
(Option.bind (I.numbersText lit10 r15) fun r16 =>
(bif decide (((v14.size + r16.size : Nat) : Int) ≤ IntKind.max .i64) then
(some (v14 ++ r16))
else
none))))
else
none)
else
none)))
noncomputable def sg22 : Sg := ⟨⟨[.agg (ho 11 [])], [], []⟩, (ki 11 []), ⟨[hh], [], []⟩, [.str]⟩
noncomputable def E22 : Fun2 := eOf sg22 I.opText
theorem ev22 (a : Args sg22.ks) : evS Tryz.prog G22 loopNil (0, 0) [] Tryz.f22 c22 (kOf sg22) (sg22.sk.fl (encP sg22.ks a)) = unc sg22.ks I.opText a := by kernel_rfl
theorem good22 : Vm.Good Tryz.prog 22 E22 := good_gen (G := G22) (L := loopNil) (c := c22) (rn := []) (N := (0, 0)) (envCons_good good19 (envCons_good good34 (envCons_good good40 envNil_good))) (no_loops (c := c22) (by kernel_rfl)) Tryz.func22 (by kernel_rfl) (by kernel_rfl) (fun _ => by kernel_rfl) ev22
noncomputable def G11 : Env := (envCons 17 [] E17 (envCons 18 [] E18 (envCons 19 [] E19 (envCons 20 [] E20 (envCons 21 [] E21 (envCons 22 [] E22 envNil))))))
noncomputable def c11 : Code := bodyOf Tryz.f11
noncomputable def c11_3 : Code := (loopsOf c11).getD 0 .skip
noncomputable def c11_11 : Code := (loopsOf c11).getD 1 .skip
noncomputable def I.opTextRead_l0 : Nat → (ByteArray → Bool → Int → Int → Int → Int → Int → Int → Int → Int → Int → Int → Int → List ByteArray → List Int → Option (Int × Int × Int × Int × Int × Int × Int × Int × Int × Int × Int × Bool)) → (ByteArray → Int → Int → Int → Int → Int → Int → Int → Int → Int → Int → Int → List ByteArray → List Int → Option (Int × Int × Int × Int × Int × Int × Int × Int × Int × Int × Int × Bool)) → ByteArray → Int → Int → Int → Int → Int → Int → Int → Int → Int → Int → Int → Int → Int → Int → Int → List ByteArray → List Int → Option (Int × Int × Int × Int × Int × Int × Int × Int × Int × Int × Int × Bool)
  | 0, _, _, _, _, _, _, _, _, _, _, _, _, _, _, _, _, _, _, _, _ => none
  | m + 1, e3_0, e3_1, a4, a5, a6, a7, a8, a9, a10, a11, a12, a13, a14, a15, a16, a17, a18, a19, a20, a21 =>
    (bif (decide (a8 < a7)) then
    (bif decide ((0 : Int) ≤ a8 ∧ a8 < a6 - a5) then
    (Option.bind (X.atoi (nthI a20 (a5 + a8) ByteArray.empty)) fun r24 =>
    (bif r24.2 then
    (e3_0 a4 false 0 0 0 0 0 0 0 0 0 0 0 a20 a21)
    else
    (bif decide ((a21.length + [r24.1].length) * 8 ≤ 140737488355328) then
    (I.opTextRead_l0 m e3_0 e3_1 a4 a5 a6 a7 (IntKind.wrap .i64 (a8 + 1)) a9 a10 a11 a12 a13 a14 a15 a16 a17 a18 a19 a20 (a21 ++ [r24.1]))
    else
    none)))
    else
    none)
    else
    (e3_1 a4 a9 a10 a11 a12 a13 a14 a15 a16 a17 a18 a19 a20 a21))
noncomputable def I.opTextRead_l1 : Nat → (Bool → Int → Int → Int → Int → Int → Int → Int → Int → Int → Int → Int → Option (Int × Int × Int × Int × Int × Int × Int × Int × Int × Int × Int × Bool)) → (Int → Int → Int → Int → Int → Int → Int → Int → Int → Int → Int → Option (Int × Int × Int × Int × Int × Int × Int × Int × Int × Int × Int × Bool)) → ByteArray → Int → Int → Int → Int → Int → Int → Int → Int → Int → Int → Int → Int → Int → List ByteArray → List Int → List ByteArray → Option (Int × Int × Int × Int × Int × Int × Int × Int × Int × Int × Int × Bool)
  | 0, _, _, _, _, _, _, _, _, _, _, _, _, _, _, _, _, _, _, _ => none
  | m + 1, e11_0, e11_1, a58, a59, a60, a61, a62, a63, a64, a65, a66, a67, a68, a69, a70, a71, a72, a73, a74 =>
    (bif (decide (a60 < a59)) then
    (bif decide ((0 : Int) ≤ a60 ∧ a60 < (a74.length : Int)) then
    (bif decide ((0 : Int) ≤ 0 ∧ 0 < (a72.length : Int)) then
    (bif (!((nthI a74 a60 ByteArray.empty).toList == (nthI a72 0 ByteArray.empty).toList)) then
    (I.opTextRead_l1 m e11_0 e11_1 a58 a59 (IntKind.wrap .i64 (a60 + 1)) a61 a62 a63 a64 a65 a66 a67 a68 a69 a70 a71 a72 a73 a74)
    else
    (Option.bind (I.withOperands (IntKind.wrap .i64 (1 + a60)) a73) fun r80 =>
    (bif r80.2.2.2.2.2.2.2.2.2.2.2 then
    (Option.bind (I.isOp r80.1 r80.2.1 r80.2.2.1 r80.2.2.2.1 r80.2.2.2.2.1 r80.2.2.2.2.2.1 r80.2.2.2.2.2.2.1 r80.2.2.2.2.2.2.2.1 r80.2.2.2.2.2.2.2.2.1 r80.2.2.2.2.2.2.2.2.2.1 r80.2.2.2.2.2.2.2.2.2.2.1) fun r81 =>
    (bif r81 then
    (Option.bind (I.opText r80.1 r80.2.1 r80.2.2.1 r80.2.2.2.1 r80.2.2.2.2.1 r80.2.2.2.2.2.1 r80.2.2.2.2.2.2.1 r80.2.2.2.2.2.2.2.1 r80.2.2.2.2.2.2.2.2.1 r80.2.2.2.2.2.2.2.2.2.1 r80.2.2.2.2.2.2.2.2.2.2.1) fun r82 =>
    (bif (r82.toList == a58.toList) then
    (e11_0 true r80.1 r80.2.1 r80.2.2.1 r80.2.2.2.1 r80.2.2.2.2.1 r80.2.2.2.2.2.1 r80.2.2.2.2.2.2.1 r80.2.2.2.2.2.2.2.1 r80.2.2.2.2.2.2.2.2.1 r80.2.2.2.2.2.2.2.2.2.1 r80.2.2.2.2.2.2.2.2.2.2.1)
    else
    (I.opTextRead_l1 m e11_0 e11_1 a58 a59 (IntKind.wrap .i64 (a60 + 1)) a61 a62 a63 a64 a65 a66 a67 a68 a69 a70 a71 a72 a73 a74)))
    else
    (I.opTextRead_l1 m e11_0 e11_1 a58 a59 (IntKind.wrap .i64 (a60 + 1)) a61 a62 a63 a64 a65 a66 a67 a68 a69 a70 a71 a72 a73 a74)))
    else
    (I.opTextRead_l1 m e11_0 e11_1 a58 a59 (IntKind.wrap .i64 (a60 + 1)) a61 a62 a63 a64 a65 a66 a67 a68 a69 a70 a71 a72 a73 a74))))
    else
    none)
    else
    none)
    else
    (e11_1 a61 a62 a63 a64 a65 a66 a67 a68 a69 a70 a71))
noncomputable def I.opTextRead (a1 : ByteArray) : Option (Int × Int × Int × Int × Int × Int × Int × Int × Int × Int × Int × Bool) :=
(Option.bind (X.split a1 lit10) fun r2 =>
(bif decide ((0 : Int) ≤ 1 ∧ 1 ≤ (r2.length : Int) ∧ (r2.length : Int) ≤ (r2.length : Int)) then
(I.opTextRead_l0 fu (fun y27 y28 y29 y30 y31 y32 y33 y34 y35 y36 y37 y38 y39 y40 y41 =>
(some (y29, y30, y31, y32, y33, y34, y35, y36, y37, y38, y39, y28))) (fun y42 y43 y44 y45 y46 y47 y48 y49 y50 y51 y52 y53 y54 y55 =>
(Option.bind (X.fields lit11) fun r56 =>
(I.opTextRead_l1 fu (fun y87 y88 y89 y90 y91 y92 y93 y94 y95 y96 y97 y98 =>
(some (y88, y89, y90, y91, y92, y93, y94, y95, y96, y97, y98, y87))) (fun y99 y100 y101 y102 y103 y104 y105 y106 y107 y108 y109 =>
(some (0, 0, 0, 0, 0, 0, 0, 0, 0, 0, 0, false))) y42 (r56.length : Int) 0 y43 y44 y45 y46 y47 y48 y49 y50 y51 y52 y53 y54 y55 r56))) a1 1 (r2.length : Int) ((r2.length : Int) - 1) 0 0 0 0 0 0 0 0 0 0 0 0 r2 [])
else
none))
noncomputable def H11_3 : LoopH := ⟨⟨(hh :: (.one (.unk)) :: (.one (.ptr 0 0)) :: (.one (.unk)) :: (.one (.sl 0)) :: (.one (.sl 1)) :: (hu 12 ((.one (.vw 0 1)) :: hh :: hh :: (hu 49 [])))), [(27, (ho 11 []))], [(9, .str, .own), (3, (.int .i64), .own)]⟩, ([1, 3] ++ rg 6 12 ++ rg 21 49), [], ([1] ++ rg 6 64), [], []⟩
noncomputable def k11_3 : List PK := ((.str) :: (.i) :: (.i) :: (ki 13 [.row (.str), .row (.int .i64)]))
noncomputable def W11_3 (m : Nat) (k : Kont (Int × Int × Int × Int × Int × Int × Int × Int × Int × Int × Int × Bool)) : Cur k11_3 (Option (Int × Int × Int × Int × Int × Int × Int × Int × Int × Int × Int × Bool)) := I.opTextRead_l0 m (exF k .ret ⟨(hh :: (.one (.unk)) :: (.one (.ptr 0 0)) :: hh :: (.one (.sl 0)) :: (.one (.sl 1)) :: (hu 64 [])), [(27, (ho 11 []))], [(9, .str, .own), (3, (.int .i64), .own)]⟩ ((.str) :: (.bool) :: (ki 11 [.row (.str), .row (.int .i64)]))) (exF k (.exit 0) ⟨(hh :: (.one (.unk)) :: (.one (.ptr 0 0)) :: (.one (.unk)) :: (.one (.sl 0)) :: (.one (.sl 1)) :: (hu 64 [])), [(27, (ho 11 []))], [(9, .str, .own), (3, (.int .i64), .own)]⟩ ((.str) :: (ki 11 [.row (.str), .row (.int .i64)])))
noncomputable def E11_3 (m : Nat) : List Prm → Kont (Int × Int × Int × Int × Int × Int × Int × Int × Int × Int × Int × Bool) → Option (Int × Int × Int × Int × Int × Int × Int × Int × Int × Int × Int × Bool) := eL k11_3 (W11_3 m)
theorem ev11_3 (m : Nat) (k : Kont (Int × Int × Int × Int × Int × Int × Int × Int × Int × Int × Int × Bool)) (a : Args k11_3) : evL Tryz.prog G11 loopNil c11_3 (turn Tryz.prog (0, 0) H11_3 (E11_3 m) k) (H11_3.sk.fl (encP k11_3 a)) = unc k11_3 (W11_3 (m + 1) k) a := by kernel_rfl
theorem ok11_3 (m : Nat) : LoopOk Tryz.prog (0, 0) c11_3 (enter Tryz.prog (0, 0) H11_3 (E11_3 m)) := loop_gen (Fl := W11_3) (G := G11) (L := loopNil) (envCons_good good17 (envCons_good good18 (envCons_good good19 (envCons_good good20 (envCons_good good21 (envCons_good good22 envNil_good)))))) (no_loops (c := c11_3) (by kernel_rfl)) (fun _ _ => by kernel_rfl) ev11_3 m
noncomputable def H11_11 : LoopH := ⟨⟨(hh :: (.one (.unk)) :: (.one (.ptr 0 0)) :: (.one (.unk)) :: (.one (.sl 0)) :: (.one (.sl 1)) :: (hu 31 ((.one (.sl 2)) :: hh :: hh :: (hu 30 [])))), [(27, (ho 11 []))], [(9, .str, .own), (3, (.int .i64), .own), (9, .str, .own)]⟩, ([1, 3] ++ rg 6 31 ++ rg 40 30), [], ([0, 1] ++ rg 4 66), [], []⟩
noncomputable def k11_11 : List PK := ((.str) :: (ki 13 [.row (.str), .row (.int .i64), .row (.str)]))
noncomputable def W11_11 (m : Nat) (k : Kont (Int × Int × Int × Int × Int × Int × Int × Int × Int × Int × Int × Bool)) : Cur k11_11 (Option (Int × Int × Int × Int × Int × Int × Int × Int × Int × Int × Int × Bool)) := I.opTextRead_l1 m (exF k .ret ⟨(hu 2 ((.one (.ptr 0 0)) :: hh :: (hu 66 []))), [(27, (ho 11 []))], []⟩ ((.bool) :: (ki 11 []))) (exF k (.exit 2) ⟨(hu 2 ((.one (.ptr 0 0)) :: (hu 67 []))), [(27, (ho 11 []))], []⟩ (ki 11 []))
noncomputable def E11_11 (m : Nat) : List Prm → Kont (Int × Int × Int × Int × Int × Int × Int × Int × Int × Int × Int × Bool) → Option (Int × Int × Int × Int × Int × Int × Int × Int × Int × Int × Int × Bool) := eL k11_11 (W11_11 m)
theorem ev11_11 (m : Nat) (k : Kont (Int × Int × Int × Int × Int × Int × Int × Int × Int × Int × Int × Bool)) (a : Args k11_11) : evL Tryz.prog G11 loopNil c11_11 (turn Tryz.prog (0, 0) H11_11 (E11_11 m) k) (H11_11.sk.fl (encP k11_11 a)) = unc k11_11 (W11_11 (m + 1) k) a := by kernel_rfl
theorem ok11_11 (m : Nat) : LoopOk Tryz.prog (0, 0) c11_11 (enter Tryz.prog (0, 0) H11_11 (E11_11 m)) := loop_gen (Fl := W11_11) (G := G11) (L := loopNil) (envCons_good good17 (envCons_good good18 (envCons_good good19 (envCons_good good20 (envCons_good good21 (envCons_good good22 envNil_good)))))) (no_loops (c := c11_11) (by kernel_rfl)) (fun _ _ => by kernel_rfl) ev11_11 m
noncomputable def L11 : LEnv (Int × Int × Int × Int × Int × Int × Int × Int × Int × Int × Int × Bool) := (loopCons 3 (enter Tryz.prog (0, 0) H11_3 (E11_3 fu)) (loopCons 11 (enter Tryz.prog (0, 0) H11_11 (E11_11 fu)) loopNil))
theorem lq11 : loopsOf c11 = [c11_3, c11_11] := by kernel_rfl
theorem fr11_3 : firstReg c11_3 = some 3 := by kernel_rfl
theorem le11_3 : L11 3 = enter Tryz.prog (0, 0) H11_3 (E11_3 fu) := by kernel_rfl
theorem fr11_11 : firstReg c11_11 = some 11 := by kernel_rfl
theorem le11_11 : L11 11 = enter Tryz.prog (0, 0) H11_11 (E11_11 fu) := by kernel_rfl
theorem lm11 : ∀ x ∈ [c11_3, c11_11], ∀ id, firstReg x = some id → LoopOk Tryz.prog (0, 0) x (L11 id) := (loops_cons fr11_3 le11_3 (ok11_3 fu) (loops_cons fr11_11 le11_11 (ok11_11 fu) loops_nil))
theorem lp11 : ∀ x ∈ loopsOf c11, ∀ id, firstReg x = some id → LoopOk Tryz.prog (0, 0) x (L11 id) := loops_eq lq11 lm11
noncomputable def sg11 : Sg := ⟨⟨[hh], [], []⟩, [.str], ⟨[.agg (ho 11 []), hh], [], []⟩, (ki 11 [.bool])⟩
noncomputable def E11 : Fun2 := eOf sg11 I.opTextRead
theorem ev11 (a : Args sg11.ks) : evS Tryz.prog G11 L11 (0, 0) [] Tryz.f11 c11 (kOf sg11) (sg11.sk.fl (encP sg11.ks a)) = unc sg11.ks I.opTextRead a := by kernel_rfl
theorem good11 : Vm.Good Tryz.prog 11 E11 := good_gen (G := G11) (L := L11) (c := c11) (rn := []) (N := (0, 0)) (envCons_good good17 (envCons_good good18 (envCons_good good19 (envCons_good good20 (envCons_good good21 (envCons_good good22 envNil_good)))))) lp11 Tryz.func11 (by kernel_rfl) (by kernel_rfl) (fun _ => by kernel_rfl) ev11
noncomputable def G5 : Env := (envCons 11 [] E11 envNil)
noncomputable def c5 : Code := bodyOf Tryz.f5
noncomputable def I.OpTextRead (a1 : ByteArray) : Option (Int × Int × Int × Int × Int × Int × Int × Int × Int × Int × Int × Bool) :=
(Option.bind (I.opTextRead a1) fun r2 =>
(some (r2.1, r2.2.1, r2.2.2.1, r2.2.2.2.1, r2.2.2.2.2.1, r2.2.2.2.2.2.1, r2.2.2.2.2.2.2.1, r2.2.2.2.2.2.2.2.1, r2.2.2.2.2.2.2.2.2.1, r2.2.2.2.2.2.2.2.2.2.1, r2.2.2.2.2.2.2.2.2.2.2.1, r2.2.2.2.2.2.2.2.2.2.2.2)))
noncomputable def sg5 : Sg := ⟨⟨[hh], [], []⟩, [.str], ⟨[.agg (ho 11 []), hh], [], []⟩, (ki 11 [.bool])⟩
noncomputable def E5 : Fun2 := eOf sg5 I.OpTextRead
theorem ev5 (a : Args sg5.ks) : evS Tryz.prog G5 loopNil (0, 0) [] Tryz.f5 c5 (kOf sg5) (sg5.sk.fl (encP sg5.ks a)) = unc sg5.ks I.OpTextRead a := by kernel_rfl
theorem good5 : Vm.Good Tryz.prog 5 E5 := good_gen (G := G5) (L := loopNil) (c := c5) (rn := []) (N := (0, 0)) (envCons_good good11 envNil_good) (no_loops (c := c5) (by kernel_rfl)) Tryz.func5 (by kernel_rfl) (by kernel_rfl) (fun _ => by kernel_rfl) ev5
noncomputable def G12 : Env := envNil
noncomputable def c12 : Code := bodyOf Tryz.f12
noncomputable def L.eqElem (a1 a2 a3 a4 a5 a6 a7 a8 : Int) : Option Bool :=
(bif (a1 != a5) then
(some false)
else
(bif (a2 != a6) then
(some false)
else
(bif (a3 != a7) then
(some false)
else
(bif (a4 != a8) then
(some false)
else
(some true)))))
noncomputable def sg12 : Sg := ⟨⟨[.agg (ho 4 []), .agg (ho 4 [])], [], []⟩, (ki 8 []), ⟨[hh], [], []⟩, [.bool]⟩
noncomputable def E12 : Fun2 := eOf sg12 L.eqElem
theorem ev12 (a : Args sg12.ks) : evS Tryz.prog G12 loopNil (0, 0) [] Tryz.f12 c12 (kOf sg12) (sg12.sk.fl (encP sg12.ks a)) = unc sg12.ks L.eqElem a := by kernel_rfl
theorem good12 : Vm.Good Tryz.prog 12 E12 := good_gen (G := G12) (L := loopNil) (c := c12) (rn := []) (N := (0, 0)) envNil_good (no_loops (c := c12) (by kernel_rfl)) Tryz.func12 (by kernel_rfl) (by kernel_rfl) (fun _ => by kernel_rfl) ev12
noncomputable def G13 : Env := envNil
noncomputable def c13 : Code := bodyOf Tryz.f13
noncomputable def L.eqPunct (a1 a2 a3 a4 a5 a6 a7 a8 : Int) : Option Bool :=
(bif (a1 != a5) then
(some false)
else
(bif (a2 != a6) then
(some false)
else
(bif (a3 != a7) then
(some false)
else
(bif (a4 != a8) then
(some false)
else
(some true)))))
noncomputable def sg13 : Sg := ⟨⟨[.agg (ho 4 []), .agg (ho 4 [])], [], []⟩, (ki 8 []), ⟨[hh], [], []⟩, [.bool]⟩
noncomputable def E13 : Fun2 := eOf sg13 L.eqPunct
theorem ev13 (a : Args sg13.ks) : evS Tryz.prog G13 loopNil (0, 0) [] Tryz.f13 c13 (kOf sg13) (sg13.sk.fl (encP sg13.ks a)) = unc sg13.ks L.eqPunct a := by kernel_rfl
theorem good13 : Vm.Good Tryz.prog 13 E13 := good_gen (G := G13) (L := loopNil) (c := c13) (rn := []) (N := (0, 0)) envNil_good (no_loops (c := c13) (by kernel_rfl)) Tryz.func13 (by kernel_rfl) (by kernel_rfl) (fun _ => by kernel_rfl) ev13
noncomputable def G6 : Env := (envCons 12 [] E12 (envCons 13 [] E13 envNil))
noncomputable def c6 : Code := bodyOf Tryz.f6
noncomputable def L.eqOp (a1 a2 a3 a4 a5 a6 a7 a8 a9 a10 a11 a12 a13 a14 a15 a16 a17 a18 a19 a20 a21 a22 : Int) : Option Bool :=
(bif (a1 != a12) then
(some false)
else
(Option.bind (L.eqElem a2 a3 a4 a5 a13 a14 a15 a16) fun r23 =>
(bif (!r23) then
(some false)
else
(Option.bind (L.eqPunct a6 a7 a8 a9 a17 a18 a19 a20) fun r24 =>
(bif (!r24) then
(some false)
else
(bif (a10 != a21) then
(some false)
else
(bif (a11 != a22) then
(some false)
else
(some true))))))))
noncomputable def sg6 : Sg := ⟨⟨[.agg (ho 11 []), .agg (ho 11 [])], [], []⟩, (ki 22 []), ⟨[hh], [], []⟩, [.bool]⟩
noncomputable def E6 : Fun2 := eOf sg6 L.eqOp
theorem ev6 (a : Args sg6.ks) : evS Tryz.prog G6 loopNil (0, 0) [] Tryz.f6 c6 (kOf sg6) (sg6.sk.fl (encP sg6.ks a)) = unc sg6.ks L.eqOp a := by kernel_rfl
theorem good6 : Vm.Good Tryz.prog 6 E6 := good_gen (G := G6) (L := loopNil) (c := c6) (rn := []) (N := (0, 0)) (envCons_good good12 (envCons_good good13 envNil_good)) (no_loops (c := c6) (by kernel_rfl)) Tryz.func6 (by kernel_rfl) (by kernel_rfl) (fun _ => by kernel_rfl) ev6
noncomputable def G3 : Env := (envCons 4 [] E4 (envCons 5 [] E5 (envCons 6 [] E6 envNil)))
noncomputable def c3 : Code := bodyOf Tryz.f3
noncomputable def L.FnExactOpTextRead (a1 : ByteArray) : Option Bool :=
(bif (decide (1048576 < (a1.size : Int))) then
(some true)
else
(Option.bind (S.OpTextRead a1) fun r4 =>
(Option.bind (I.OpTextRead a1) fun r5 =>
(Option.bind (L.eqOp r5.1 r5.2.1 r5.2.2.1 r5.2.2.2.1 r5.2.2.2.2.1 r5.2.2.2.2.2.1 r5.2.2.2.2.2.2.1 r5.2.2.2.2.2.2.2.1 r5.2.2.2.2.2.2.2.2.1 r5.2.2.2.2.2.2.2.2.2.1 r5.2.2.2.2.2.2.2.2.2.2.1 r4.1 r4.2.1 r4.2.2.1 r4.2.2.2.1 r4.2.2.2.2.1 r4.2.2.2.2.2.1 r4.2.2.2.2.2.2.1 r4.2.2.2.2.2.2.2.1 r4.2.2.2.2.2.2.2.2.1 r4.2.2.2.2.2.2.2.2.2.1 r4.2.2.2.2.2.2.2.2.2.2.1) fun r6 =>
(bif (!r6) then
(some false)
else
(bif (!(r5.2.2.2.2.2.2.2.2.2.2.2 == r4.2.2.2.2.2.2.2.2.2.2.2)) then
(some false)
else
(some true)))))))
noncomputable def sg3 : Sg := ⟨⟨[hh], [], []⟩, [.str], ⟨[hh], [], []⟩, [.bool]⟩
noncomputable def E3 : Fun2 := eOf sg3 L.FnExactOpTextRead
theorem ev3 (a : Args sg3.ks) : evS Tryz.prog G3 loopNil (0, 0) [] Tryz.f3 c3 (kOf sg3) (sg3.sk.fl (encP sg3.ks a)) = unc sg3.ks L.FnExactOpTextRead a := by kernel_rfl
theorem good3 : Vm.Good Tryz.prog 3 E3 := good_gen (G := G3) (L := loopNil) (c := c3) (rn := []) (N := (0, 0)) (envCons_good good4 (envCons_good good5 (envCons_good good6 envNil_good))) (no_loops (c := c3) (by kernel_rfl)) Tryz.func3 (by kernel_rfl) (by kernel_rfl) (fun _ => by kernel_rfl) ev3
end Go.Proofs.YtlaklfpelkmjjaaGreatDoor.Run
