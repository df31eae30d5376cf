import Derived.Test.YtipipipngmenoaaDoorVmXt
import Derived.Test.YtipipipngmenoaaDoorProg
namespace Go.Proofs.YtipipipngmenoaaDoor.Run
open Go Go.RowKit Go.Proofs.YtipipipngmenoaaDoorW.PrintWords Go.Proofs.YtipipipngmenoaaDoor.Vm
set_option linter.unusedVariables false
set_option maxRecDepth 100000
set_option maxHeartbeats 4000000


noncomputable def lit0 : ByteArray := ⟨#[]⟩
noncomputable def lit1 : ByteArray := ⟨#[101, 108, 101, 109]⟩
noncomputable def lit2 : ByteArray := ⟨#[115, 101, 116]⟩
noncomputable def lit3 : ByteArray := ⟨#[100, 114, 111, 112]⟩
noncomputable def lit4 : ByteArray := ⟨#[109, 97, 114, 107]⟩
noncomputable def lit5 : ByteArray := ⟨#[105, 100, 108, 101]⟩
noncomputable def lit6 : ByteArray := ⟨#[98, 117, 115, 121]⟩
noncomputable def lit7 : ByteArray := ⟨#[112, 111, 108, 108]⟩
noncomputable def lit8 : ByteArray := ⟨#[97, 99, 107]⟩
noncomputable def lit9 : ByteArray := ⟨#[97, 117, 100, 105, 116]⟩
noncomputable def lit10 : ByteArray := ⟨#[32]⟩
noncomputable def lit11 : ByteArray := ⟨#[101, 108, 101, 109, 32, 115, 101, 116, 32, 100, 114, 111, 112, 32, 109, 97, 114, 107, 32, 105, 100, 108, 101, 32, 98, 117, 115, 121, 32, 112, 111, 108, 108, 32, 97, 99, 107, 32, 97, 117, 100, 105, 116]⟩
noncomputable def G41 : Env := envNil
noncomputable def c41 : Code := bodyOf Tryd.f41
noncomputable def L.toElem (a1 a2 a3 a4 : Int) : Option (Int × Int × Int × Int) :=
(some (a1, a2, a3, a4))
noncomputable def sg41 : Sg := ⟨⟨[.agg (ho 4 [])], [], []⟩, (ki 4 []), ⟨[.agg (ho 4 [])], [], []⟩, (ki 4 [])⟩
noncomputable def E41 : Fun2 := eOf sg41 L.toElem
theorem ev41 (a : Args sg41.ks) : evS Tryd.prog G41 loopNil (0, 0) [] Tryd.f41 c41 (kOf sg41) (sg41.sk.fl (encP sg41.ks a)) = unc sg41.ks L.toElem a := by kernel_rfl
theorem good41 : Vm.Good Tryd.prog 41 E41 := good_gen (G := G41) (L := loopNil) (c := c41) (rn := []) (N := (0, 0)) envNil_good (no_loops (c := c41) (by kernel_rfl)) Tryd.func41 (by kernel_rfl) (by kernel_rfl) (fun _ => by kernel_rfl) ev41
noncomputable def G42 : Env := envNil
noncomputable def c42 : Code := bodyOf Tryd.f42
noncomputable def L.toPunct (a1 a2 a3 a4 : Int) : Option (Int × Int × Int × Int) :=
(some (a1, a2, a3, a4))
noncomputable def sg42 : Sg := ⟨⟨[.agg (ho 4 [])], [], []⟩, (ki 4 []), ⟨[.agg (ho 4 [])], [], []⟩, (ki 4 [])⟩
noncomputable def E42 : Fun2 := eOf sg42 L.toPunct
theorem ev42 (a : Args sg42.ks) : evS Tryd.prog G42 loopNil (0, 0) [] Tryd.f42 c42 (kOf sg42) (sg42.sk.fl (encP sg42.ks a)) = unc sg42.ks L.toPunct a := by kernel_rfl
theorem good42 : Vm.Good Tryd.prog 42 E42 := good_gen (G := G42) (L := loopNil) (c := c42) (rn := []) (N := (0, 0)) envNil_good (no_loops (c := c42) (by kernel_rfl)) Tryd.func42 (by kernel_rfl) (by kernel_rfl) (fun _ => by kernel_rfl) ev42
noncomputable def G23 : Env := (envCons 41 [] E41 (envCons 42 [] E42 envNil))
noncomputable def c23 : Code := bodyOf Tryd.f23
noncomputable def L.toOp (a1 a2 a3 a4 a5 a6 a7 a8 a9 a10 a11 : Int) : Option (Int × Int × Int × Int × Int × Int × Int × Int × Int × Int × Int) :=
(Option.bind (L.toElem a2 a3 a4 a5) fun r12 =>
(Option.bind (L.toPunct a6 a7 a8 a9) fun r13 =>
(some (a1, r12.1, r12.2.1, r12.2.2.1, r12.2.2.2, r13.1, r13.2.1, r13.2.2.1, r13.2.2.2, a10, a11))))
noncomputable def sg23 : Sg := ⟨⟨[.agg (ho 11 [])], [], []⟩, (ki 11 []), ⟨[.agg (ho 11 [])], [], []⟩, (ki 11 [])⟩
noncomputable def E23 : Fun2 := eOf sg23 L.toOp
theorem ev23 (a : Args sg23.ks) : evS Tryd.prog G23 loopNil (0, 0) [] Tryd.f23 c23 (kOf sg23) (sg23.sk.fl (encP sg23.ks a)) = unc sg23.ks L.toOp a := by kernel_rfl
theorem good23 : Vm.Good Tryd.prog 23 E23 := good_gen (G := G23) (L := loopNil) (c := c23) (rn := []) (N := (0, 0)) (envCons_good good41 (envCons_good good42 envNil_good)) (no_loops (c := c23) (by kernel_rfl)) Tryd.func23 (by kernel_rfl) (by kernel_rfl) (fun _ => by kernel_rfl) ev23
noncomputable def G56 : Env := envNil
noncomputable def c56 : Code := bodyOf Tryd.f56
noncomputable def S.l04Src (a1 : Int) : Option Bool :=
(bif (decide (0 ≤ a1)) then
(some (decide (a1 < 4)))
else
(some false))
noncomputable def sg56 : Sg := ⟨⟨[hh], [], []⟩, [.int .i64], ⟨[hh], [], []⟩, [.bool]⟩
noncomputable def E56 : Fun2 := eOf sg56 S.l04Src
theorem ev56 (a : Args sg56.ks) : evS Tryd.prog G56 loopNil (0, 0) [] Tryd.f56 c56 (kOf sg56) (sg56.sk.fl (encP sg56.ks a)) = unc sg56.ks S.l04Src a := by kernel_rfl
theorem good56 : Vm.Good Tryd.prog 56 E56 := good_gen (G := G56) (L := loopNil) (c := c56) (rn := []) (N := (0, 0)) envNil_good (no_loops (c := c56) (by kernel_rfl)) Tryd.func56 (by kernel_rfl) (by kernel_rfl) (fun _ => by kernel_rfl) ev56
noncomputable def G73 : Env := envNil
noncomputable def c73 : Code := bodyOf Tryd.f73
noncomputable def S.l04Key (a1 : Int) : Option Bool :=
(bif (decide (0 ≤ a1)) then
(some (decide (a1 ≤ 15)))
else
(some false))
noncomputable def sg73 : Sg := ⟨⟨[hh], [], []⟩, [.int .i64], ⟨[hh], [], []⟩, [.bool]⟩
noncomputable def E73 : Fun2 := eOf sg73 S.l04Key
theorem ev73 (a : Args sg73.ks) : evS Tryd.prog G73 loopNil (0, 0) [] Tryd.f73 c73 (kOf sg73) (sg73.sk.fl (encP sg73.ks a)) = unc sg73.ks S.l04Key a := by kernel_rfl
theorem good73 : Vm.Good Tryd.prog 73 E73 := good_gen (G := G73) (L := loopNil) (c := c73) (rn := []) (N := (0, 0)) envNil_good (no_loops (c := c73) (by kernel_rfl)) Tryd.func73 (by kernel_rfl) (by kernel_rfl) (fun _ => by kernel_rfl) ev73
noncomputable def G57 : Env := envNil
noncomputable def c57 : Code := bodyOf Tryd.f57
noncomputable def S.l05Time (a1 : Int) : Option Bool :=
(bif (decide (0 ≤ a1)) then
(some (decide (a1 ≤ 1000)))
else
(some false))
noncomputable def sg57 : Sg := ⟨⟨[hh], [], []⟩, [.int .i64], ⟨[hh], [], []⟩, [.bool]⟩
noncomputable def E57 : Fun2 := eOf sg57 S.l05Time
theorem ev57 (a : Args sg57.ks) : evS Tryd.prog G57 loopNil (0, 0) [] Tryd.f57 c57 (kOf sg57) (sg57.sk.fl (encP sg57.ks a)) = unc sg57.ks S.l05Time a := by kernel_rfl
theorem good57 : Vm.Good Tryd.prog 57 E57 := good_gen (G := G57) (L := loopNil) (c := c57) (rn := []) (N := (0, 0)) envNil_good (no_loops (c := c57) (by kernel_rfl)) Tryd.func57 (by kernel_rfl) (by kernel_rfl) (fun _ => by kernel_rfl) ev57
noncomputable def G54 : Env := (envCons 56 [] E56 (envCons 73 [] E73 (envCons 57 [] E57 envNil)))
noncomputable def c54 : Code := bodyOf Tryd.f54
noncomputable def S.ElemOk (a1 a2 a3 a4 : Int) : Option Bool :=
(Option.bind (S.l04Src a1) fun r5 =>
(bif r5 then
(Option.bind (S.l04Key a2) fun r6 =>
(bif r6 then
(Option.bind (S.l05Time a4) fun r7 =>
(some r7))
else
(some false)))
else
(some false)))
noncomputable def sg54 : Sg := ⟨⟨[.agg (ho 4 [])], [], []⟩, (ki 4 []), ⟨[hh], [], []⟩, [.bool]⟩
noncomputable def E54 : Fun2 := eOf sg54 S.ElemOk
theorem ev54 (a : Args sg54.ks) : evS Tryd.prog G54 loopNil (0, 0) [] Tryd.f54 c54 (kOf sg54) (sg54.sk.fl (encP sg54.ks a)) = unc sg54.ks S.ElemOk a := by kernel_rfl
theorem good54 : Vm.Good Tryd.prog 54 E54 := good_gen (G := G54) (L := loopNil) (c := c54) (rn := []) (N := (0, 0)) (envCons_good good56 (envCons_good good73 (envCons_good good57 envNil_good))) (no_loops (c := c54) (by kernel_rfl)) Tryd.func54 (by kernel_rfl) (by kernel_rfl) (fun _ => by kernel_rfl) ev54
noncomputable def G74 : Env := envNil
noncomputable def c74 : Code := bodyOf Tryd.f74
noncomputable def S.l04Bits (a1 : Int) : Option Bool :=
(bif (decide (0 ≤ a1)) then
(some (decide (a1 ≤ 4)))
else
(some false))
noncomputable def sg74 : Sg := ⟨⟨[hh], [], []⟩, [.int .i64], ⟨[hh], [], []⟩, [.bool]⟩
noncomputable def E74 : Fun2 := eOf sg74 S.l04Bits
theorem ev74 (a : Args sg74.ks) : evS Tryd.prog G74 loopNil (0, 0) [] Tryd.f74 c74 (kOf sg74) (sg74.sk.fl (encP sg74.ks a)) = unc sg74.ks S.l04Bits a := by kernel_rfl
theorem good74 : Vm.Good Tryd.prog 74 E74 := good_gen (G := G74) (L := loopNil) (c := c74) (rn := []) (N := (0, 0)) envNil_good (no_loops (c := c74) (by kernel_rfl)) Tryd.func74 (by kernel_rfl) (by kernel_rfl) (fun _ => by kernel_rfl) ev74
noncomputable def G55 : Env := (envCons 56 [] E56 (envCons 74 [] E74 (envCons 73 [] E73 envNil)))
noncomputable def c55 : Code := bodyOf Tryd.f55
noncomputable def S.l11Punct (a1 a2 a3 a4 : Int) : Option Bool :=
(Option.bind (S.l04Src a1) fun r5 =>
(bif r5 then
(Option.bind (S.l04Bits a2) fun r6 =>
(bif r6 then
(Option.bind (S.l04Key a3) fun r7 =>
(bif r7 then
(bif (decide (0 ≤ a4)) then
(some (decide (a4 < 16)))
else
(some false))
else
(some false)))
else
(some false)))
else
(some false)))
noncomputable def sg55 : Sg := ⟨⟨[.agg (ho 4 [])], [], []⟩, (ki 4 []), ⟨[hh], [], []⟩, [.bool]⟩
noncomputable def E55 : Fun2 := eOf sg55 S.l11Punct
theorem ev55 (a : Args sg55.ks) : evS Tryd.prog G55 loopNil (0, 0) [] Tryd.f55 c55 (kOf sg55) (sg55.sk.fl (encP sg55.ks a)) = unc sg55.ks S.l11Punct a := by kernel_rfl
theorem good55 : Vm.Good Tryd.prog 55 E55 := good_gen (G := G55) (L := loopNil) (c := c55) (rn := []) (N := (0, 0)) (envCons_good good56 (envCons_good good74 (envCons_good good73 envNil_good))) (no_loops (c := c55) (by kernel_rfl)) Tryd.func55 (by kernel_rfl) (by kernel_rfl) (fun _ => by kernel_rfl) ev55
noncomputable def G58 : Env := envNil
noncomputable def c58 : Code := bodyOf Tryd.f58
noncomputable def S.l10Count (a1 : Int) : Option Bool :=
(bif (decide (0 ≤ a1)) then
(some (decide (a1 ≤ 1000000)))
else
(some false))
noncomputable def sg58 : Sg := ⟨⟨[hh], [], []⟩, [.int .i64], ⟨[hh], [], []⟩, [.bool]⟩
noncomputable def E58 : Fun2 := eOf sg58 S.l10Count
theorem ev58 (a : Args sg58.ks) : evS Tryd.prog G58 loopNil (0, 0) [] Tryd.f58 c58 (kOf sg58) (sg58.sk.fl (encP sg58.ks a)) = unc sg58.ks S.l10Count a := by kernel_rfl
theorem good58 : Vm.Good Tryd.prog 58 E58 := good_gen (G := G58) (L := loopNil) (c := c58) (rn := []) (N := (0, 0)) envNil_good (no_loops (c := c58) (by kernel_rfl)) Tryd.func58 (by kernel_rfl) (by kernel_rfl) (fun _ => by kernel_rfl) ev58
noncomputable def G38 : Env := (envCons 54 [] E54 (envCons 55 [] E55 (envCons 56 [] E56 (envCons 57 [] E57 (envCons 58 [] E58 envNil)))))
noncomputable def c38 : Code := bodyOf Tryd.f38
noncomputable def S.OpOk (a1 a2 a3 a4 a5 a6 a7 a8 a9 a10 a11 : Int) : Option Bool :=
(let v12 : Bool := ((a2 == 0) && ((a3 == 0) && ((a4 == 0) && ((a5 == 0) && true))))
(let v13 : Bool := ((a6 == 0) && ((a7 == 0) && ((a8 == 0) && ((a9 == 0) && true))))
(bif (a1 == 1) then
(Option.bind (S.ElemOk a2 a3 a4 a5) fun r14 =>
(bif r14 then
(bif v13 then
(bif (a10 == 0) then
(some (a11 == 0))
else
(some false))
else
(some false))
else
(some false)))
else
(bif (a1 == 2) then
(bif v12 then
(Option.bind (S.l11Punct a6 a7 a8 a9) fun r15 =>
(bif r15 then
(bif (a10 == 0) then
(bif (a11 == 0) then
(bif (a1 == 2) then
(some true)
else
(some (a9 == 0)))
else
(some false))
else
(some false))
else
(some false)))
else
(some false))
else
(bif (a1 == 3) then
(bif v12 then
(Option.bind (S.l11Punct a6 a7 a8 a9) fun r16 =>
(bif r16 then
(bif (a10 == 0) then
(bif (a11 == 0) then
(bif (a1 == 2) then
(some true)
else
(some (a9 == 0)))
else
(some false))
else
(some false))
else
(some false)))
else
(some false))
else
(bif (a1 == 4) then
(bif v12 then
(bif v13 then
(Option.bind (S.l04Src a10) fun r17 =>
(bif r17 then
(Option.bind (S.l05Time a11) fun r18 =>
(some r18))
else
(some false)))
else
(some false))
else
(some false))
else
(bif (a1 == 5) then
(bif v12 then
(bif v13 then
(Option.bind (S.l04Src a10) fun r19 =>
(bif r19 then
(some (a11 == 0))
else
(some false)))
else
(some false))
else
(some false))
else
(bif (a1 == 6) then
(bif v12 then
(bif v13 then
(Option.bind (S.l04Src a10) fun r20 =>
(bif r20 then
(some (a11 == 0))
else
(some false)))
else
(some false))
else
(some false))
else
(bif (a1 == 7) then
(bif v12 then
(bif v13 then
(bif (decide (0 ≤ a10)) then
(bif (decide (a10 < 4)) then
(Option.bind (S.l10Count a11) fun r23 =>
(some r23))
else
(some false))
else
(some false))
else
(some false))
else
(some false))
else
(bif (a1 == 8) then
(bif v12 then
(bif v13 then
(bif (decide (0 ≤ a10)) then
(bif (decide (a10 < 4)) then
(Option.bind (S.l10Count a11) fun r26 =>
(some r26))
else
(some false))
else
(some false))
else
(some false))
else
(some false))
else
(bif (a1 == 9) then
(bif v12 then
(bif v13 then
(bif (decide (0 ≤ a10)) then
(bif (decide (a10 < 4)) then
(Option.bind (S.l10Count a11) fun r29 =>
(some r29))
else
(some false))
else
(some false))
else
(some false))
else
(some false))
else
(some false))))))))))))
noncomputable def sg38 : Sg := ⟨⟨[.agg (ho 11 [])], [], []⟩, (ki 11 []), ⟨[hh], [], []⟩, [.bool]⟩
noncomputable def E38 : Fun2 := eOf sg38 S.OpOk
theorem ev38 (a : Args sg38.ks) : evS Tryd.prog G38 loopNil (0, 0) [] Tryd.f38 c38 (kOf sg38) (sg38.sk.fl (encP sg38.ks a)) = unc sg38.ks S.OpOk a := by kernel_rfl
theorem good38 : Vm.Good Tryd.prog 38 E38 := good_gen (G := G38) (L := loopNil) (c := c38) (rn := []) (N := (0, 0)) (envCons_good good54 (envCons_good good55 (envCons_good good56 (envCons_good good57 (envCons_good good58 envNil_good))))) (no_loops (c := c38) (by kernel_rfl)) Tryd.func38 (by kernel_rfl) (by kernel_rfl) (fun _ => by kernel_rfl) ev38
noncomputable def G39 : Env := envNil
noncomputable def c39 : Code := bodyOf Tryd.f39
noncomputable def S.l14Words  : Option (List ByteArray) :=
(some [lit1, lit2, lit3, lit4, lit5, lit6, lit7, lit8, lit9])
noncomputable def sg39 : Sg := ⟨⟨[], [], []⟩, [], ⟨[.one (.sl 0)], [], [(9, .str, .own)]⟩, [.row (.str)]⟩
noncomputable def E39 : Fun2 := eOf sg39 S.l14Words
theorem ev39 (a : Args sg39.ks) : evS Tryd.prog G39 loopNil (0, 0) [] Tryd.f39 c39 (kOf sg39) (sg39.sk.fl (encP sg39.ks a)) = unc sg39.ks S.l14Words a := by kernel_rfl
theorem good39 : Vm.Good Tryd.prog 39 E39 := good_gen (G := G39) (L := loopNil) (c := c39) (rn := []) (N := (0, 0)) envNil_good (no_loops (c := c39) (by kernel_rfl)) Tryd.func39 (by kernel_rfl) (by kernel_rfl) (fun _ => by kernel_rfl) ev39
noncomputable def G40 : Env := envNil
noncomputable def c40 : Code := bodyOf Tryd.f40
noncomputable def S.l14Fields (a1 a2 a3 a4 a5 a6 a7 a8 a9 a10 a11 : Int) : Option (List Int) :=
(bif (a1 == 1) then
(some [a2, a3, a4, a5])
else
(bif (a1 == 2) then
(some [a6, a7, a8, a9])
else
(bif (a1 == 3) then
(some [a6, a7, a8])
else
(bif (a1 == 5) then
(some [a10])
else
(bif (a1 == 6) then
(some [a10])
else
(some [a10, a11]))))))
noncomputable def sg40 : Sg := ⟨⟨[.agg (ho 11 [])], [], []⟩, (ki 11 []), ⟨[.one (.sl 0)], [], [(3, (.int .i64), .own)]⟩, [.row (.int .i64)]⟩
noncomputable def E40 : Fun2 := eOf sg40 S.l14Fields
theorem ev40 (a : Args sg40.ks) : evS Tryd.prog G40 loopNil (0, 0) [] Tryd.f40 c40 (kOf sg40) (sg40.sk.fl (encP sg40.ks a)) = unc sg40.ks S.l14Fields a := by kernel_rfl
theorem good40 : Vm.Good Tryd.prog 40 E40 := good_gen (G := G40) (L := loopNil) (c := c40) (rn := []) (N := (0, 0)) envNil_good (no_loops (c := c40) (by kernel_rfl)) Tryd.func40 (by kernel_rfl) (by kernel_rfl) (fun _ => by kernel_rfl) ev40
noncomputable def G49 : Env := envNil
noncomputable def c49 : Code := bodyOf Tryd.f49
noncomputable def S.WideOf (a1 : Int) : Option (Int × Int) :=
(bif (decide (a1 < 0)) then
(some ((-1), (IntKind.wrap .u64 a1)))
else
(some (0, (IntKind.wrap .u64 a1))))
noncomputable def sg49 : Sg := ⟨⟨[hh], [], []⟩, [.int .i64], ⟨[.agg (ho 2 [])], [], []⟩, [.int .i64, .int .u64]⟩
noncomputable def E49 : Fun2 := eOf sg49 S.WideOf
theorem ev49 (a : Args sg49.ks) : evS Tryd.prog G49 loopNil (0, 0) [] Tryd.f49 c49 (kOf sg49) (sg49.sk.fl (encP sg49.ks a)) = unc sg49.ks S.WideOf a := by kernel_rfl
theorem good49 : Vm.Good Tryd.prog 49 E49 := good_gen (G := G49) (L := loopNil) (c := c49) (rn := []) (N := (0, 0)) envNil_good (no_loops (c := c49) (by kernel_rfl)) Tryd.func49 (by kernel_rfl) (by kernel_rfl) (fun _ => by kernel_rfl) ev49
noncomputable def G70 : Env := envNil
noncomputable def c70 : Code := bodyOf Tryd.f70
noncomputable def c70_4 : Code := (loopsOf c70).getD 0 .skip
noncomputable def c70_10 : Code := (loopsOf c70).getD 1 .skip
noncomputable def S.l02Bits_l0 : Nat → (Int → Int → List Int → Option (List Int)) → Int → Int → Int → Int → List Int → Option (List Int)
  | 0, _, _, _, _, _, _ => none
  | m + 1, e4_0, a3, a4, a5, a6, a7 =>
    (bif (decide (a4 < 64)) then
    (bif decide (2 = 0) then
    none
    else
    (let v10 : Int := (IntKind.wrap .i64 (Int.tmod a3 2))
    (bif decide ((a7.length + [v10].length) * 8 ≤ 140737488355328) then
    (bif decide (2 = 0) then
    none
    else
    (S.l02Bits_l0 m e4_0 (IntKind.wrap .u64 (Int.tdiv a3 2)) (IntKind.wrap .i64 (a4 + 1)) a5 a6 (a7 ++ [v10])))
    else
    none)))
    else
    (e4_0 a5 a6 a7))
noncomputable def S.l02Bits_l1 : Nat → (List Int → Option (List Int)) → Int → Int → List Int → Option (List Int)
  | 0, _, _, _, _ => none
  | m + 1, e10_0, a17, a18, a19 =>
    (bif (decide (a18 < 64)) then
    (bif decide (2 = 0) then
    none
    else
    (let v22 : Int := (IntKind.wrap .i64 (Int.tmod a17 2))
    (bif decide ((a19.length + [v22].length) * 8 ≤ 140737488355328) then
    (bif decide (2 = 0) then
    none
    else
    (S.l02Bits_l1 m e10_0 (IntKind.wrap .u64 (Int.tdiv a17 2)) (IntKind.wrap .i64 (a18 + 1)) (a19 ++ [v22])))
    else
    none)))
    else
    (e10_0 a19))
noncomputable def S.l02Bits (a1 a2 : Int) : Option (List Int) :=
(S.l02Bits_l0 fu (fun y13 y14 y15 =>
(S.l02Bits_l1 fu (fun y25 =>
(some y25)) (IntKind.wrap .u64 y13) 0 y15)) a2 0 a1 a2 [])
noncomputable def H70_4 : LoopH := ⟨⟨((.one (.unk)) :: (.one (.ptr 0 0)) :: (.one (.unk)) :: (.one (.sl 0)) :: hh :: hh :: (hu 33 [])), [(93, (ho 2 []))], [(3, (.int .i64), .own)]⟩, ([0, 2] ++ rg 6 33), [], ([0] ++ rg 4 35), [], []⟩
noncomputable def k70_4 : List PK := ((.int .u64) :: (ki 2 [.int .u64, .row (.int .i64)]))
noncomputable def W70_4 (m : Nat) (k : Kont (List Int)) : Cur k70_4 (Option (List Int)) := S.l02Bits_l0 m (exF k (.exit 0) ⟨((.one (.unk)) :: (.one (.ptr 0 0)) :: (.one (.unk)) :: (.one (.sl 0)) :: (hu 35 [])), [(93, (ho 2 []))], [(3, (.int .i64), .own)]⟩ [.int .i64, .int .u64, .row (.int .i64)])
noncomputable def E70_4 (m : Nat) : List Prm → Kont (List Int) → Option (List Int) := eL k70_4 (W70_4 m)
theorem ev70_4 (m : Nat) (k : Kont (List Int)) (a : Args k70_4) : evL Tryd.prog G70 loopNil c70_4 (turn Tryd.prog (0, 0) H70_4 (E70_4 m) k) (H70_4.sk.fl (encP k70_4 a)) = unc k70_4 (W70_4 (m + 1) k) a := by kernel_rfl
theorem ok70_4 (m : Nat) : LoopOk Tryd.prog (0, 0) c70_4 (enter Tryd.prog (0, 0) H70_4 (E70_4 m)) := loop_gen (Fl := W70_4) (G := G70) (L := loopNil) envNil_good (no_loops (c := c70_4) (by kernel_rfl)) (fun _ _ => by kernel_rfl) ev70_4 m
noncomputable def H70_10 : LoopH := ⟨⟨(hu 3 ((.one (.sl 0)) :: (hu 2 (hh :: hh :: (hu 31 []))))), [], [(3, (.int .i64), .own)]⟩, ([0, 1, 2, 4, 5] ++ rg 8 31), [], ([0, 1] ++ rg 4 35), [], []⟩
noncomputable def k70_10 : List PK := [.int .u64, .int .i64, .row (.int .i64)]
noncomputable def W70_10 (m : Nat) (k : Kont (List Int)) : Cur k70_10 (Option (List Int)) := S.l02Bits_l1 m (exF k (.exit 2) ⟨(hu 3 ((.one (.sl 0)) :: (hu 35 []))), [], [(3, (.int .i64), .own)]⟩ [.row (.int .i64)])
noncomputable def E70_10 (m : Nat) : List Prm → Kont (List Int) → Option (List Int) := eL k70_10 (W70_10 m)
theorem ev70_10 (m : Nat) (k : Kont (List Int)) (a : Args k70_10) : evL Tryd.prog G70 loopNil c70_10 (turn Tryd.prog (0, 0) H70_10 (E70_10 m) k) (H70_10.sk.fl (encP k70_10 a)) = unc k70_10 (W70_10 (m + 1) k) a := by kernel_rfl
theorem ok70_10 (m : Nat) : LoopOk Tryd.prog (0, 0) c70_10 (enter Tryd.prog (0, 0) H70_10 (E70_10 m)) := loop_gen (Fl := W70_10) (G := G70) (L := loopNil) envNil_good (no_loops (c := c70_10) (by kernel_rfl)) (fun _ _ => by kernel_rfl) ev70_10 m
noncomputable def L70 : LEnv (List Int) := (loopCons 4 (enter Tryd.prog (0, 0) H70_4 (E70_4 fu)) (loopCons 10 (enter Tryd.prog (0, 0) H70_10 (E70_10 fu)) loopNil))
theorem lq70 : loopsOf c70 = [c70_4, c70_10] := by kernel_rfl
theorem fr70_4 : firstReg c70_4 = some 4 := by kernel_rfl
theorem le70_4 : L70 4 = enter Tryd.prog (0, 0) H70_4 (E70_4 fu) := by kernel_rfl
theorem fr70_10 : firstReg c70_10 = some 10 := by kernel_rfl
theorem le70_10 : L70 10 = enter Tryd.prog (0, 0) H70_10 (E70_10 fu) := by kernel_rfl
theorem lm70 : ∀ x ∈ [c70_4, c70_10], ∀ id, firstReg x = some id → LoopOk Tryd.prog (0, 0) x (L70 id) := (loops_cons fr70_4 le70_4 (ok70_4 fu) (loops_cons fr70_10 le70_10 (ok70_10 fu) loops_nil))
theorem lp70 : ∀ x ∈ loopsOf c70, ∀ id, firstReg x = some id → LoopOk Tryd.prog (0, 0) x (L70 id) := loops_eq lq70 lm70
noncomputable def sg70 : Sg := ⟨⟨[.agg (ho 2 [])], [], []⟩, [.int .i64, .int .u64], ⟨[.one (.sl 0)], [], [(3, (.int .i64), .own)]⟩, [.row (.int .i64)]⟩
noncomputable def E70 : Fun2 := eOf sg70 S.l02Bits
theorem ev70 (a : Args sg70.ks) : evS Tryd.prog G70 L70 (0, 0) [] Tryd.f70 c70 (kOf sg70) (sg70.sk.fl (encP sg70.ks a)) = unc sg70.ks S.l02Bits a := by kernel_rfl
theorem good70 : Vm.Good Tryd.prog 70 E70 := good_gen (G := G70) (L := L70) (c := c70) (rn := []) (N := (0, 0)) envNil_good lp70 Tryd.func70 (by kernel_rfl) (by kernel_rfl) (fun _ => by kernel_rfl) ev70
noncomputable def G81 : Env := envNil
noncomputable def c81 : Code := bodyOf Tryd.f81
noncomputable def S.WideAdd (a1 a2 a3 a4 : Int) : Option (Int × Int) :=
(let v5 : Int := (IntKind.wrap .u64 (a2 + a4))
(let v8 : Int := (IntKind.wrap .u64 ((IntKind.wrap .u64 a1) + (IntKind.wrap .u64 a3)))
(bif (decide (v5 < a2)) then
(some ((IntKind.wrap .i64 (IntKind.wrap .u64 (v8 + 1))), v5))
else
(some ((IntKind.wrap .i64 v8), v5)))))
noncomputable def sg81 : Sg := ⟨⟨[.agg (ho 2 []), .agg (ho 2 [])], [], []⟩, [.int .i64, .int .u64, .int .i64, .int .u64], ⟨[.agg (ho 2 [])], [], []⟩, [.int .i64, .int .u64]⟩
noncomputable def E81 : Fun2 := eOf sg81 S.WideAdd
theorem ev81 (a : Args sg81.ks) : evS Tryd.prog G81 loopNil (0, 0) [] Tryd.f81 c81 (kOf sg81) (sg81.sk.fl (encP sg81.ks a)) = unc sg81.ks S.WideAdd a := by kernel_rfl
theorem good81 : Vm.Good Tryd.prog 81 E81 := good_gen (G := G81) (L := loopNil) (c := c81) (rn := []) (N := (0, 0)) envNil_good (no_loops (c := c81) (by kernel_rfl)) Tryd.func81 (by kernel_rfl) (by kernel_rfl) (fun _ => by kernel_rfl) ev81
noncomputable def G71 : Env := (envCons 81 [] E81 envNil)
noncomputable def c71 : Code := bodyOf Tryd.f71
noncomputable def S.WideNeg (a1 a2 : Int) : Option (Int × Int) :=
(Option.bind (S.WideAdd (IntKind.wrap .i64 ((-1) - a1)) (IntKind.wrap .u64 (18446744073709551615 - a2)) 0 1) fun r5 =>
(some (r5.1, r5.2)))
noncomputable def sg71 : Sg := ⟨⟨[.agg (ho 2 [])], [], []⟩, [.int .i64, .int .u64], ⟨[.agg (ho 2 [])], [], []⟩, [.int .i64, .int .u64]⟩
noncomputable def E71 : Fun2 := eOf sg71 S.WideNeg
theorem ev71 (a : Args sg71.ks) : evS Tryd.prog G71 loopNil (0, 0) [] Tryd.f71 c71 (kOf sg71) (sg71.sk.fl (encP sg71.ks a)) = unc sg71.ks S.WideNeg a := by kernel_rfl
theorem good71 : Vm.Good Tryd.prog 71 E71 := good_gen (G := G71) (L := loopNil) (c := c71) (rn := []) (N := (0, 0)) (envCons_good good81 envNil_good) (no_loops (c := c71) (by kernel_rfl)) Tryd.func71 (by kernel_rfl) (by kernel_rfl) (fun _ => by kernel_rfl) ev71
noncomputable def G72 : Env := envNil
noncomputable def c72 : Code := bodyOf Tryd.f72
noncomputable def c72_4 : Code := (loopsOf c72).getD 0 .skip
noncomputable def S.l02Divide_l0 : Nat → (Int → List Int → Option (Int × List Int)) → Int → Int → Int → List Int → List Int → Option (Int × List Int)
  | 0, _, _, _, _, _, _ => none
  | m + 1, e4_0, a4, a5, a6, a7, a8 =>
    (bif (decide (0 ≤ a6)) then
    (bif decide ((0 : Int) ≤ a6 ∧ a6 < (a7.length : Int)) then
    (let v11 : Int := (IntKind.wrap .i64 ((IntKind.wrap .i64 (2 * a5)) + (nthI a7 a6 (0 : Int))))
    (bif (decide (a4 ≤ v11)) then
    (bif decide ((0 : Int) ≤ a6 ∧ a6 < (a8.length : Int)) then
    (S.l02Divide_l0 m e4_0 a4 (IntKind.wrap .i64 (v11 - a4)) (IntKind.wrap .i64 (a6 - 1)) a7 (a8.set (Int.toNat a6) 1))
    else
    none)
    else
    (S.l02Divide_l0 m e4_0 a4 v11 (IntKind.wrap .i64 (a6 - 1)) a7 a8)))
    else
    none)
    else
    (e4_0 a5 a8))
noncomputable def S.l02Divide (a1 : Int) (a2 : List Int) : Option (Int × List Int) :=
(bif decide ((0 : Int) ≤ 128 ∧ 128 ≤ 128 ∧ (8 : Int) * 128 ≤ 281474976710656 ∧ 128 ≤ 9223372036854775807) then
(S.l02Divide_l0 fu (fun y17 y18 =>
(some (y17, y18))) a1 0 127 a2 (List.replicate (Int.toNat 128) (0 : Int)))
else
none)
noncomputable def H72_4 : LoopH := ⟨⟨((.one (.sl 0)) :: hh :: (hu 4 ((.one (.sl 1)) :: hh :: hh :: (hu 23 [])))), [], [(3, (.int .i64), .ro), (3, (.int .i64), .own)]⟩, (rg 2 4 ++ rg 9 23), [], (rg 0 4 ++ rg 8 24), [], []⟩
noncomputable def k72_4 : List PK := (ki 3 [.row (.int .i64), .row (.int .i64)])
noncomputable def W72_4 (m : Nat) (k : Kont (Int × List Int)) : Cur k72_4 (Option (Int × List Int)) := S.l02Divide_l0 m (exF k (.exit 0) ⟨(hu 6 ((.one (.sl 0)) :: hh :: (hu 24 []))), [], [(3, (.int .i64), .own)]⟩ [.int .i64, .row (.int .i64)])
noncomputable def E72_4 (m : Nat) : List Prm → Kont (Int × List Int) → Option (Int × List Int) := eL k72_4 (W72_4 m)
theorem ev72_4 (m : Nat) (k : Kont (Int × List Int)) (a : Args k72_4) : evL Tryd.prog G72 loopNil c72_4 (turn Tryd.prog (0, 0) H72_4 (E72_4 m) k) (H72_4.sk.fl (encP k72_4 a)) = unc k72_4 (W72_4 (m + 1) k) a := by kernel_rfl
theorem ok72_4 (m : Nat) : LoopOk Tryd.prog (0, 0) c72_4 (enter Tryd.prog (0, 0) H72_4 (E72_4 m)) := loop_gen (Fl := W72_4) (G := G72) (L := loopNil) envNil_good (no_loops (c := c72_4) (by kernel_rfl)) (fun _ _ => by kernel_rfl) ev72_4 m
noncomputable def L72 : LEnv (Int × List Int) := (loopCons 4 (enter Tryd.prog (0, 0) H72_4 (E72_4 fu)) loopNil)
theorem lq72 : loopsOf c72 = [c72_4] := by kernel_rfl
theorem fr72_4 : firstReg c72_4 = some 4 := by kernel_rfl
theorem le72_4 : L72 4 = enter Tryd.prog (0, 0) H72_4 (E72_4 fu) := by kernel_rfl
theorem lm72 : ∀ x ∈ [c72_4], ∀ id, firstReg x = some id → LoopOk Tryd.prog (0, 0) x (L72 id) := (loops_cons fr72_4 le72_4 (ok72_4 fu) loops_nil)
theorem lp72 : ∀ x ∈ loopsOf c72, ∀ id, firstReg x = some id → LoopOk Tryd.prog (0, 0) x (L72 id) := loops_eq lq72 lm72
noncomputable def sg72 : Sg := ⟨⟨[.one (.sl 0), hh], [], [(3, (.int .i64), .ro)]⟩, [.int .i64, .row (.int .i64)], ⟨[.one (.sl 0), hh], [], [(3, (.int .i64), .own)]⟩, [.int .i64, .row (.int .i64)]⟩
noncomputable def E72 : Fun2 := eOf sg72 S.l02Divide
theorem ev72 (a : Args sg72.ks) : evS Tryd.prog G72 L72 (0, 0) [] Tryd.f72 c72 (kOf sg72) (sg72.sk.fl (encP sg72.ks a)) = unc sg72.ks S.l02Divide a := by kernel_rfl
theorem good72 : Vm.Good Tryd.prog 72 E72 := good_gen (G := G72) (L := L72) (c := c72) (rn := []) (N := (0, 0)) envNil_good lp72 Tryd.func72 (by kernel_rfl) (by kernel_rfl) (fun _ => by kernel_rfl) ev72
noncomputable def G48 : Env := (envCons 70 [] E70 (envCons 71 [] E71 (envCons 72 [] E72 envNil)))
noncomputable def c48 : Code := bodyOf Tryd.f48
noncomputable def c48_6 : Code := (loopsOf c48).getD 0 .skip
noncomputable def c48_12 : Code := (loopsOf c48_6).getD 0 .skip
noncomputable def S.WideText_l1 : Nat → (Bool → Int → Int → List Int → List Int → Option ByteArray) → Bool → Int → Int → Int → List Int → List Int → Option ByteArray
  | 0, _, _, _, _, _, _, _ => none
  | m + 1, e12_0, a15, a16, a17, a18, a19, a20 =>
    (bif (decide (a16 < 128)) then
    (bif a15 then
    (S.WideText_l1 m e12_0 true (IntKind.wrap .i64 (a16 + 1)) a17 a18 a19 a20)
    else
    (bif decide ((0 : Int) ≤ a16 ∧ a16 < (a19.length : Int)) then
    (S.WideText_l1 m e12_0 ((nthI a19 a16 (0 : Int)) == 1) (IntKind.wrap .i64 (a16 + 1)) a17 a18 a19 a20)
    else
    none))
    else
    (e12_0 a15 a17 a18 a19 a20))
noncomputable def S.WideText_l0 : Nat → (Int → Int → List Int → Option ByteArray) → Bool → Int → Int → List Int → List Int → Option ByteArray
  | 0, _, _, _, _, _, _ => none
  | m + 1, e6_0, a7, a8, a9, a10, a11 =>
    (bif a7 then
    (Option.bind (S.l02Divide 10 a10) fun r12 =>
    (let v14 : Int := (IntKind.wrap .u8 (IntKind.wrap .i64 (48 + r12.1)))
    (bif decide (([v14].length + a11.length) * 1 ≤ 140737488355328) then
    (S.WideText_l1 fu (fun y25 y26 y27 y28 y29 =>
    (S.WideText_l0 m e6_0 y25 y26 y27 y28 y29)) false 0 a8 a9 r12.2 ([v14] ++ a11))
    else
    none)))
    else
    (e6_0 a8 a9 a11))
noncomputable def S.WideText (a1 a2 : Int) : Option ByteArray :=
(Option.bind (S.l02Bits a1 a2) fun r3 =>
(bif (decide (a1 < 0)) then
(Option.bind (S.WideNeg a1 a2) fun r5 =>
(Option.bind (S.l02Bits r5.1 r5.2) fun r6 =>
(S.WideText_l0 fu (fun y30 y31 y32 =>
(bif (decide (y30 < 0)) then
(bif decide (([45].length + y32.length) * 1 ≤ 140737488355328) then
(some (strOfNums ([45] ++ y32)))
else
none)
else
(some (strOfNums y32)))) true a1 a2 r6 [])))
else
(S.WideText_l0 fu (fun y36 y37 y38 =>
(bif (decide (y36 < 0)) then
(bif decide (([45].length + y38.length) * 1 ≤ 140737488355328) then
(some (strOfNums ([45] ++ y38)))
else
none)
else
(some (strOfNums y38)))) true a1 a2 r3 [])))
noncomputable def H48_12 : LoopH := ⟨⟨((.one (.unk)) :: (.one (.ptr 0 0)) :: (.one (.unk)) :: (.one (.sl 0)) :: (.one (.sl 1)) :: hh :: (hu 2 (hh :: (hu 42 [])))), [(93, (ho 2 []))], [(3, (.int .i64), .own), (5, (.int .u8), .own)]⟩, ([0, 2, 6, 7] ++ rg 9 42), [], ([0] ++ rg 6 45), [], []⟩
noncomputable def k48_12 : List PK := ((.bool) :: (ki 2 [.int .u64, .row (.int .i64), .row (.int .u8)]))
noncomputable def W48_12 (m : Nat) (k : Kont ByteArray) : Cur k48_12 (Option ByteArray) := S.WideText_l1 m (exF k (.exit 2) ⟨((.one (.unk)) :: (.one (.ptr 0 0)) :: (.one (.unk)) :: (.one (.sl 0)) :: (.one (.sl 1)) :: hh :: (hu 45 [])), [(93, (ho 2 []))], [(3, (.int .i64), .own), (5, (.int .u8), .own)]⟩ [.bool, .int .i64, .int .u64, .row (.int .i64), .row (.int .u8)])
noncomputable def E48_12 (m : Nat) : List Prm → Kont ByteArray → Option ByteArray := eL k48_12 (W48_12 m)
theorem ev48_12 (m : Nat) (k : Kont ByteArray) (a : Args k48_12) : evL Tryd.prog G48 loopNil c48_12 (turn Tryd.prog (0, 0) H48_12 (E48_12 m) k) (H48_12.sk.fl (encP k48_12 a)) = unc k48_12 (W48_12 (m + 1) k) a := by kernel_rfl
theorem ok48_12 (m : Nat) : LoopOk Tryd.prog (0, 0) c48_12 (enter Tryd.prog (0, 0) H48_12 (E48_12 m)) := loop_gen (Fl := W48_12) (G := G48) (L := loopNil) (envCons_good good70 (envCons_good good71 (envCons_good good72 envNil_good))) (no_loops (c := c48_12) (by kernel_rfl)) (fun _ _ => by kernel_rfl) ev48_12 m
noncomputable def L48_6 : LEnv ByteArray := (loopCons 12 (enter Tryd.prog (0, 0) H48_12 (E48_12 fu)) loopNil)
theorem lq48_6 : loopsOf c48_6 = [c48_12] := by kernel_rfl
theorem fr48_12 : firstReg c48_12 = some 12 := by kernel_rfl
theorem le48_12 : L48_6 12 = enter Tryd.prog (0, 0) H48_12 (E48_12 fu) := by kernel_rfl
theorem lm48_6 : ∀ x ∈ [c48_12], ∀ id, firstReg x = some id → LoopOk Tryd.prog (0, 0) x (L48_6 id) := (loops_cons fr48_12 le48_12 (ok48_12 fu) loops_nil)
theorem lp48_6 : ∀ x ∈ loopsOf c48_6, ∀ id, firstReg x = some id → LoopOk Tryd.prog (0, 0) x (L48_6 id) := loops_eq lq48_6 lm48_6
noncomputable def H48_6 : LoopH := ⟨⟨((.one (.unk)) :: (.one (.ptr 0 0)) :: (.one (.unk)) :: (.one (.sl 0)) :: (.one (.sl 1)) :: hh :: (hu 45 [])), [(93, (ho 2 []))], [(3, (.int .i64), .own), (5, (.int .u8), .own)]⟩, ([0, 2] ++ rg 6 45), [], ([0, 3] ++ rg 5 46), [], []⟩
noncomputable def k48_6 : List PK := [.bool, .int .i64, .int .u64, .row (.int .i64), .row (.int .u8)]
noncomputable def W48_6 (m : Nat) (k : Kont ByteArray) : Cur k48_6 (Option ByteArray) := S.WideText_l0 m (exF k (.exit 0) ⟨((.one (.unk)) :: (.one (.ptr 0 0)) :: (hu 2 ((.one (.sl 0)) :: (hu 46 [])))), [(93, (ho 2 []))], [(5, (.int .u8), .own)]⟩ [.int .i64, .int .u64, .row (.int .u8)])
noncomputable def E48_6 (m : Nat) : List Prm → Kont ByteArray → Option ByteArray := eL k48_6 (W48_6 m)
theorem ev48_6 (m : Nat) (k : Kont ByteArray) (a : Args k48_6) : evL Tryd.prog G48 L48_6 c48_6 (turn Tryd.prog (0, 0) H48_6 (E48_6 m) k) (H48_6.sk.fl (encP k48_6 a)) = unc k48_6 (W48_6 (m + 1) k) a := by kernel_rfl
theorem ok48_6 (m : Nat) : LoopOk Tryd.prog (0, 0) c48_6 (enter Tryd.prog (0, 0) H48_6 (E48_6 m)) := loop_gen (Fl := W48_6) (G := G48) (L := L48_6) (envCons_good good70 (envCons_good good71 (envCons_good good72 envNil_good))) lp48_6 (fun _ _ => by kernel_rfl) ev48_6 m
noncomputable def L48 : LEnv ByteArray := (loopCons 6 (enter Tryd.prog (0, 0) H48_6 (E48_6 fu)) loopNil)
theorem lq48 : loopsOf c48 = [c48_6] := by kernel_rfl
theorem fr48_6 : firstReg c48_6 = some 6 := by kernel_rfl
theorem le48_6 : L48 6 = enter Tryd.prog (0, 0) H48_6 (E48_6 fu) := by kernel_rfl
theorem lm48 : ∀ x ∈ [c48_6], ∀ id, firstReg x = some id → LoopOk Tryd.prog (0, 0) x (L48 id) := (loops_cons fr48_6 le48_6 (ok48_6 fu) loops_nil)
theorem lp48 : ∀ x ∈ loopsOf c48, ∀ id, firstReg x = some id → LoopOk Tryd.prog (0, 0) x (L48 id) := loops_eq lq48 lm48
noncomputable def sg48 : Sg := ⟨⟨[.agg (ho 2 [])], [], []⟩, [.int .i64, .int .u64], ⟨[hh], [], []⟩, [.str]⟩
noncomputable def E48 : Fun2 := eOf sg48 S.WideText
theorem ev48 (a : Args sg48.ks) : evS Tryd.prog G48 L48 (0, 0) [] Tryd.f48 c48 (kOf sg48) (sg48.sk.fl (encP sg48.ks a)) = unc sg48.ks S.WideText a := by kernel_rfl
theorem good48 : Vm.Good Tryd.prog 48 E48 := good_gen (G := G48) (L := L48) (c := c48) (rn := []) (N := (0, 0)) (envCons_good good70 (envCons_good good71 (envCons_good good72 envNil_good))) lp48 Tryd.func48 (by kernel_rfl) (by kernel_rfl) (fun _ => by kernel_rfl) ev48
noncomputable def G32 : Env := (envCons 49 [] E49 (envCons 48 [] E48 envNil))
noncomputable def c32 : Code := bodyOf Tryd.f32
noncomputable def S.l03Num (a1 : Int) : Option ByteArray :=
(Option.bind (S.WideOf a1) fun r2 =>
(Option.bind (S.WideText r2.1 r2.2) fun r3 =>
(some r3)))
noncomputable def sg32 : Sg := ⟨⟨[hh], [], []⟩, [.int .i64], ⟨[hh], [], []⟩, [.str]⟩
noncomputable def E32 : Fun2 := eOf sg32 S.l03Num
theorem ev32 (a : Args sg32.ks) : evS Tryd.prog G32 loopNil (0, 0) [] Tryd.f32 c32 (kOf sg32) (sg32.sk.fl (encP sg32.ks a)) = unc sg32.ks S.l03Num a := by kernel_rfl
theorem good32 : Vm.Good Tryd.prog 32 E32 := good_gen (G := G32) (L := loopNil) (c := c32) (rn := []) (N := (0, 0)) (envCons_good good49 (envCons_good good48 envNil_good)) (no_loops (c := c32) (by kernel_rfl)) Tryd.func32 (by kernel_rfl) (by kernel_rfl) (fun _ => by kernel_rfl) ev32
noncomputable def G26 : Env := (envCons 32 [] E32 envNil)
noncomputable def c26 : Code := bodyOf Tryd.f26
noncomputable def c26_3 : Code := (loopsOf c26).getD 0 .skip
noncomputable def S.l14Join_l0 : Nat → (ByteArray → Option ByteArray) → ByteArray → ByteArray → Int → List Int → Option ByteArray
  | 0, _, _, _, _, _ => none
  | m + 1, e3_0, a3, a4, a5, a6 =>
    (bif (decide (a5 < (a6.length : Int))) then
    (bif (decide (0 < a5)) then
    (bif decide (((a4.size + a3.size : Nat) : Int) ≤ IntKind.max .i64) then
    (bif decide ((0 : Int) ≤ a5 ∧ a5 < (a6.length : Int)) then
    (Option.bind (S.l03Num (nthI a6 a5 (0 : Int))) fun r10 =>
    (bif decide ((((a4 ++ a3).size + r10.size : Nat) : Int) ≤ IntKind.max .i64) then
    (S.l14Join_l0 m e3_0 a3 ((a4 ++ a3) ++ r10) (IntKind.wrap .i64 (a5 + 1)) a6)
    else
    none))
    else
    none)
    else
    none)
    else
    (bif decide ((0 : Int) ≤ a5 ∧ a5 < (a6.length : Int)) then
    (Option.bind (S.l03Num (nthI a6 a5 (0 : Int))) fun r13 =>
    (bif decide (((a4.size + r13.size : Nat) : Int) ≤ IntKind.max .i64) then
    (S.l14Join_l0 m e3_0 a3 (a4 ++ r13) (IntKind.wrap .i64 (a5 + 1)) a6)
    else
    none))
    else
    none))
    else
    (e3_0 a4))
noncomputable def S.l14Join (a1 : ByteArray) (a2 : List Int) : Option ByteArray :=
(S.l14Join_l0 fu (fun y15 =>
(some y15)) a1 lit0 0 a2)
noncomputable def H26_3 : LoopH := ⟨⟨((.one (.sl 0)) :: hh :: (hu 3 (hh :: hh :: (hu 19 [])))), [], [(3, (.int .i64), .ro)]⟩, ([2, 3, 4] ++ rg 7 19), [], (rg 0 4 ++ rg 6 20), [], []⟩
noncomputable def k26_3 : List PK := [.str, .str, .int .i64, .row (.int .i64)]
noncomputable def W26_3 (m : Nat) (k : Kont ByteArray) : Cur k26_3 (Option ByteArray) := S.l14Join_l0 m (exF k (.exit 0) ⟨(hu 5 (hh :: (hu 20 []))), [], []⟩ [.str])
noncomputable def E26_3 (m : Nat) : List Prm → Kont ByteArray → Option ByteArray := eL k26_3 (W26_3 m)
theorem ev26_3 (m : Nat) (k : Kont ByteArray) (a : Args k26_3) : evL Tryd.prog G26 loopNil c26_3 (turn Tryd.prog (0, 0) H26_3 (E26_3 m) k) (H26_3.sk.fl (encP k26_3 a)) = unc k26_3 (W26_3 (m + 1) k) a := by kernel_rfl
theorem ok26_3 (m : Nat) : LoopOk Tryd.prog (0, 0) c26_3 (enter Tryd.prog (0, 0) H26_3 (E26_3 m)) := loop_gen (Fl := W26_3) (G := G26) (L := loopNil) (envCons_good good32 envNil_good) (no_loops (c := c26_3) (by kernel_rfl)) (fun _ _ => by kernel_rfl) ev26_3 m
noncomputable def L26 : LEnv ByteArray := (loopCons 3 (enter Tryd.prog (0, 0) H26_3 (E26_3 fu)) loopNil)
theorem lq26 : loopsOf c26 = [c26_3] := by kernel_rfl
theorem fr26_3 : firstReg c26_3 = some 3 := by kernel_rfl
theorem le26_3 : L26 3 = enter Tryd.prog (0, 0) H26_3 (E26_3 fu) := by kernel_rfl
theorem lm26 : ∀ x ∈ [c26_3], ∀ id, firstReg x = some id → LoopOk Tryd.prog (0, 0) x (L26 id) := (loops_cons fr26_3 le26_3 (ok26_3 fu) loops_nil)
theorem lp26 : ∀ x ∈ loopsOf c26, ∀ id, firstReg x = some id → LoopOk Tryd.prog (0, 0) x (L26 id) := loops_eq lq26 lm26
noncomputable def sg26 : Sg := ⟨⟨[.one (.sl 0), hh], [], [(3, (.int .i64), .ro)]⟩, [.str, .row (.int .i64)], ⟨[hh], [], []⟩, [.str]⟩
noncomputable def E26 : Fun2 := eOf sg26 S.l14Join
theorem ev26 (a : Args sg26.ks) : evS Tryd.prog G26 L26 (0, 0) [] Tryd.f26 c26 (kOf sg26) (sg26.sk.fl (encP sg26.ks a)) = unc sg26.ks S.l14Join a := by kernel_rfl
theorem good26 : Vm.Good Tryd.prog 26 E26 := good_gen (G := G26) (L := L26) (c := c26) (rn := []) (N := (0, 0)) (envCons_good good32 envNil_good) lp26 Tryd.func26 (by kernel_rfl) (by kernel_rfl) (fun _ => by kernel_rfl) ev26
noncomputable def G22 : Env := (envCons 38 [] E38 (envCons 39 [] E39 (envCons 40 [] E40 (envCons 26 [] E26 envNil))))
noncomputable def c22 : Code := bodyOf Tryd.f22
noncomputable def S.OpText (a1 a2 a3 a4 a5 a6 a7 a8 a9 a10 a11 : Int) : Option ByteArray :=
(Option.bind (S.OpOk a1 a2 a3 a4 a5 a6 a7 a8 a9 a10 a11) fun r12 =>
(bif (!r12) then
(some lit0)
else
(let v13 : Int := (IntKind.wrap .i64 (a1 - 1))
(Option.bind (S.l14Words) fun r14 =>
(bif decide ((0 : Int) ≤ v13 ∧ v13 < (r14.length : Int)) then
(bif decide ((((nthI r14 v13 ByteArray.empty).size + lit10.size : Nat) : Int) ≤ IntKind.max .i64) then
(let v15 : ByteArray := ((nthI r14 v13 ByteArray.empty) ++ lit10)
(Option.bind (S.l14Fields a1 a2 a3 a4 a5 a6 a7 a8 a9 a10 a11) fun r16 =>
(Option.bind (S.l14Join lit10 r16) fun r17 =>
(bif decide (((v15.size + r17.size : Nat) : Int) ≤ IntKind.max .i64) then
(some (v15 ++ r17))
else
none))))
else
none)
else
none)))))
noncomputable def sg22 : Sg := ⟨⟨[.agg (ho 11 [])], [], []⟩, (ki 11 []), ⟨[hh], [], []⟩, [.str]⟩
noncomputable def E22 : Fun2 := eOf sg22 S.OpText
theorem ev22 (a : Args sg22.ks) : evS Tryd.prog G22 loopNil (0, 0) [] Tryd.f22 c22 (kOf sg22) (sg22.sk.fl (encP sg22.ks a)) = unc sg22.ks S.OpText a := by kernel_rfl
theorem good22 : Vm.Good Tryd.prog 22 E22 := good_gen (G := G22) (L := loopNil) (c := c22) (rn := []) (N := (0, 0)) (envCons_good good38 (envCons_good good39 (envCons_good good40 (envCons_good good26 envNil_good)))) (no_loops (c := c22) (by kernel_rfl)) Tryd.func22 (by kernel_rfl) (by kernel_rfl) (fun _ => by kernel_rfl) ev22
noncomputable def G61 : Env := envNil
noncomputable def c61 : Code := bodyOf Tryd.f61
noncomputable def I.in (a1 a2 a3 : Int) : Option Bool :=
(bif (decide (a2 ≤ a1)) then
(some (decide (a1 ≤ a3)))
else
(some false))
noncomputable def sg61 : Sg := ⟨⟨[hh, hh, hh], [], []⟩, (ki 3 []), ⟨[hh], [], []⟩, [.bool]⟩
noncomputable def E61 : Fun2 := eOf sg61 I.in
theorem ev61 (a : Args sg61.ks) : evS Tryd.prog G61 loopNil (0, 0) [] Tryd.f61 c61 (kOf sg61) (sg61.sk.fl (encP sg61.ks a)) = unc sg61.ks I.in a := by kernel_rfl
theorem good61 : Vm.Good Tryd.prog 61 E61 := good_gen (G := G61) (L := loopNil) (c := c61) (rn := []) (N := (0, 0)) envNil_good (no_loops (c := c61) (by kernel_rfl)) Tryd.func61 (by kernel_rfl) (by kernel_rfl) (fun _ => by kernel_rfl) ev61
noncomputable def G62 : Env := (envCons 61 [] E61 envNil)
noncomputable def c62 : Code := bodyOf Tryd.f62
noncomputable def I.isSource (a1 : Int) : Option Bool :=
(Option.bind (I.in a1 0 3) fun r2 =>
(some r2))
noncomputable def sg62 : Sg := ⟨⟨[hh], [], []⟩, [.int .i64], ⟨[hh], [], []⟩, [.bool]⟩
noncomputable def E62 : Fun2 := eOf sg62 I.isSource
theorem ev62 (a : Args sg62.ks) : evS Tryd.prog G62 loopNil (0, 0) [] Tryd.f62 c62 (kOf sg62) (sg62.sk.fl (encP sg62.ks a)) = unc sg62.ks I.isSource a := by kernel_rfl
theorem good62 : Vm.Good Tryd.prog 62 E62 := good_gen (G := G62) (L := loopNil) (c := c62) (rn := []) (N := (0, 0)) (envCons_good good61 envNil_good) (no_loops (c := c62) (by kernel_rfl)) Tryd.func62 (by kernel_rfl) (by kernel_rfl) (fun _ => by kernel_rfl) ev62
noncomputable def G75 : Env := (envCons 61 [] E61 envNil)
noncomputable def c75 : Code := bodyOf Tryd.f75
noncomputable def I.isKey (a1 : Int) : Option Bool :=
(Option.bind (I.in a1 0 15) fun r2 =>
(some r2))
noncomputable def sg75 : Sg := ⟨⟨[hh], [], []⟩, [.int .i64], ⟨[hh], [], []⟩, [.bool]⟩
noncomputable def E75 : Fun2 := eOf sg75 I.isKey
theorem ev75 (a : Args sg75.ks) : evS Tryd.prog G75 loopNil (0, 0) [] Tryd.f75 c75 (kOf sg75) (sg75.sk.fl (encP sg75.ks a)) = unc sg75.ks I.isKey a := by kernel_rfl
theorem good75 : Vm.Good Tryd.prog 75 E75 := good_gen (G := G75) (L := loopNil) (c := c75) (rn := []) (N := (0, 0)) (envCons_good good61 envNil_good) (no_loops (c := c75) (by kernel_rfl)) Tryd.func75 (by kernel_rfl) (by kernel_rfl) (fun _ => by kernel_rfl) ev75
noncomputable def G63 : Env := (envCons 61 [] E61 envNil)
noncomputable def c63 : Code := bodyOf Tryd.f63
noncomputable def I.isTime (a1 : Int) : Option Bool :=
(Option.bind (I.in a1 0 1000) fun r2 =>
(some r2))
noncomputable def sg63 : Sg := ⟨⟨[hh], [], []⟩, [.int .i64], ⟨[hh], [], []⟩, [.bool]⟩
noncomputable def E63 : Fun2 := eOf sg63 I.isTime
theorem ev63 (a : Args sg63.ks) : evS Tryd.prog G63 loopNil (0, 0) [] Tryd.f63 c63 (kOf sg63) (sg63.sk.fl (encP sg63.ks a)) = unc sg63.ks I.isTime a := by kernel_rfl
theorem good63 : Vm.Good Tryd.prog 63 E63 := good_gen (G := G63) (L := loopNil) (c := c63) (rn := []) (N := (0, 0)) (envCons_good good61 envNil_good) (no_loops (c := c63) (by kernel_rfl)) Tryd.func63 (by kernel_rfl) (by kernel_rfl) (fun _ => by kernel_rfl) ev63
noncomputable def G59 : Env := (envCons 62 [] E62 (envCons 75 [] E75 (envCons 63 [] E63 envNil)))
noncomputable def c59 : Code := bodyOf Tryd.f59
noncomputable def I.isElem (a1 a2 a3 a4 : Int) : Option Bool :=
(Option.bind (I.isSource a1) fun r5 =>
(bif r5 then
(Option.bind (I.isKey a2) fun r6 =>
(bif r6 then
(Option.bind (I.isTime a4) fun r7 =>
(some r7))
else
(some false)))
else
(some false)))
noncomputable def sg59 : Sg := ⟨⟨[.agg (ho 4 [])], [], []⟩, (ki 4 []), ⟨[hh], [], []⟩, [.bool]⟩
noncomputable def E59 : Fun2 := eOf sg59 I.isElem
theorem ev59 (a : Args sg59.ks) : evS Tryd.prog G59 loopNil (0, 0) [] Tryd.f59 c59 (kOf sg59) (sg59.sk.fl (encP sg59.ks a)) = unc sg59.ks I.isElem a := by kernel_rfl
theorem good59 : Vm.Good Tryd.prog 59 E59 := good_gen (G := G59) (L := loopNil) (c := c59) (rn := []) (N := (0, 0)) (envCons_good good62 (envCons_good good75 (envCons_good good63 envNil_good))) (no_loops (c := c59) (by kernel_rfl)) Tryd.func59 (by kernel_rfl) (by kernel_rfl) (fun _ => by kernel_rfl) ev59
noncomputable def G60 : Env := (envCons 62 [] E62 (envCons 61 [] E61 (envCons 75 [] E75 envNil)))
noncomputable def c60 : Code := bodyOf Tryd.f60
noncomputable def I.Punct_isPlace (a1 a2 a3 a4 : Int) : Option Bool :=
(Option.bind (I.isSource a1) fun r5 =>
(bif r5 then
(Option.bind (I.in a2 0 4) fun r6 =>
(bif r6 then
(Option.bind (I.isKey a3) fun r7 =>
(some r7))
else
(some false)))
else
(some false)))
noncomputable def sg60 : Sg := ⟨⟨[.agg (ho 4 [])], [], []⟩, (ki 4 []), ⟨[hh], [], []⟩, [.bool]⟩
noncomputable def E60 : Fun2 := eOf sg60 I.Punct_isPlace
theorem ev60 (a : Args sg60.ks) : evS Tryd.prog G60 loopNil (0, 0) [] Tryd.f60 c60 (kOf sg60) (sg60.sk.fl (encP sg60.ks a)) = unc sg60.ks I.Punct_isPlace a := by kernel_rfl
theorem good60 : Vm.Good Tryd.prog 60 E60 := good_gen (G := G60) (L := loopNil) (c := c60) (rn := []) (N := (0, 0)) (envCons_good good62 (envCons_good good61 (envCons_good good75 envNil_good))) (no_loops (c := c60) (by kernel_rfl)) Tryd.func60 (by kernel_rfl) (by kernel_rfl) (fun _ => by kernel_rfl) ev60
noncomputable def G43 : Env := (envCons 59 [] E59 (envCons 60 [] E60 (envCons 61 [] E61 (envCons 62 [] E62 (envCons 63 [] E63 envNil)))))
noncomputable def c43 : Code := bodyOf Tryd.f43
noncomputable def I.isOp (a1 a2 a3 a4 a5 a6 a7 a8 a9 a10 a11 : Int) : Option Bool :=
(bif (a1 == 1) then
(let v12 : Bool := ((a1 == a1) && (((a2 == a2) && ((a3 == a3) && ((a4 == a4) && ((a5 == a5) && true)))) && (((a6 == 0) && ((a7 == 0) && ((a8 == 0) && ((a9 == 0) && true)))) && ((a10 == 0) && ((a11 == 0) && true)))))
(bif v12 then
(Option.bind (I.isElem a2 a3 a4 a5) fun r13 =>
(some r13))
else
(some false)))
else
(bif (a1 == 2) then
(let v14 : Bool := ((a1 == a1) && (((a2 == 0) && ((a3 == 0) && ((a4 == 0) && ((a5 == 0) && true)))) && (((a6 == a6) && ((a7 == a7) && ((a8 == a8) && ((a9 == a9) && true)))) && ((a10 == 0) && ((a11 == 0) && true)))))
(bif v14 then
(Option.bind (I.Punct_isPlace a6 a7 a8 a9) fun r15 =>
(bif r15 then
(Option.bind (I.in a9 0 15) fun r16 =>
(bif r16 then
(bif (a1 == 2) then
(some true)
else
(some (a9 == 0)))
else
(some false)))
else
(some false)))
else
(some false)))
else
(bif (a1 == 3) then
(let v17 : Bool := ((a1 == a1) && (((a2 == 0) && ((a3 == 0) && ((a4 == 0) && ((a5 == 0) && true)))) && (((a6 == a6) && ((a7 == a7) && ((a8 == a8) && ((a9 == a9) && true)))) && ((a10 == 0) && ((a11 == 0) && true)))))
(bif v17 then
(Option.bind (I.Punct_isPlace a6 a7 a8 a9) fun r18 =>
(bif r18 then
(Option.bind (I.in a9 0 15) fun r19 =>
(bif r19 then
(bif (a1 == 2) then
(some true)
else
(some (a9 == 0)))
else
(some false)))
else
(some false)))
else
(some false)))
else
(bif (a1 == 4) then
(let v20 : Bool := ((a1 == a1) && (((a2 == 0) && ((a3 == 0) && ((a4 == 0) && ((a5 == 0) && true)))) && (((a6 == 0) && ((a7 == 0) && ((a8 == 0) && ((a9 == 0) && true)))) && ((a10 == a10) && ((a11 == a11) && true)))))
(bif v20 then
(Option.bind (I.isSource a10) fun r21 =>
(bif r21 then
(Option.bind (I.isTime a11) fun r22 =>
(some r22))
else
(some false)))
else
(some false)))
else
(bif (a1 == 5) then
(let v23 : Bool := ((a1 == a1) && (((a2 == 0) && ((a3 == 0) && ((a4 == 0) && ((a5 == 0) && true)))) && (((a6 == 0) && ((a7 == 0) && ((a8 == 0) && ((a9 == 0) && true)))) && ((a10 == a10) && ((a11 == 0) && true)))))
(bif v23 then
(Option.bind (I.isSource a10) fun r24 =>
(some r24))
else
(some false)))
else
(bif (a1 == 6) then
(let v25 : Bool := ((a1 == a1) && (((a2 == 0) && ((a3 == 0) && ((a4 == 0) && ((a5 == 0) && true)))) && (((a6 == 0) && ((a7 == 0) && ((a8 == 0) && ((a9 == 0) && true)))) && ((a10 == a10) && ((a11 == 0) && true)))))
(bif v25 then
(Option.bind (I.isSource a10) fun r26 =>
(some r26))
else
(some false)))
else
(bif (a1 == 7) then
(let v27 : Bool := ((a1 == a1) && (((a2 == 0) && ((a3 == 0) && ((a4 == 0) && ((a5 == 0) && true)))) && (((a6 == 0) && ((a7 == 0) && ((a8 == 0) && ((a9 == 0) && true)))) && ((a10 == a10) && ((a11 == a11) && true)))))
(bif v27 then
(Option.bind (I.in a10 0 3) fun r28 =>
(bif r28 then
(Option.bind (I.in a11 0 1000000) fun r29 =>
(some r29))
else
(some false)))
else
(some false)))
else
(bif (a1 == 8) then
(let v30 : Bool := ((a1 == a1) && (((a2 == 0) && ((a3 == 0) && ((a4 == 0) && ((a5 == 0) && true)))) && (((a6 == 0) && ((a7 == 0) && ((a8 == 0) && ((a9 == 0) && true)))) && ((a10 == a10) && ((a11 == a11) && true)))))
(bif v30 then
(Option.bind (I.in a10 0 3) fun r31 =>
(bif r31 then
(Option.bind (I.in a11 0 1000000) fun r32 =>
(some r32))
else
(some false)))
else
(some false)))
else
(bif (a1 == 9) then
(let v33 : Bool := ((a1 == a1) && (((a2 == 0) && ((a3 == 0) && ((a4 == 0) && ((a5 == 0) && true)))) && (((a6 == 0) && ((a7 == 0) && ((a8 == 0) && ((a9 == 0) && true)))) && ((a10 == a10) && ((a11 == a11) && true)))))
(bif v33 then
(Option.bind (I.in a10 0 3) fun r34 =>
(bif r34 then
(Option.bind (I.in a11 0 1000000) fun r35 =>
(some r35))
else
(some false)))
else
(some false)))
else
(some false))))))))))
noncomputable def sg43 : Sg := ⟨⟨[.agg (ho 11 [])], [], []⟩, (ki 11 []), ⟨[hh], [], []⟩, [.bool]⟩
noncomputable def E43 : Fun2 := eOf sg43 I.isOp
theorem ev43 (a : Args sg43.ks) : evS Tryd.prog G43 loopNil (0, 0) [] Tryd.f43 c43 (kOf sg43) (sg43.sk.fl (encP sg43.ks a)) = unc sg43.ks I.isOp a := by kernel_rfl
theorem good43 : Vm.Good Tryd.prog 43 E43 := good_gen (G := G43) (L := loopNil) (c := c43) (rn := []) (N := (0, 0)) (envCons_good good59 (envCons_good good60 (envCons_good good61 (envCons_good good62 (envCons_good good63 envNil_good))))) (no_loops (c := c43) (by kernel_rfl)) Tryd.func43 (by kernel_rfl) (by kernel_rfl) (fun _ => by kernel_rfl) ev43
noncomputable def G65 : Env := envNil
noncomputable def c65 : Code := bodyOf Tryd.f65
noncomputable def I.Op_operands (a1 a2 a3 a4 a5 a6 a7 a8 a9 a10 a11 : Int) : Option (List Int) :=
(bif (a1 == 1) then
(some [a2, a3, a4, a5])
else
(bif (a1 == 2) then
(some [a6, a7, a8, a9])
else
(bif (a1 == 3) then
(some [a6, a7, a8])
else
(bif (a1 == 5) then
(some [a10])
else
(bif (a1 == 6) then
(some [a10])
else
(some [a10, a11]))))))
noncomputable def sg65 : Sg := ⟨⟨[.agg (ho 11 [])], [], []⟩, (ki 11 []), ⟨[.one (.sl 0)], [], [(3, (.int .i64), .own)]⟩, [.row (.int .i64)]⟩
noncomputable def E65 : Fun2 := eOf sg65 I.Op_operands
theorem ev65 (a : Args sg65.ks) : evS Tryd.prog G65 loopNil (0, 0) [] Tryd.f65 c65 (kOf sg65) (sg65.sk.fl (encP sg65.ks a)) = unc sg65.ks I.Op_operands a := by kernel_rfl
theorem good65 : Vm.Good Tryd.prog 65 E65 := good_gen (G := G65) (L := loopNil) (c := c65) (rn := []) (N := (0, 0)) envNil_good (no_loops (c := c65) (by kernel_rfl)) Tryd.func65 (by kernel_rfl) (by kernel_rfl) (fun _ => by kernel_rfl) ev65
noncomputable def G28 : Env := (envCons 45 [] E45 (envCons 46 [] E46 envNil))
noncomputable def c28 : Code := bodyOf Tryd.f28
noncomputable def c28_3 : Code := (loopsOf c28).getD 0 .skip
noncomputable def I.numbersText_l0 : Nat → (ByteArray → List ByteArray → Option ByteArray) → ByteArray → Int → Int → List ByteArray → List Int → Option ByteArray
  | 0, _, _, _, _, _, _ => none
  | m + 1, e3_0, a4, a5, a6, a7, a8 =>
    (bif (decide (a6 < a5)) then
    (bif decide ((0 : Int) ≤ a6 ∧ a6 < (a8.length : Int)) then
    (Option.bind (X.itoa (nthI a8 a6 (0 : Int))) fun r11 =>
    (bif decide ((a7.length + [r11].length) * 16 ≤ 140737488355328) then
    (I.numbersText_l0 m e3_0 a4 a5 (IntKind.wrap .i64 (a6 + 1)) (a7 ++ [r11]) a8)
    else
    none))
    else
    none)
    else
    (e3_0 a4 a7))
noncomputable def I.numbersText (a1 : ByteArray) (a2 : List Int) : Option ByteArray :=
(I.numbersText_l0 fu (fun y13 y14 =>
(Option.bind (X.join y13 y14) fun r15 =>
(some r15))) a1 (a2.length : Int) 0 [] a2)
noncomputable def H28_3 : LoopH := ⟨⟨((.one (.unk)) :: hh :: (hu 3 ((.one (.sl 0)) :: (hu 3 ((.one (.sl 1)) :: hh :: hh :: (hu 12 [])))))), [], [(9, .str, .own), (3, (.int .i64), .ro)]⟩, ([0, 2, 3, 4, 6, 7, 8] ++ rg 12 12), [], ([0, 2, 3] ++ rg 6 18), [], []⟩
noncomputable def k28_3 : List PK := ((.str) :: (ki 2 [.row (.str), .row (.int .i64)]))
noncomputable def W28_3 (m : Nat) (k : Kont ByteArray) : Cur k28_3 (Option ByteArray) := I.numbersText_l0 m (exF k (.exit 0) ⟨((.one (.unk)) :: hh :: (hu 3 ((.one (.sl 0)) :: (hu 18 [])))), [], [(9, .str, .own)]⟩ [.str, .row (.str)])
noncomputable def E28_3 (m : Nat) : List Prm → Kont ByteArray → Option ByteArray := eL k28_3 (W28_3 m)
theorem ev28_3 (m : Nat) (k : Kont ByteArray) (a : Args k28_3) : evL Tryd.prog G28 loopNil c28_3 (turn Tryd.prog (0, 0) H28_3 (E28_3 m) k) (H28_3.sk.fl (encP k28_3 a)) = unc k28_3 (W28_3 (m + 1) k) a := by kernel_rfl
theorem ok28_3 (m : Nat) : LoopOk Tryd.prog (0, 0) c28_3 (enter Tryd.prog (0, 0) H28_3 (E28_3 m)) := loop_gen (Fl := W28_3) (G := G28) (L := loopNil) (envCons_good good45 (envCons_good good46 envNil_good)) (no_loops (c := c28_3) (by kernel_rfl)) (fun _ _ => by kernel_rfl) ev28_3 m
noncomputable def L28 : LEnv ByteArray := (loopCons 3 (enter Tryd.prog (0, 0) H28_3 (E28_3 fu)) loopNil)
theorem lq28 : loopsOf c28 = [c28_3] := by kernel_rfl
theorem fr28_3 : firstReg c28_3 = some 3 := by kernel_rfl
theorem le28_3 : L28 3 = enter Tryd.prog (0, 0) H28_3 (E28_3 fu) := by kernel_rfl
theorem lm28 : ∀ x ∈ [c28_3], ∀ id, firstReg x = some id → LoopOk Tryd.prog (0, 0) x (L28 id) := (loops_cons fr28_3 le28_3 (ok28_3 fu) loops_nil)
theorem lp28 : ∀ x ∈ loopsOf c28, ∀ id, firstReg x = some id → LoopOk Tryd.prog (0, 0) x (L28 id) := loops_eq lq28 lm28
noncomputable def sg28 : Sg := ⟨⟨[.one (.sl 0), hh], [], [(3, (.int .i64), .ro)]⟩, [.str, .row (.int .i64)], ⟨[hh], [], []⟩, [.str]⟩
noncomputable def E28 : Fun2 := eOf sg28 I.numbersText
theorem ev28 (a : Args sg28.ks) : evS Tryd.prog G28 L28 (0, 0) [] Tryd.f28 c28 (kOf sg28) (sg28.sk.fl (encP sg28.ks a)) = unc sg28.ks I.numbersText a := by kernel_rfl
theorem good28 : Vm.Good Tryd.prog 28 E28 := good_gen (G := G28) (L := L28) (c := c28) (rn := []) (N := (0, 0)) (envCons_good good45 (envCons_good good46 envNil_good)) lp28 Tryd.func28 (by kernel_rfl) (by kernel_rfl) (fun _ => by kernel_rfl) ev28
noncomputable def G44 : Env := (envCons 64 [] E64 (envCons 65 [] E65 (envCons 28 [] E28 envNil)))
noncomputable def c44 : Code := bodyOf Tryd.f44
noncomputable def I.opText (a1 a2 a3 a4 a5 a6 a7 a8 a9 a10 a11 : Int) : Option ByteArray :=
(let v12 : Int := (IntKind.wrap .i64 (a1 - 1))
(Option.bind (X.fields lit11) fun r13 =>
(bif decide ((0 : Int) ≤ v12 ∧ v12 < (r13.length : Int)) then
(bif decide ((((nthI r13 v12 ByteArray.empty).size + lit10.size : Nat) : Int) ≤ IntKind.max .i64) then
(let v14 : ByteArray := ((nthI r13 v12 ByteArray.empty) ++ lit10)
(Option.bind (I.Op_operands a1 a2 a3 a4 a5 a6 a7 a8 a9 a10 a11) fun r15 =>
(Option.bind (I.numbersText lit10 r15) fun r16 =>
(bif decide (((v14.size + r16.size : Nat) : Int) ≤ IntKind.max .i64) then
(some (v14 ++ r16))
else
none))))
else
none)
else
none)))
noncomputable def sg44 : Sg := ⟨⟨[.agg (ho 11 [])], [], []⟩, (ki 11 []), ⟨[hh], [], []⟩, [.str]⟩
noncomputable def E44 : Fun2 := eOf sg44 I.opText
theorem ev44 (a : Args sg44.ks) : evS Tryd.prog G44 loopNil (0, 0) [] Tryd.f44 c44 (kOf sg44) (sg44.sk.fl (encP sg44.ks a)) = unc sg44.ks I.opText a := by kernel_rfl
theorem good44 : Vm.Good Tryd.prog 44 E44 := good_gen (G := G44) (L := loopNil) (c := c44) (rn := []) (N := (0, 0)) (envCons_good good64 (envCons_good good65 (envCons_good good28 envNil_good))) (no_loops (c := c44) (by kernel_rfl)) Tryd.func44 (by kernel_rfl) (by kernel_rfl) (fun _ => by kernel_rfl) ev44
noncomputable def G24 : Env := (envCons 43 [] E43 (envCons 44 [] E44 envNil))
noncomputable def c24 : Code := bodyOf Tryd.f24
noncomputable def I.OpText (a1 a2 a3 a4 a5 a6 a7 a8 a9 a10 a11 : Int) : Option ByteArray :=
(Option.bind (I.isOp a1 a2 a3 a4 a5 a6 a7 a8 a9 a10 a11) fun r12 =>
(bif (!r12) then
(some lit0)
else
(Option.bind (I.opText a1 a2 a3 a4 a5 a6 a7 a8 a9 a10 a11) fun r13 =>
(some r13))))
noncomputable def sg24 : Sg := ⟨⟨[.agg (ho 11 [])], [], []⟩, (ki 11 []), ⟨[hh], [], []⟩, [.str]⟩
noncomputable def E24 : Fun2 := eOf sg24 I.OpText
theorem ev24 (a : Args sg24.ks) : evS Tryd.prog G24 loopNil (0, 0) [] Tryd.f24 c24 (kOf sg24) (sg24.sk.fl (encP sg24.ks a)) = unc sg24.ks I.OpText a := by kernel_rfl
theorem good24 : Vm.Good Tryd.prog 24 E24 := good_gen (G := G24) (L := loopNil) (c := c24) (rn := []) (N := (0, 0)) (envCons_good good43 (envCons_good good44 envNil_good)) (no_loops (c := c24) (by kernel_rfl)) Tryd.func24 (by kernel_rfl) (by kernel_rfl) (fun _ => by kernel_rfl) ev24
noncomputable def G6 : Env := (envCons 23 [] E23 (envCons 22 [] E22 (envCons 24 [] E24 envNil)))
noncomputable def c6 : Code := bodyOf Tryd.f6
noncomputable def L.FnExactOpText (a1 a2 a3 a4 a5 a6 a7 a8 a9 a10 a11 : Int) : Option Bool :=
(Option.bind (L.toOp a1 a2 a3 a4 a5 a6 a7 a8 a9 a10 a11) fun r12 =>
(Option.bind (S.OpText r12.1 r12.2.1 r12.2.2.1 r12.2.2.2.1 r12.2.2.2.2.1 r12.2.2.2.2.2.1 r12.2.2.2.2.2.2.1 r12.2.2.2.2.2.2.2.1 r12.2.2.2.2.2.2.2.2.1 r12.2.2.2.2.2.2.2.2.2.1 r12.2.2.2.2.2.2.2.2.2.2) fun r13 =>
(Option.bind (L.toOp a1 a2 a3 a4 a5 a6 a7 a8 a9 a10 a11) fun r14 =>
(Option.bind (I.OpText r14.1 r14.2.1 r14.2.2.1 r14.2.2.2.1 r14.2.2.2.2.1 r14.2.2.2.2.2.1 r14.2.2.2.2.2.2.1 r14.2.2.2.2.2.2.2.1 r14.2.2.2.2.2.2.2.2.1 r14.2.2.2.2.2.2.2.2.2.1 r14.2.2.2.2.2.2.2.2.2.2) fun r15 =>
(bif (!(r15.toList == r13.toList)) then
(some false)
else
(some true))))))
noncomputable def sg6 : Sg := ⟨⟨[.agg (ho 11 [])], [], []⟩, (ki 11 []), ⟨[hh], [], []⟩, [.bool]⟩
noncomputable def E6 : Fun2 := eOf sg6 L.FnExactOpText
theorem ev6 (a : Args sg6.ks) : evS Tryd.prog G6 loopNil (0, 0) [] Tryd.f6 c6 (kOf sg6) (sg6.sk.fl (encP sg6.ks a)) = unc sg6.ks L.FnExactOpText a := by kernel_rfl
theorem good6 : Vm.Good Tryd.prog 6 E6 := good_gen (G := G6) (L := loopNil) (c := c6) (rn := []) (N := (0, 0)) (envCons_good good23 (envCons_good good22 (envCons_good good24 envNil_good))) (no_loops (c := c6) (by kernel_rfl)) Tryd.func6 (by kernel_rfl) (by kernel_rfl) (fun _ => by kernel_rfl) ev6
end Go.Proofs.YtipipipngmenoaaDoor.Run
