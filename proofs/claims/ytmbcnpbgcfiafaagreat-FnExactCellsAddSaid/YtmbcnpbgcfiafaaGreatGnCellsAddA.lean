import Derived.Test.YtmbcnpbgcfiafaaGreatVmXt
import Derived.Test.YtmbcnpbgcfiafaaGreatProg
namespace Go.Proofs.YtmbcnpbgcfiafaaGreat.Run
open Go Go.RowKit Go.Proofs.YtmbcnpbgcfiafaaGreatW.PrintWords Go.Proofs.YtmbcnpbgcfiafaaGreat.Vm
set_option linter.unusedVariables false
set_option maxRecDepth 100000
set_option maxHeartbeats 4000000

noncomputable abbrev sh1 : Sh := (.pair (.int .i64) (.pair (.int .i64) (.pair (.int .i64) (.pair (.int .i64) (.pair (.int .i64) (.pair (.int .i64) (.pair (.pair (.int .i64) (.int .u64)) (.pair (.int .i64) (.pair (.int .i64) (.sl 3 (.int .i64)))))))))))
noncomputable abbrev sh2 : Sh := (.pair (.int .i64) (.int .i64))
noncomputable abbrev sh3 : Sh := (.pair (.int .i64) (.pair (.int .i64) (.pair (.int .i64) (.pair (.int .i64) (.pair (.int .i64) (.pair (.int .i64) (.pair (.pair (.int .i64) (.int .u64)) (.pair (.int .i64) (.pair (.int .i64) (.rs 3 (.int .i64)))))))))))
noncomputable abbrev sh4 : Sh := (.pair (.int .i64) (.pair (.int .i64) (.pair (.int .i64) (.pair (.int .i64) (.pair (.int .i64) (.pair (.int .i64) (.pair (.pair (.int .i64) (.int .u64)) (.pair (.int .i64) (.pair (.int .i64) (.hr 3 (.int .i64)))))))))))
noncomputable abbrev ty1 : Type := ((Int × HD × List Int) × Int × Int × (HD × List (List (Int × Int) × List (Int × Int) × (Int × Int × Int) × Int × Int)) × (HD × List (Int × Int × Int)) × HD × List (Int × Int × Int × Int × Int)) × (HD × List (Int × Int × Int × Int)) × (Int × HD × List (Int × Bool)) × (HD × List (Int × Int × Int × Int × Int × Int × (Int × Int) × Int × Int × List Int)) × (HD × List Int) × (HD × List Int) × HD × List (Int × Int × Int × Int × List (Int × Int × Int × Int × Int × Int × Int × Int × List Int × Bool) × List (Int × Int × Int))
noncomputable abbrev ty11 : Type := Int × Int × Int × Int × Int × Int × (Int × Int) × Int × Int × HD × List Int
noncomputable abbrev ty12 : Type := Int × Int × Int × Int × Int × Int × (Int × Int) × Int × Int × List Int
noncomputable abbrev df1 : Int × Int × Int × Int × Int × Int × (Int × Int) × Int × Int × List Int := ((0 : Int), ((0 : Int), ((0 : Int), ((0 : Int), ((0 : Int), ((0 : Int), (((0 : Int), (0 : Int)), ((0 : Int), ((0 : Int), [])))))))))
noncomputable abbrev df2 : Int × Int := ((0 : Int), (0 : Int))
noncomputable abbrev df3 : Int × Int × Int × Int × Int × Int × (Int × Int) × Int × Int × HD × List Int := ((0 : Int), ((0 : Int), ((0 : Int), ((0 : Int), ((0 : Int), ((0 : Int), (((0 : Int), (0 : Int)), ((0 : Int), ((0 : Int), (((none, 0, 0) : HD), []))))))))))
noncomputable def G100 : Env := envNil
noncomputable def c100 : Code := bodyOf Tryz.f100
noncomputable def L.szIntS (a1 : Int) (a2 : List Int) : Option Int :=
(let v4 : Int := (IntKind.wrap .i64 (a1 - (a2.length : Int)))
(bif (decide (v4 < 0)) then
(some (-1))
else
(some v4)))
noncomputable def sg100 : Sg := ⟨⟨[.one (.sl 0), hh], [], [(3, (.int .i64), .ro)]⟩, [.int .i64, .row (.int .i64)], ⟨[hh], [], []⟩, [.int .i64]⟩
noncomputable def E100 : Fun2 := eOf sg100 L.szIntS
theorem ev100 (a : Args sg100.ks) : evS Tryz.prog G100 loopNil (0, 0) [] Tryz.f100 c100 (kOf sg100) (sg100.sk.fl (encP sg100.ks a)) = unc sg100.ks L.szIntS a := by kernel_rfl
theorem good100 : Vm.Good Tryz.prog 100 E100 := good_gen (G := G100) (L := loopNil) (c := c100) (rn := []) (N := (0, 0)) envNil_good (no_loops (c := c100) (by kernel_rfl)) Tryz.func100 (by kernel_rfl) (by kernel_rfl) (fun _ => by kernel_rfl) ev100
noncomputable def G115 : Env := (envCons 100 [] E100 envNil)
noncomputable def c115 : Code := bodyOf Tryz.f115
noncomputable def L.szAgg (a1 a2 a3 a4 a5 a6 : Int) (a7 : List Int) : Option Int :=
(Option.bind (L.szIntS a6 a7) fun r8 =>
(bif (decide (r8 < 0)) then
(some (-1))
else
(some r8)))
noncomputable def sg115 : Sg := ⟨⟨[.agg (ho 5 [.sl 0]), hh], [], [(3, (.int .i64), .ro)]⟩, (ki 2 ((.int .u64) :: (ki 3 [.row (.int .i64)]))), ⟨[hh], [], []⟩, [.int .i64]⟩
noncomputable def E115 : Fun2 := eOf sg115 L.szAgg
theorem ev115 (a : Args sg115.ks) : evS Tryz.prog G115 loopNil (0, 0) [] Tryz.f115 c115 (kOf sg115) (sg115.sk.fl (encP sg115.ks a)) = unc sg115.ks L.szAgg a := by kernel_rfl
theorem good115 : Vm.Good Tryz.prog 115 E115 := good_gen (G := G115) (L := loopNil) (c := c115) (rn := []) (N := (0, 0)) (envCons_good good100 envNil_good) (no_loops (c := c115) (by kernel_rfl)) Tryz.func115 (by kernel_rfl) (by kernel_rfl) (fun _ => by kernel_rfl) ev115
noncomputable def G46 : Env := (envCons 115 [] E115 envNil)
noncomputable def c46 : Code := bodyOf Tryz.f46
noncomputable def L.szCell (a1 a2 a3 a4 a5 a6 a7 a8 a9 a10 a11 : Int) (a12 : List Int) : Option Int :=
(Option.bind (L.szAgg a6 a7 a8 a9 a10 a11 a12) fun r13 =>
(bif (decide (r13 < 0)) then
(some (-1))
else
(some r13)))
noncomputable def sg46 : Sg := ⟨⟨[.agg (ho 10 [.sl 0]), hh], [], [(3, (.int .i64), .ro)]⟩, (ki 7 ((.int .u64) :: (ki 3 [.row (.int .i64)]))), ⟨[hh], [], []⟩, [.int .i64]⟩
noncomputable def E46 : Fun2 := eOf sg46 L.szCell
theorem ev46 (a : Args sg46.ks) : evS Tryz.prog G46 loopNil (0, 0) [] Tryz.f46 c46 (kOf sg46) (sg46.sk.fl (encP sg46.ks a)) = unc sg46.ks L.szCell a := by kernel_rfl
theorem good46 : Vm.Good Tryz.prog 46 E46 := good_gen (G := G46) (L := loopNil) (c := c46) (rn := []) (N := (0, 0)) (envCons_good good115 envNil_good) (no_loops (c := c46) (by kernel_rfl)) Tryz.func46 (by kernel_rfl) (by kernel_rfl) (fun _ => by kernel_rfl) ev46
noncomputable def G8 : Env := (envCons 46 [] E46 envNil)
noncomputable def c8 : Code := bodyOf Tryz.f8
noncomputable def c8_5 : Code := (loopsOf c8).getD 0 .skip
noncomputable def L.szCellS_l0 : Nat → (Int → Int → Option Int) → (Int → Option Int) → Int → Int → (List ty12) → Option Int
  | 0, _, _, _, _, _ => none
  | m + 1, e5_0, e5_1, a6, a7, a8 =>
    (bif (decide (a7 < (a8.length : Int))) then
    (bif decide ((0 : Int) ≤ a7 ∧ a7 < (a8.length : Int)) then
    (Option.bind (L.szCell ((nthI a8 a7 df1).1) ((nthI a8 a7 df1).2.1) ((nthI a8 a7 df1).2.2.1) ((nthI a8 a7 df1).2.2.2.1) ((nthI a8 a7 df1).2.2.2.2.1) ((nthI a8 a7 df1).2.2.2.2.2.1) ((nthI a8 a7 df1).2.2.2.2.2.2.1.1) ((nthI a8 a7 df1).2.2.2.2.2.2.1.2) ((nthI a8 a7 df1).2.2.2.2.2.2.2.1) ((nthI a8 a7 df1).2.2.2.2.2.2.2.2.1) a6 ((nthI a8 a7 df1).2.2.2.2.2.2.2.2.2)) fun r11 =>
    (bif (decide (r11 < 0)) then
    (e5_0 r11 (-1))
    else
    (L.szCellS_l0 m e5_0 e5_1 r11 (IntKind.wrap .i64 (a7 + 1)) a8)))
    else
    none)
    else
    (e5_1 a6))
noncomputable def L.szCellS (a1 : Int) (a2 : List ty12) : Option Int :=
(let v4 : Int := (IntKind.wrap .i64 (a1 - (a2.length : Int)))
(bif (decide (v4 < 0)) then
(some (-1))
else
(L.szCellS_l0 fu (fun y14 y15 =>
(some y15)) (fun y16 =>
(some y16)) v4 0 a2)))
noncomputable def H8_5 : LoopH := ⟨⟨((.one (.sl 0)) :: hh :: (hu 3 (hh :: (hu 21 [])))), [], [(101, sh1, .ro)]⟩, ([2, 3, 4] ++ rg 6 21), [], ([0, 2, 3] ++ rg 5 22), [], [], [], []⟩
noncomputable def k8_5 : List PK := (ki 2 [.row sh1])
noncomputable def W8_5 (m : Nat) (k : Kont Int) : Cur k8_5 (Option Int) := L.szCellS_l0 m (exF k .ret ⟨((.one (.unk)) :: hh :: (hu 2 (hh :: (hu 22 [])))), [], []⟩ (ki 2 [])) (exF k (.exit 0) ⟨((.one (.unk)) :: hh :: (hu 25 [])), [], []⟩ [.int .i64])
noncomputable def E8_5 (m : Nat) : List Prm → Kont Int → Option Int := eL k8_5 (W8_5 m)
theorem ev8_5 (m : Nat) (k : Kont Int) (a : Args k8_5) : evL Tryz.prog G8 loopNil c8_5 (turn Tryz.prog (0, 0) H8_5 (E8_5 m) k) (H8_5.sk.fl (encP k8_5 a)) = unc k8_5 (W8_5 (m + 1) k) a := by kernel_rfl
theorem ok8_5 (m : Nat) : LoopOk Tryz.prog (0, 0) c8_5 (enter Tryz.prog (0, 0) H8_5 (E8_5 m)) := loop_gen (Fl := W8_5) (G := G8) (L := loopNil) (envCons_good good46 envNil_good) (no_loops (c := c8_5) (by kernel_rfl)) (fun _ _ => by kernel_rfl) ev8_5 m
noncomputable def L8 : LEnv Int := (loopCons 5 (enter Tryz.prog (0, 0) H8_5 (E8_5 fu)) loopNil)
theorem lq8 : loopsOf c8 = [c8_5] := by kernel_rfl
theorem fr8_5 : firstReg c8_5 = some 5 := by kernel_rfl
theorem le8_5 : L8 5 = (enter Tryz.prog (0, 0) H8_5 (E8_5 fu)) := by kernel_rfl
theorem lm8 : ∀ x ∈ [c8_5], ∀ id, firstReg x = some id → LoopOk Tryz.prog (0, 0) x (L8 id) := (loops_cons fr8_5 le8_5 (ok8_5 fu) loops_nil)
theorem lp8 : ∀ x ∈ loopsOf c8, ∀ id, firstReg x = some id → LoopOk Tryz.prog (0, 0) x (L8 id) := loops_eq lq8 lm8
noncomputable def sg8 : Sg := ⟨⟨[.one (.sl 0), hh], [], [(101, sh1, .ro)]⟩, [.int .i64, .row sh1], ⟨[hh], [], []⟩, [.int .i64]⟩
noncomputable def E8 : Fun2 := eOf sg8 L.szCellS
theorem ev8 (a : Args sg8.ks) : evS Tryz.prog G8 L8 (0, 0) [] Tryz.f8 c8 (kOf sg8) (sg8.sk.fl (encP sg8.ks a)) = unc sg8.ks L.szCellS a := by kernel_rfl
theorem good8 : Vm.Good Tryz.prog 8 E8 := good_gen (G := G8) (L := L8) (c := c8) (rn := []) (N := (0, 0)) (envCons_good good46 envNil_good) lp8 Tryz.func8 (by kernel_rfl) (by kernel_rfl) (fun _ => by kernel_rfl) ev8
noncomputable def G217 : Env := envNil
noncomputable def c217 : Code := bodyOf Tryz.f217
noncomputable def L.toWide (a1 a2 : Int) : Option (Int × Int) :=
(some (a1, a2))
noncomputable def sg217 : Sg := ⟨⟨[.agg (ho 2 [])], [], []⟩, [.int .i64, .int .u64], ⟨[.agg (ho 2 [])], [], []⟩, [.int .i64, .int .u64]⟩
noncomputable def E217 : Fun2 := eOf sg217 L.toWide
theorem ev217 (a : Args sg217.ks) : evS Tryz.prog G217 loopNil (0, 0) [] Tryz.f217 c217 (kOf sg217) (sg217.sk.fl (encP sg217.ks a)) = unc sg217.ks L.toWide a := by kernel_rfl
theorem good217 : Vm.Good Tryz.prog 217 E217 := good_gen (G := G217) (L := loopNil) (c := c217) (rn := []) (N := (0, 0)) envNil_good (no_loops (c := c217) (by kernel_rfl)) Tryz.func217 (by kernel_rfl) (by kernel_rfl) (fun _ => by kernel_rfl) ev217
noncomputable def G19 : Env := envNil
noncomputable def c19 : Code := bodyOf Tryz.f19
noncomputable def c19_3 : Code := (loopsOf c19).getD 0 .skip
noncomputable def L.toIntS_l0 : Nat → (List Int → Option (List Int)) → Int → List Int → List Int → Option (List Int)
  | 0, _, _, _, _ => none
  | m + 1, e3_0, a4, a5, a6 =>
    (bif (decide (a4 < (a5.length : Int))) then
    (bif decide ((0 : Int) ≤ a4 ∧ a4 < (a5.length : Int)) then
    (bif decide ((0 : Int) ≤ a4 ∧ a4 < (a6.length : Int)) then
    (L.toIntS_l0 m e3_0 (IntKind.wrap .i64 (a4 + 1)) a5 (a6.set (Int.toNat a4) (nthI a5 a4 (0 : Int))))
    else
    none)
    else
    none)
    else
    (e3_0 a6))
noncomputable def L.toIntS (a1 : List Int) : Option (List Int) :=
(let v2 : Int := (a1.length : Int)
(bif decide ((0 : Int) ≤ v2 ∧ v2 ≤ v2 ∧ (8 : Int) * v2 ≤ 281474976710656 ∧ v2 ≤ 9223372036854775807) then
(L.toIntS_l0 fu (fun y11 =>
(some y11)) 0 a1 (List.replicate (Int.toNat v2) (0 : Int)))
else
none))
noncomputable def H19_3 : LoopH := ⟨⟨((.one (.sl 0)) :: (hu 2 ((.one (.sl 1)) :: hh :: (hu 17 [])))), [], [(3, (.int .i64), .ro), (3, (.int .i64), .own)]⟩, ([1, 2] ++ rg 5 17), [], ([0, 1] ++ rg 4 18), [], [], [], []⟩
noncomputable def k19_3 : List PK := [.int .i64, .row (.int .i64), .row (.int .i64)]
noncomputable def W19_3 (m : Nat) (k : Kont (List Int)) : Cur k19_3 (Option (List Int)) := L.toIntS_l0 m (exF k (.exit 0) ⟨(hu 3 ((.one (.sl 0)) :: (hu 18 []))), [], [(3, (.int .i64), .own)]⟩ [.row (.int .i64)])
noncomputable def E19_3 (m : Nat) : List Prm → Kont (List Int) → Option (List Int) := eL k19_3 (W19_3 m)
theorem ev19_3 (m : Nat) (k : Kont (List Int)) (a : Args k19_3) : evL Tryz.prog G19 loopNil c19_3 (turn Tryz.prog (0, 0) H19_3 (E19_3 m) k) (H19_3.sk.fl (encP k19_3 a)) = unc k19_3 (W19_3 (m + 1) k) a := by kernel_rfl
theorem ok19_3 (m : Nat) : LoopOk Tryz.prog (0, 0) c19_3 (enter Tryz.prog (0, 0) H19_3 (E19_3 m)) := loop_gen (Fl := W19_3) (G := G19) (L := loopNil) envNil_good (no_loops (c := c19_3) (by kernel_rfl)) (fun _ _ => by kernel_rfl) ev19_3 m
noncomputable def L19 : LEnv (List Int) := (loopCons 3 (enter Tryz.prog (0, 0) H19_3 (E19_3 fu)) loopNil)
theorem lq19 : loopsOf c19 = [c19_3] := by kernel_rfl
theorem fr19_3 : firstReg c19_3 = some 3 := by kernel_rfl
theorem le19_3 : L19 3 = (enter Tryz.prog (0, 0) H19_3 (E19_3 fu)) := by kernel_rfl
theorem lm19 : ∀ x ∈ [c19_3], ∀ id, firstReg x = some id → LoopOk Tryz.prog (0, 0) x (L19 id) := (loops_cons fr19_3 le19_3 (ok19_3 fu) loops_nil)
theorem lp19 : ∀ x ∈ loopsOf c19, ∀ id, firstReg x = some id → LoopOk Tryz.prog (0, 0) x (L19 id) := loops_eq lq19 lm19
noncomputable def sg19 : Sg := ⟨⟨[.one (.sl 0)], [], [(3, (.int .i64), .ro)]⟩, [.row (.int .i64)], ⟨[.one (.sl 0)], [], [(3, (.int .i64), .own)]⟩, [.row (.int .i64)]⟩
noncomputable def E19 : Fun2 := eOf sg19 L.toIntS
theorem ev19 (a : Args sg19.ks) : evS Tryz.prog G19 L19 (0, 0) [] Tryz.f19 c19 (kOf sg19) (sg19.sk.fl (encP sg19.ks a)) = unc sg19.ks L.toIntS a := by kernel_rfl
theorem good19 : Vm.Good Tryz.prog 19 E19 := good_gen (G := G19) (L := L19) (c := c19) (rn := []) (N := (0, 0)) envNil_good lp19 Tryz.func19 (by kernel_rfl) (by kernel_rfl) (fun _ => by kernel_rfl) ev19
noncomputable def G131 : Env := (envCons 217 [] E217 (envCons 19 [] E19 envNil))
noncomputable def c131 : Code := bodyOf Tryz.f131
noncomputable def L.toAgg (a1 a2 a3 a4 a5 : Int) (a6 : List Int) : Option (Int × Int × Int × Int × Int × List Int) :=
(Option.bind (L.toWide a2 a3) fun r7 =>
(Option.bind (L.toIntS a6) fun r8 =>
(some (a1, r7.1, r7.2, a4, a5, r8))))
noncomputable def sg131 : Sg := ⟨⟨[.agg (ho 5 [.sl 0])], [], [(3, (.int .i64), .ro)]⟩, (ki 2 ((.int .u64) :: (ki 2 [.row (.int .i64)]))), ⟨[.agg (ho 5 [.sl 0])], [], [(3, (.int .i64), .own)]⟩, (ki 2 ((.int .u64) :: (ki 2 [.row (.int .i64)])))⟩
noncomputable def E131 : Fun2 := eOf sg131 L.toAgg
theorem ev131 (a : Args sg131.ks) : evS Tryz.prog G131 loopNil (0, 0) [] Tryz.f131 c131 (kOf sg131) (sg131.sk.fl (encP sg131.ks a)) = unc sg131.ks L.toAgg a := by kernel_rfl
theorem good131 : Vm.Good Tryz.prog 131 E131 := good_gen (G := G131) (L := loopNil) (c := c131) (rn := []) (N := (0, 0)) (envCons_good good217 (envCons_good good19 envNil_good)) (no_loops (c := c131) (by kernel_rfl)) Tryz.func131 (by kernel_rfl) (by kernel_rfl) (fun _ => by kernel_rfl) ev131
noncomputable def G53 : Env := (envCons 131 [] E131 envNil)
noncomputable def c53 : Code := bodyOf Tryz.f53
noncomputable def L.toCell (a1 a2 a3 a4 a5 a6 a7 a8 a9 a10 : Int) (a11 : List Int) : Option (Int × Int × Int × Int × Int × Int × Int × Int × Int × Int × List Int) :=
(Option.bind (L.toAgg a6 a7 a8 a9 a10 a11) fun r12 =>
(some (a1, a2, a3, a4, a5, r12.1, r12.2.1, r12.2.2.1, r12.2.2.2.1, r12.2.2.2.2.1, r12.2.2.2.2.2)))
noncomputable def sg53 : Sg := ⟨⟨[.agg (ho 10 [.sl 0])], [], [(3, (.int .i64), .ro)]⟩, (ki 7 ((.int .u64) :: (ki 2 [.row (.int .i64)]))), ⟨[.agg (ho 10 [.sl 0])], [], [(3, (.int .i64), .own)]⟩, (ki 7 ((.int .u64) :: (ki 2 [.row (.int .i64)])))⟩
noncomputable def E53 : Fun2 := eOf sg53 L.toCell
theorem ev53 (a : Args sg53.ks) : evS Tryz.prog G53 loopNil (0, 0) [] Tryz.f53 c53 (kOf sg53) (sg53.sk.fl (encP sg53.ks a)) = unc sg53.ks L.toCell a := by kernel_rfl
theorem good53 : Vm.Good Tryz.prog 53 E53 := good_gen (G := G53) (L := loopNil) (c := c53) (rn := []) (N := (0, 0)) (envCons_good good131 envNil_good) (no_loops (c := c53) (by kernel_rfl)) Tryz.func53 (by kernel_rfl) (by kernel_rfl) (fun _ => by kernel_rfl) ev53
noncomputable def G10 : Env := (envCons 53 [] E53 envNil)
noncomputable def c10 : Code := bodyOf Tryz.f10
noncomputable def c10_3 : Code := (loopsOf c10).getD 0 .skip
noncomputable def L.toCellS_l0 : Nat → ((List ty12) → Option ((List ty12))) → Int → (List ty12) → (List ty12) → Option ((List ty12))
  | 0, _, _, _, _ => none
  | m + 1, e3_0, a4, a5, a6 =>
    (bif (decide (a4 < (a5.length : Int))) then
    (bif decide ((0 : Int) ≤ a4 ∧ a4 < (a5.length : Int)) then
    (Option.bind (L.toCell ((nthI a5 a4 df1).1) ((nthI a5 a4 df1).2.1) ((nthI a5 a4 df1).2.2.1) ((nthI a5 a4 df1).2.2.2.1) ((nthI a5 a4 df1).2.2.2.2.1) ((nthI a5 a4 df1).2.2.2.2.2.1) ((nthI a5 a4 df1).2.2.2.2.2.2.1.1) ((nthI a5 a4 df1).2.2.2.2.2.2.1.2) ((nthI a5 a4 df1).2.2.2.2.2.2.2.1) ((nthI a5 a4 df1).2.2.2.2.2.2.2.2.1) ((nthI a5 a4 df1).2.2.2.2.2.2.2.2.2)) fun r9 =>
    (bif decide ((0 : Int) ≤ a4 ∧ a4 < (a6.length : Int)) then
    (let v10 : List ty12 := (a6.set (Int.toNat a4) (r9.1, (r9.2.1, (r9.2.2.1, (r9.2.2.2.1, (r9.2.2.2.2.1, (r9.2.2.2.2.2.1, ((r9.2.2.2.2.2.2.1, r9.2.2.2.2.2.2.2.1), (r9.2.2.2.2.2.2.2.2.1, (r9.2.2.2.2.2.2.2.2.2.1, r9.2.2.2.2.2.2.2.2.2.2))))))))))
    (L.toCellS_l0 m e3_0 (IntKind.wrap .i64 (a4 + 1)) a5 v10))
    else
    none))
    else
    none)
    else
    (e3_0 a6))
noncomputable def L.toCellS (a1 : List ty12) : Option ((List ty12)) :=
(let v2 : Int := (a1.length : Int)
(bif decide ((0 : Int) ≤ v2 ∧ v2 ≤ v2 ∧ (104 : Int) * v2 ≤ 281474976710656 ∧ v2 ≤ 9223372036854775807) then
(let v3 : List ty12 := (List.replicate (Int.toNat v2) (0, (0, (0, (0, (0, (0, ((0, 0), (0, (0, []))))))))))
(L.toCellS_l0 fu (fun y12 =>
(some y12)) 0 a1 v3))
else
none))
noncomputable def H10_3 : LoopH := ⟨⟨((.one (.sl 0)) :: (hu 2 ((.one (.sl 1)) :: hh :: (hu 18 [])))), [], [(101, sh1, .ro), (113, sh1, .own)]⟩, ([1, 2] ++ rg 5 18), [], ([0, 1] ++ rg 4 19), [], [], [], []⟩
noncomputable def k10_3 : List PK := [.int .i64, .row sh1, .row sh1]
noncomputable def W10_3 (m : Nat) (k : Kont ((List ty12))) : Cur k10_3 (Option ((List ty12))) := L.toCellS_l0 m (exF k (.exit 0) ⟨(hu 3 ((.one (.sl 0)) :: (hu 19 []))), [], [(113, sh1, .own)]⟩ [.row sh1])
noncomputable def E10_3 (m : Nat) : List Prm → Kont ((List ty12)) → Option ((List ty12)) := eL k10_3 (W10_3 m)
theorem ev10_3 (m : Nat) (k : Kont ((List ty12))) (a : Args k10_3) : evL Tryz.prog G10 loopNil c10_3 (turn Tryz.prog (0, 0) H10_3 (E10_3 m) k) (H10_3.sk.fl (encP k10_3 a)) = unc k10_3 (W10_3 (m + 1) k) a := by kernel_rfl
theorem ok10_3 (m : Nat) : LoopOk Tryz.prog (0, 0) c10_3 (enter Tryz.prog (0, 0) H10_3 (E10_3 m)) := loop_gen (Fl := W10_3) (G := G10) (L := loopNil) (envCons_good good53 envNil_good) (no_loops (c := c10_3) (by kernel_rfl)) (fun _ _ => by kernel_rfl) ev10_3 m
noncomputable def L10 : LEnv ((List ty12)) := (loopCons 3 (enter Tryz.prog (0, 0) H10_3 (E10_3 fu)) loopNil)
theorem lq10 : loopsOf c10 = [c10_3] := by kernel_rfl
theorem fr10_3 : firstReg c10_3 = some 3 := by kernel_rfl
theorem le10_3 : L10 3 = (enter Tryz.prog (0, 0) H10_3 (E10_3 fu)) := by kernel_rfl
theorem lm10 : ∀ x ∈ [c10_3], ∀ id, firstReg x = some id → LoopOk Tryz.prog (0, 0) x (L10 id) := (loops_cons fr10_3 le10_3 (ok10_3 fu) loops_nil)
theorem lp10 : ∀ x ∈ loopsOf c10, ∀ id, firstReg x = some id → LoopOk Tryz.prog (0, 0) x (L10 id) := loops_eq lq10 lm10
noncomputable def sg10 : Sg := ⟨⟨[.one (.sl 0)], [], [(101, sh1, .ro)]⟩, [.row sh1], ⟨[.one (.sl 0)], [], [(113, sh1, .own)]⟩, [.row sh1]⟩
noncomputable def E10 : Fun2 := eOf sg10 L.toCellS
theorem ev10 (a : Args sg10.ks) : evS Tryz.prog G10 L10 (0, 0) [] Tryz.f10 c10 (kOf sg10) (sg10.sk.fl (encP sg10.ks a)) = unc sg10.ks L.toCellS a := by kernel_rfl
theorem good10 : Vm.Good Tryz.prog 10 E10 := good_gen (G := G10) (L := L10) (c := c10) (rn := []) (N := (0, 0)) (envCons_good good53 envNil_good) lp10 Tryz.func10 (by kernel_rfl) (by kernel_rfl) (fun _ => by kernel_rfl) ev10
noncomputable def G11 : Env := envNil
noncomputable def c11 : Code := bodyOf Tryz.f11
noncomputable def L.toWinDef (a1 a2 a3 : Int) : Option (Int × Int × Int) :=
(some (a1, a2, a3))
noncomputable def sg11 : Sg := ⟨⟨[.agg (ho 3 [])], [], []⟩, (ki 3 []), ⟨[.agg (ho 3 [])], [], []⟩, (ki 3 [])⟩
noncomputable def E11 : Fun2 := eOf sg11 L.toWinDef
theorem ev11 (a : Args sg11.ks) : evS Tryz.prog G11 loopNil (0, 0) [] Tryz.f11 c11 (kOf sg11) (sg11.sk.fl (encP sg11.ks a)) = unc sg11.ks L.toWinDef a := by kernel_rfl
theorem good11 : Vm.Good Tryz.prog 11 E11 := good_gen (G := G11) (L := loopNil) (c := c11) (rn := []) (N := (0, 0)) envNil_good (no_loops (c := c11) (by kernel_rfl)) Tryz.func11 (by kernel_rfl) (by kernel_rfl) (fun _ => by kernel_rfl) ev11
noncomputable def G123 : Env := envNil
noncomputable def c123 : Code := bodyOf Tryz.f123
noncomputable def S.l04Key (a1 : Int) : Option Bool :=
(bif (decide (0 ≤ a1)) then
(some (decide (a1 ≤ 15)))
else
(some false))
noncomputable def sg123 : Sg := ⟨⟨[hh], [], []⟩, [.int .i64], ⟨[hh], [], []⟩, [.bool]⟩
noncomputable def E123 : Fun2 := eOf sg123 S.l04Key
theorem ev123 (a : Args sg123.ks) : evS Tryz.prog G123 loopNil (0, 0) [] Tryz.f123 c123 (kOf sg123) (sg123.sk.fl (encP sg123.ks a)) = unc sg123.ks S.l04Key a := by kernel_rfl
theorem good123 : Vm.Good Tryz.prog 123 E123 := good_gen (G := G123) (L := loopNil) (c := c123) (rn := []) (N := (0, 0)) envNil_good (no_loops (c := c123) (by kernel_rfl)) Tryz.func123 (by kernel_rfl) (by kernel_rfl) (fun _ => by kernel_rfl) ev123
noncomputable def G124 : Env := envNil
noncomputable def c124 : Code := bodyOf Tryz.f124
noncomputable def S.l06Win (a1 a2 : Int) : Option Bool :=
(bif (decide (0 ≤ a1)) then
(bif (decide (a1 < a2)) then
(some (decide (a2 ≤ 1100)))
else
(some false))
else
(some false))
noncomputable def sg124 : Sg := ⟨⟨[.agg (ho 2 [])], [], []⟩, (ki 2 []), ⟨[hh], [], []⟩, [.bool]⟩
noncomputable def E124 : Fun2 := eOf sg124 S.l06Win
theorem ev124 (a : Args sg124.ks) : evS Tryz.prog G124 loopNil (0, 0) [] Tryz.f124 c124 (kOf sg124) (sg124.sk.fl (encP sg124.ks a)) = unc sg124.ks S.l06Win a := by kernel_rfl
theorem good124 : Vm.Good Tryz.prog 124 E124 := good_gen (G := G124) (L := loopNil) (c := c124) (rn := []) (N := (0, 0)) envNil_good (no_loops (c := c124) (by kernel_rfl)) Tryz.func124 (by kernel_rfl) (by kernel_rfl) (fun _ => by kernel_rfl) ev124
noncomputable def G122 : Env := envNil
noncomputable def c122 : Code := bodyOf Tryz.f122
noncomputable def c122_3 : Code := (loopsOf c122).getD 0 .skip
noncomputable def c122_6 : Code := (loopsOf c122_3).getD 0 .skip
noncomputable def S.TopOf_l1 : Nat → (Int → List Int → List Int → Option (List Int)) → Int → Int → List Int → List Int → Option (List Int)
  | 0, _, _, _, _, _ => none
  | m + 1, e6_0, a10, a11, a12, a13 =>
    (bif (decide (a11 < (a12.length : Int))) then
    (bif decide ((0 : Int) ≤ a11 ∧ a11 < (a12.length : Int)) then
    (bif decide ((0 : Int) ≤ a10 ∧ a10 < (a12.length : Int)) then
    (let v16 : Bool := (decide ((nthI a12 a10 (0 : Int)) < (nthI a12 a11 (0 : Int))))
    (bif v16 then
    (S.TopOf_l1 m e6_0 a11 (IntKind.wrap .i64 (a11 + 1)) a12 a13)
    else
    (S.TopOf_l1 m e6_0 a10 (IntKind.wrap .i64 (a11 + 1)) a12 a13)))
    else
    none)
    else
    none)
    else
    (e6_0 a10 a12 a13))
noncomputable def S.TopOf_l0 : Nat → (List Int → Option (List Int)) → List Int → List Int → Option (List Int)
  | 0, _, _, _ => none
  | m + 1, e3_0, a4, a5 =>
    (bif (decide ((a5.length : Int) < 4)) then
    (bif (decide (0 < (a4.length : Int))) then
    (S.TopOf_l1 fu (fun y19 y20 y21 =>
    (bif decide ((0 : Int) ≤ y19 ∧ y19 < (y20.length : Int)) then
    (let v22 : List Int := [(nthI y20 y19 (0 : Int))]
    (bif decide ((y21.length + v22.length) * 8 ≤ 140737488355328) then
    (bif decide ((0 : Int) ≤ 0 ∧ 0 ≤ y19 ∧ y19 ≤ (y20.length : Int)) then
    (let v23 : Int := (IntKind.wrap .i64 (y19 + 1))
    (bif decide ((0 : Int) ≤ v23 ∧ v23 ≤ (y20.length : Int) ∧ (y20.length : Int) ≤ (y20.length : Int)) then
    (bif decide ((([] : List (Int)).length + ((y20.take (Int.toNat y19)).drop (Int.toNat 0)).length) * 8 ≤ 140737488355328) then
    (let v24 : List Int := (([] : List (Int)) ++ ((y20.take (Int.toNat y19)).drop (Int.toNat 0)))
    (bif decide ((v24.length + ((y20.take (Int.toNat (y20.length : Int))).drop (Int.toNat v23)).length) * 8 ≤ 140737488355328) then
    (let v25 : List Int := (v24 ++ ((y20.take (Int.toNat (y20.length : Int))).drop (Int.toNat v23)))
    (S.TopOf_l0 m e3_0 v25 (y21 ++ v22)))
    else
    none))
    else
    none)
    else
    none))
    else
    none)
    else
    none))
    else
    none)) 0 0 a4 a5)
    else
    (e3_0 a5))
    else
    (e3_0 a5))
noncomputable def S.TopOf (a1 a2 : List Int) : Option (List Int) :=
(bif decide ((([] : List (Int)).length + a1.length) * 8 ≤ 140737488355328) then
(let v3 : List Int := (([] : List (Int)) ++ a1)
(bif decide ((v3.length + a2.length) * 8 ≤ 140737488355328) then
(S.TopOf_l0 fu (fun y26 =>
(some y26)) (v3 ++ a2) [])
else
none))
else
none)
noncomputable def H122_6 : LoopH := ⟨⟨(hu 5 ((.one (.sl 0)) :: (.one (.sl 1)) :: hh :: hh :: (hu 48 []))), [], [(3, (.int .i64), .own), (3, (.int .i64), .own)]⟩, (rg 0 5 ++ rg 9 48), [], (rg 0 4 ++ rg 8 49), [], [], [], []⟩
noncomputable def k122_6 : List PK := (ki 2 [.row (.int .i64), .row (.int .i64)])
noncomputable def W122_6 (m : Nat) (k : Kont (List Int)) : Cur k122_6 (Option (List Int)) := S.TopOf_l1 m (exF k (.exit 2) ⟨(hu 5 ((.one (.sl 0)) :: (.one (.sl 1)) :: hh :: (hu 49 []))), [], [(3, (.int .i64), .own), (3, (.int .i64), .own)]⟩ [.int .i64, .row (.int .i64), .row (.int .i64)])
noncomputable def E122_6 (m : Nat) : List Prm → Kont (List Int) → Option (List Int) := eL k122_6 (W122_6 m)
theorem ev122_6 (m : Nat) (k : Kont (List Int)) (a : Args k122_6) : evL Tryz.prog G122 loopNil c122_6 (turn Tryz.prog (0, 0) H122_6 (E122_6 m) k) (H122_6.sk.fl (encP k122_6 a)) = unc k122_6 (W122_6 (m + 1) k) a := by kernel_rfl
theorem ok122_6 (m : Nat) : LoopOk Tryz.prog (0, 0) c122_6 (enter Tryz.prog (0, 0) H122_6 (E122_6 m)) := loop_gen (Fl := W122_6) (G := G122) (L := loopNil) envNil_good (no_loops (c := c122_6) (by kernel_rfl)) (fun _ _ => by kernel_rfl) ev122_6 m
noncomputable def L122_3 : LEnv (List Int) := (loopCons 6 (enter Tryz.prog (0, 0) H122_6 (E122_6 fu)) loopNil)
theorem lq122_3 : loopsOf c122_3 = [c122_6] := by kernel_rfl
theorem fr122_6 : firstReg c122_6 = some 6 := by kernel_rfl
theorem le122_6 : L122_3 6 = (enter Tryz.prog (0, 0) H122_6 (E122_6 fu)) := by kernel_rfl
theorem lm122_3 : ∀ x ∈ [c122_6], ∀ id, firstReg x = some id → LoopOk Tryz.prog (0, 0) x (L122_3 id) := (loops_cons fr122_6 le122_6 (ok122_6 fu) loops_nil)
theorem lp122_3 : ∀ x ∈ loopsOf c122_3, ∀ id, firstReg x = some id → LoopOk Tryz.prog (0, 0) x (L122_3 id) := loops_eq lq122_3 lm122_3
noncomputable def H122_3 : LoopH := ⟨⟨(hu 5 ((.one (.sl 0)) :: (.one (.sl 1)) :: (hu 50 []))), [], [(3, (.int .i64), .own), (3, (.int .i64), .own)]⟩, (rg 0 5 ++ rg 7 50), [], (rg 0 4 ++ [5] ++ rg 7 50), [], [], [], []⟩
noncomputable def k122_3 : List PK := [.row (.int .i64), .row (.int .i64)]
noncomputable def W122_3 (m : Nat) (k : Kont (List Int)) : Cur k122_3 (Option (List Int)) := S.TopOf_l0 m (exF k (.exit 0) ⟨(hu 6 ((.one (.sl 0)) :: (hu 50 []))), [], [(3, (.int .i64), .own)]⟩ [.row (.int .i64)])
noncomputable def E122_3 (m : Nat) : List Prm → Kont (List Int) → Option (List Int) := eL k122_3 (W122_3 m)
theorem ev122_3 (m : Nat) (k : Kont (List Int)) (a : Args k122_3) : evL Tryz.prog G122 L122_3 c122_3 (turn Tryz.prog (0, 0) H122_3 (E122_3 m) k) (H122_3.sk.fl (encP k122_3 a)) = unc k122_3 (W122_3 (m + 1) k) a := by kernel_rfl
theorem ok122_3 (m : Nat) : LoopOk Tryz.prog (0, 0) c122_3 (enter Tryz.prog (0, 0) H122_3 (E122_3 m)) := loop_gen (Fl := W122_3) (G := G122) (L := L122_3) envNil_good lp122_3 (fun _ _ => by kernel_rfl) ev122_3 m
noncomputable def L122 : LEnv (List Int) := (loopCons 3 (enter Tryz.prog (0, 0) H122_3 (E122_3 fu)) loopNil)
theorem lq122 : loopsOf c122 = [c122_3] := by kernel_rfl
theorem fr122_3 : firstReg c122_3 = some 3 := by kernel_rfl
theorem le122_3 : L122 3 = (enter Tryz.prog (0, 0) H122_3 (E122_3 fu)) := by kernel_rfl
theorem lm122 : ∀ x ∈ [c122_3], ∀ id, firstReg x = some id → LoopOk Tryz.prog (0, 0) x (L122 id) := (loops_cons fr122_3 le122_3 (ok122_3 fu) loops_nil)
theorem lp122 : ∀ x ∈ loopsOf c122, ∀ id, firstReg x = some id → LoopOk Tryz.prog (0, 0) x (L122 id) := loops_eq lq122 lm122
noncomputable def sg122 : Sg := ⟨⟨[.one (.sl 0), .one (.sl 1)], [], [(3, (.int .i64), .ro), (3, (.int .i64), .ro)]⟩, [.row (.int .i64), .row (.int .i64)], ⟨[.one (.sl 0)], [], [(3, (.int .i64), .own)]⟩, [.row (.int .i64)]⟩
noncomputable def E122 : Fun2 := eOf sg122 S.TopOf
theorem ev122 (a : Args sg122.ks) : evS Tryz.prog G122 L122 (0, 0) [] Tryz.f122 c122 (kOf sg122) (sg122.sk.fl (encP sg122.ks a)) = unc sg122.ks S.TopOf a := by kernel_rfl
theorem good122 : Vm.Good Tryz.prog 122 E122 := good_gen (G := G122) (L := L122) (c := c122) (rn := []) (N := (0, 0)) envNil_good lp122 Tryz.func122 (by kernel_rfl) (by kernel_rfl) (fun _ => by kernel_rfl) ev122
noncomputable def G213 : Env := envNil
noncomputable def c213 : Code := bodyOf Tryz.f213
noncomputable def c213_4 : Code := (loopsOf c213).getD 0 .skip
noncomputable def S.l07Same_l0 : Nat → (Bool → Option Bool) → (Option Bool) → Int → List Int → List Int → Option Bool
  | 0, _, _, _, _, _ => none
  | m + 1, e4_0, e4_1, a5, a6, a7 =>
    (bif (decide (a5 < (a6.length : Int))) then
    (bif decide ((0 : Int) ≤ a5 ∧ a5 < (a6.length : Int)) then
    (bif decide ((0 : Int) ≤ a5 ∧ a5 < (a7.length : Int)) then
    (bif ((nthI a6 a5 (0 : Int)) != (nthI a7 a5 (0 : Int))) then
    (e4_0 false)
    else
    (S.l07Same_l0 m e4_0 e4_1 (IntKind.wrap .i64 (a5 + 1)) a6 a7))
    else
    none)
    else
    none)
    else
    e4_1)
noncomputable def S.l07Same (a1 a2 : List Int) : Option Bool :=
(bif ((a1.length : Int) != (a2.length : Int)) then
(some false)
else
(S.l07Same_l0 fu (fun y12 =>
(some y12)) (some true) 0 a1 a2))
noncomputable def H213_4 : LoopH := ⟨⟨((.one (.sl 0)) :: (.one (.sl 1)) :: (hu 3 (hh :: (hu 20 [])))), [], [(3, (.int .i64), .ro), (3, (.int .i64), .ro)]⟩, ([2, 3, 4] ++ rg 6 20), [], (rg 0 4 ++ rg 5 21), [], [], [], []⟩
noncomputable def k213_4 : List PK := [.int .i64, .row (.int .i64), .row (.int .i64)]
noncomputable def W213_4 (m : Nat) (k : Kont Bool) : Cur k213_4 (Option Bool) := S.l07Same_l0 m (exF k .ret ⟨(hu 4 (hh :: (hu 21 []))), [], []⟩ [.bool]) (exF k (.exit 0) ⟨(hu 26 []), [], []⟩ [])
noncomputable def E213_4 (m : Nat) : List Prm → Kont Bool → Option Bool := eL k213_4 (W213_4 m)
theorem ev213_4 (m : Nat) (k : Kont Bool) (a : Args k213_4) : evL Tryz.prog G213 loopNil c213_4 (turn Tryz.prog (0, 0) H213_4 (E213_4 m) k) (H213_4.sk.fl (encP k213_4 a)) = unc k213_4 (W213_4 (m + 1) k) a := by kernel_rfl
theorem ok213_4 (m : Nat) : LoopOk Tryz.prog (0, 0) c213_4 (enter Tryz.prog (0, 0) H213_4 (E213_4 m)) := loop_gen (Fl := W213_4) (G := G213) (L := loopNil) envNil_good (no_loops (c := c213_4) (by kernel_rfl)) (fun _ _ => by kernel_rfl) ev213_4 m
noncomputable def L213 : LEnv Bool := (loopCons 4 (enter Tryz.prog (0, 0) H213_4 (E213_4 fu)) loopNil)
theorem lq213 : loopsOf c213 = [c213_4] := by kernel_rfl
theorem fr213_4 : firstReg c213_4 = some 4 := by kernel_rfl
theorem le213_4 : L213 4 = (enter Tryz.prog (0, 0) H213_4 (E213_4 fu)) := by kernel_rfl
theorem lm213 : ∀ x ∈ [c213_4], ∀ id, firstReg x = some id → LoopOk Tryz.prog (0, 0) x (L213 id) := (loops_cons fr213_4 le213_4 (ok213_4 fu) loops_nil)
theorem lp213 : ∀ x ∈ loopsOf c213, ∀ id, firstReg x = some id → LoopOk Tryz.prog (0, 0) x (L213 id) := loops_eq lq213 lm213
noncomputable def sg213 : Sg := ⟨⟨[.one (.sl 0), .one (.sl 1)], [], [(3, (.int .i64), .ro), (3, (.int .i64), .ro)]⟩, [.row (.int .i64), .row (.int .i64)], ⟨[hh], [], []⟩, [.bool]⟩
noncomputable def E213 : Fun2 := eOf sg213 S.l07Same
theorem ev213 (a : Args sg213.ks) : evS Tryz.prog G213 L213 (0, 0) [] Tryz.f213 c213 (kOf sg213) (sg213.sk.fl (encP sg213.ks a)) = unc sg213.ks S.l07Same a := by kernel_rfl
theorem good213 : Vm.Good Tryz.prog 213 E213 := good_gen (G := G213) (L := L213) (c := c213) (rn := []) (N := (0, 0)) envNil_good lp213 Tryz.func213 (by kernel_rfl) (by kernel_rfl) (fun _ => by kernel_rfl) ev213
noncomputable def G121 : Env := envNil
noncomputable def c121 : Code := bodyOf Tryz.f121
noncomputable def S.WideOf (a1 : Int) : Option (Int × Int) :=
(bif (decide (a1 < 0)) then
(some ((-1), (IntKind.wrap .u64 a1)))
else
(some (0, (IntKind.wrap .u64 a1))))
noncomputable def sg121 : Sg := ⟨⟨[hh], [], []⟩, [.int .i64], ⟨[.agg (ho 2 [])], [], []⟩, [.int .i64, .int .u64]⟩
noncomputable def E121 : Fun2 := eOf sg121 S.WideOf
theorem ev121 (a : Args sg121.ks) : evS Tryz.prog G121 loopNil (0, 0) [] Tryz.f121 c121 (kOf sg121) (sg121.sk.fl (encP sg121.ks a)) = unc sg121.ks S.WideOf a := by kernel_rfl
theorem good121 : Vm.Good Tryz.prog 121 E121 := good_gen (G := G121) (L := loopNil) (c := c121) (rn := []) (N := (0, 0)) envNil_good (no_loops (c := c121) (by kernel_rfl)) Tryz.func121 (by kernel_rfl) (by kernel_rfl) (fun _ => by kernel_rfl) ev121
noncomputable def G120 : Env := envNil
noncomputable def c120 : Code := bodyOf Tryz.f120
noncomputable def S.WideAdd (a1 a2 a3 a4 : Int) : Option (Int × Int) :=
(let v5 : Int := (IntKind.wrap .u64 (a2 + a4))
(let v8 : Int := (IntKind.wrap .u64 ((IntKind.wrap .u64 a1) + (IntKind.wrap .u64 a3)))
(bif (decide (v5 < a2)) then
(some ((IntKind.wrap .i64 (IntKind.wrap .u64 (v8 + 1))), v5))
else
(some ((IntKind.wrap .i64 v8), v5)))))
noncomputable def sg120 : Sg := ⟨⟨[.agg (ho 2 []), .agg (ho 2 [])], [], []⟩, [.int .i64, .int .u64, .int .i64, .int .u64], ⟨[.agg (ho 2 [])], [], []⟩, [.int .i64, .int .u64]⟩
noncomputable def E120 : Fun2 := eOf sg120 S.WideAdd
theorem ev120 (a : Args sg120.ks) : evS Tryz.prog G120 loopNil (0, 0) [] Tryz.f120 c120 (kOf sg120) (sg120.sk.fl (encP sg120.ks a)) = unc sg120.ks S.WideAdd a := by kernel_rfl
theorem good120 : Vm.Good Tryz.prog 120 E120 := good_gen (G := G120) (L := loopNil) (c := c120) (rn := []) (N := (0, 0)) envNil_good (no_loops (c := c120) (by kernel_rfl)) Tryz.func120 (by kernel_rfl) (by kernel_rfl) (fun _ => by kernel_rfl) ev120
noncomputable def G326 : Env := (envCons 120 [] E120 envNil)
noncomputable def c326 : Code := bodyOf Tryz.f326
noncomputable def S.WideNeg (a1 a2 : Int) : Option (Int × Int) :=
(Option.bind (S.WideAdd (IntKind.wrap .i64 ((-1) - a1)) (IntKind.wrap .u64 (18446744073709551615 - a2)) 0 1) fun r5 =>
(some (r5.1, r5.2)))
noncomputable def sg326 : Sg := ⟨⟨[.agg (ho 2 [])], [], []⟩, [.int .i64, .int .u64], ⟨[.agg (ho 2 [])], [], []⟩, [.int .i64, .int .u64]⟩
noncomputable def E326 : Fun2 := eOf sg326 S.WideNeg
theorem ev326 (a : Args sg326.ks) : evS Tryz.prog G326 loopNil (0, 0) [] Tryz.f326 c326 (kOf sg326) (sg326.sk.fl (encP sg326.ks a)) = unc sg326.ks S.WideNeg a := by kernel_rfl
theorem good326 : Vm.Good Tryz.prog 326 E326 := good_gen (G := G326) (L := loopNil) (c := c326) (rn := []) (N := (0, 0)) (envCons_good good120 envNil_good) (no_loops (c := c326) (by kernel_rfl)) Tryz.func326 (by kernel_rfl) (by kernel_rfl) (fun _ => by kernel_rfl) ev326
noncomputable def G279 : Env := (envCons 121 [] E121 (envCons 326 [] E326 (envCons 120 [] E120 envNil)))
noncomputable def c279 : Code := bodyOf Tryz.f279
noncomputable def c279_7 : Code := (loopsOf c279).getD 0 .skip
noncomputable def S.l03Times_l0 : Nat → (Int → Int → Int → Int → Option (Int × Int)) → Int → Int → Int → Int → Int → Int → Int → Option (Int × Int)
  | 0, _, _, _, _, _, _, _, _ => none
  | m + 1, e7_0, a8, a9, a10, a11, a12, a13, a14 =>
    (bif (decide (0 < a8)) then
    (bif decide (2 = 0) then
    none
    else
    (bif ((Int.tmod a8 2) == 1) then
    (Option.bind (S.WideAdd a11 a12 a13 a14) fun r17 =>
    (Option.bind (S.WideAdd a13 a14 a13 a14) fun r18 =>
    (bif decide (2 = 0) then
    none
    else
    (S.l03Times_l0 m e7_0 (IntKind.wrap .u64 (Int.tdiv a8 2)) a9 a10 r17.1 r17.2 r18.1 r18.2))))
    else
    (Option.bind (S.WideAdd a13 a14 a13 a14) fun r20 =>
    (bif decide (2 = 0) then
    none
    else
    (S.l03Times_l0 m e7_0 (IntKind.wrap .u64 (Int.tdiv a8 2)) a9 a10 a11 a12 r20.1 r20.2)))))
    else
    (e7_0 a9 a10 a11 a12))
noncomputable def S.l03Times (a1 a2 : Int) : Option (Int × Int) :=
(Option.bind (S.WideOf a1) fun r3 =>
(let v4 : Int := (IntKind.wrap .u64 a2)
(bif (decide (a2 < 0)) then
(Option.bind (S.WideNeg r3.1 r3.2) fun r6 =>
(S.l03Times_l0 fu (fun y22 y23 y24 y25 =>
(some (y24, y25))) (IntKind.wrap .u64 (0 - v4)) 0 0 0 0 r6.1 r6.2))
else
(S.l03Times_l0 fu (fun y26 y27 y28 y29 =>
(some (y28, y29))) v4 0 0 0 0 r3.1 r3.2))))
noncomputable def H279_7 : LoopH := ⟨⟨(hu 4 ((.one (.ptr 0 0)) :: (.one (.ptr 1 0)) :: (.one (.ptr 2 0)) :: hh :: (hu 25 []))), [(108, (ho 2 [])), (108, (ho 2 [])), (108, (ho 2 []))], []⟩, (rg 0 4 ++ rg 8 25), [], (rg 0 4 ++ rg 6 27), [], [], [], []⟩
noncomputable def k279_7 : List PK := [.int .u64, .int .i64, .int .u64, .int .i64, .int .u64, .int .i64, .int .u64]
noncomputable def W279_7 (m : Nat) (k : Kont (Int × Int)) : Cur k279_7 (Option (Int × Int)) := S.l03Times_l0 m (exF k (.exit 0) ⟨(hu 4 ((.one (.ptr 0 0)) :: (.one (.ptr 1 0)) :: (hu 27 []))), [(108, (ho 2 [])), (108, (ho 2 []))], []⟩ [.int .i64, .int .u64, .int .i64, .int .u64])
noncomputable def E279_7 (m : Nat) : List Prm → Kont (Int × Int) → Option (Int × Int) := eL k279_7 (W279_7 m)
theorem ev279_7 (m : Nat) (k : Kont (Int × Int)) (a : Args k279_7) : evL Tryz.prog G279 loopNil c279_7 (turn Tryz.prog (0, 0) H279_7 (E279_7 m) k) (H279_7.sk.fl (encP k279_7 a)) = unc k279_7 (W279_7 (m + 1) k) a := by kernel_rfl
theorem ok279_7 (m : Nat) : LoopOk Tryz.prog (0, 0) c279_7 (enter Tryz.prog (0, 0) H279_7 (E279_7 m)) := loop_gen (Fl := W279_7) (G := G279) (L := loopNil) (envCons_good good121 (envCons_good good326 (envCons_good good120 envNil_good))) (no_loops (c := c279_7) (by kernel_rfl)) (fun _ _ => by kernel_rfl) ev279_7 m
noncomputable def L279 : LEnv (Int × Int) := (loopCons 7 (enter Tryz.prog (0, 0) H279_7 (E279_7 fu)) loopNil)
theorem lq279 : loopsOf c279 = [c279_7] := by kernel_rfl
theorem fr279_7 : firstReg c279_7 = some 7 := by kernel_rfl
theorem le279_7 : L279 7 = (enter Tryz.prog (0, 0) H279_7 (E279_7 fu)) := by kernel_rfl
theorem lm279 : ∀ x ∈ [c279_7], ∀ id, firstReg x = some id → LoopOk Tryz.prog (0, 0) x (L279 id) := (loops_cons fr279_7 le279_7 (ok279_7 fu) loops_nil)
theorem lp279 : ∀ x ∈ loopsOf c279, ∀ id, firstReg x = some id → LoopOk Tryz.prog (0, 0) x (L279 id) := loops_eq lq279 lm279
noncomputable def sg279 : Sg := ⟨⟨[hh, hh], [], []⟩, (ki 2 []), ⟨[.agg (ho 2 [])], [], []⟩, [.int .i64, .int .u64]⟩
noncomputable def E279 : Fun2 := eOf sg279 S.l03Times
theorem ev279 (a : Args sg279.ks) : evS Tryz.prog G279 L279 (0, 0) [] Tryz.f279 c279 (kOf sg279) (sg279.sk.fl (encP sg279.ks a)) = unc sg279.ks S.l03Times a := by kernel_rfl
theorem good279 : Vm.Good Tryz.prog 279 E279 := good_gen (G := G279) (L := L279) (c := c279) (rn := []) (N := (0, 0)) (envCons_good good121 (envCons_good good326 (envCons_good good120 envNil_good))) lp279 Tryz.func279 (by kernel_rfl) (by kernel_rfl) (fun _ => by kernel_rfl) ev279
noncomputable def G214 : Env := (envCons 279 [] E279 envNil)
noncomputable def c214 : Code := bodyOf Tryz.f214
noncomputable def S.l07Times (a1 a2 : Int) : Option (Int × Int) :=
(Option.bind (S.l03Times a1 a2) fun r3 =>
(some (r3.1, r3.2)))
noncomputable def sg214 : Sg := ⟨⟨[hh, hh], [], []⟩, (ki 2 []), ⟨[.agg (ho 2 [])], [], []⟩, [.int .i64, .int .u64]⟩
noncomputable def E214 : Fun2 := eOf sg214 S.l07Times
theorem ev214 (a : Args sg214.ks) : evS Tryz.prog G214 loopNil (0, 0) [] Tryz.f214 c214 (kOf sg214) (sg214.sk.fl (encP sg214.ks a)) = unc sg214.ks S.l07Times a := by kernel_rfl
theorem good214 : Vm.Good Tryz.prog 214 E214 := good_gen (G := G214) (L := loopNil) (c := c214) (rn := []) (N := (0, 0)) (envCons_good good279 envNil_good) (no_loops (c := c214) (by kernel_rfl)) Tryz.func214 (by kernel_rfl) (by kernel_rfl) (fun _ => by kernel_rfl) ev214
noncomputable def G215 : Env := envNil
noncomputable def c215 : Code := bodyOf Tryz.f215
noncomputable def S.WideCmp (a1 a2 a3 a4 : Int) : Option Int :=
(bif (a1 != a3) then
(bif (decide (a1 < a3)) then
(some (-1))
else
(some 1))
else
(bif (a2 != a4) then
(bif (decide (a2 < a4)) then
(some (-1))
else
(some 1))
else
(some 0)))
noncomputable def sg215 : Sg := ⟨⟨[.agg (ho 2 []), .agg (ho 2 [])], [], []⟩, [.int .i64, .int .u64, .int .i64, .int .u64], ⟨[hh], [], []⟩, [.int .i64]⟩
noncomputable def E215 : Fun2 := eOf sg215 S.WideCmp
theorem ev215 (a : Args sg215.ks) : evS Tryz.prog G215 loopNil (0, 0) [] Tryz.f215 c215 (kOf sg215) (sg215.sk.fl (encP sg215.ks a)) = unc sg215.ks S.WideCmp a := by kernel_rfl
theorem good215 : Vm.Good Tryz.prog 215 E215 := good_gen (G := G215) (L := loopNil) (c := c215) (rn := []) (N := (0, 0)) envNil_good (no_loops (c := c215) (by kernel_rfl)) Tryz.func215 (by kernel_rfl) (by kernel_rfl) (fun _ => by kernel_rfl) ev215
noncomputable def G125 : Env := (envCons 122 [] E122 (envCons 213 [] E213 (envCons 121 [] E121 (envCons 120 [] E120 (envCons 214 [] E214 (envCons 215 [] E215 envNil))))))
noncomputable def c125 : Code := bodyOf Tryz.f125
noncomputable def c125_9 : Code := (loopsOf c125).getD 0 .skip
noncomputable def S.AggOk_l0 : Nat → (Int → Int → Int → Int → Int → Int → Int → List Int → Option Bool) → Int → Int → Int → Int → Int → Int → Int → Int → List Int → Option Bool
  | 0, _, _, _, _, _, _, _, _, _, _ => none
  | m + 1, e9_0, a18, a19, a20, a21, a22, a23, a24, a25, a26 =>
    (bif (decide (a18 < (a26.length : Int))) then
    (bif decide ((0 : Int) ≤ a18 ∧ a18 < (a26.length : Int)) then
    (Option.bind (S.WideOf (nthI a26 a18 (0 : Int))) fun r29 =>
    (Option.bind (S.WideAdd a24 a25 r29.1 r29.2) fun r30 =>
    (S.AggOk_l0 m e9_0 (IntKind.wrap .i64 (a18 + 1)) a19 a20 a21 a22 a23 r30.1 r30.2 a26)))
    else
    none)
    else
    (e9_0 a19 a20 a21 a22 a23 a24 a25 a26))
noncomputable def S.AggOk (a1 a2 a3 a4 a5 : Int) (a6 : List Int) : Option Bool :=
(bif (decide (a1 < 0)) then
(some false)
else
(bif (decide (1000000 < a1)) then
(some false)
else
(bif ((a6.length : Int) != (if 4 < a1 then 4 else a1)) then
(some false)
else
(bif (a1 == 0) then
(bif ((a2 == 0) && ((a3 == 0) && true)) then
(bif (a4 == 0) then
(some (a5 == 0))
else
(some false))
else
(some false))
else
(Option.bind (S.TopOf a6 []) fun r12 =>
(Option.bind (S.l07Same r12 a6) fun r13 =>
(bif (!r13) then
(some false)
else
(bif decide ((0 : Int) ≤ 0 ∧ 0 < (a6.length : Int)) then
(bif ((nthI a6 0 (0 : Int)) != a5) then
(some false)
else
(let v16 : Int := (IntKind.wrap .i64 ((a6.length : Int) - 1))
(bif decide ((0 : Int) ≤ v16 ∧ v16 < (a6.length : Int)) then
(bif (decide ((nthI a6 v16 (0 : Int)) < a4)) then
(some false)
else
(S.AggOk_l0 fu (fun y32 y33 y34 y35 y36 y37 y38 y39 =>
(let v41 : Int := (IntKind.wrap .i64 (y32 - (y39.length : Int)))
(bif (v41 == 0) then
(let v43 : Int := (IntKind.wrap .i64 ((y39.length : Int) - 1))
(bif decide ((0 : Int) ≤ v43 ∧ v43 < (y39.length : Int)) then
(bif (y35 == (nthI y39 v43 (0 : Int))) then
(some ((y33 == y37) && ((y34 == y38) && true)))
else
(some false))
else
none))
else
(same (Option.bind (S.l07Times v41 y35) fun r46 =>
(dup (Option.bind (S.WideAdd y37 y38 r46.1 r46.2) fun r47 =>
(let v48 : Int := (IntKind.wrap .i64 (v41 - 1))
(bif decide ((0 : Int) ≤ 3 ∧ 3 < (y39.length : Int)) then
(same (Option.bind (S.WideOf y35) fun r49 =>
(same (Option.bind (S.WideAdd y37 y38 r49.1 r49.2) fun r50 =>
(same (Option.bind (S.l07Times v48 (nthI y39 3 (0 : Int))) fun r51 =>
(dup (Option.bind (S.WideAdd r50.1 r50.2 r51.1 r51.2) fun r52 =>
(Option.bind (S.WideCmp y33 y34 r47.1 r47.2) fun r53 =>
(bif (decide (0 ≤ r53)) then
(Option.bind (S.WideCmp y33 y34 r52.1 r52.2) fun r55 =>
(some (decide (r55 ≤ 0))))
else
(some false))))))
(Option.bind (S.l07Times v48 (nthI y39 3 (0 : Int))) fun r51 =>
(Option.bind (S.WideAdd r50.1 r50.2 r51.1 r51.2) fun r52 =>
(Option.bind (S.WideCmp y33 y34 r47.1 r47.2) fun r53 =>
(bif (decide (0 ≤ r53)) then
(Option.bind (S.WideCmp y33 y34 r52.1 r52.2) fun r55 =>
(some (decide (r55 ≤ 0))))
else
(some false)))))))
(Option.bind (S.WideAdd y37 y38 r49.1 r49.2) fun r50 =>
(Option.bind (S.l07Times v48 (nthI y39 3 (0 : Int))) fun r51 =>
(Option.bind (S.WideAdd r50.1 r50.2 r51.1 r51.2) fun r52 =>
(Option.bind (S.WideCmp y33 y34 r47.1 r47.2) fun r53 =>
(bif (decide (0 ≤ r53)) then
(Option.bind (S.WideCmp y33 y34 r52.1 r52.2) fun r55 =>
(some (decide (r55 ≤ 0))))
else
(some false))))))))
(Option.bind (S.WideOf y35) fun r49 =>
(Option.bind (S.WideAdd y37 y38 r49.1 r49.2) fun r50 =>
(Option.bind (S.l07Times v48 (nthI y39 3 (0 : Int))) fun r51 =>
(Option.bind (S.WideAdd r50.1 r50.2 r51.1 r51.2) fun r52 =>
(Option.bind (S.WideCmp y33 y34 r47.1 r47.2) fun r53 =>
(bif (decide (0 ≤ r53)) then
(Option.bind (S.WideCmp y33 y34 r52.1 r52.2) fun r55 =>
(some (decide (r55 ≤ 0))))
else
(some false))))))))
else
none)))))
(Option.bind (S.l07Times v41 y35) fun r46 =>
(Option.bind (S.WideAdd y37 y38 r46.1 r46.2) fun r47 =>
(let v48 : Int := (IntKind.wrap .i64 (v41 - 1))
(bif decide ((0 : Int) ≤ 3 ∧ 3 < (y39.length : Int)) then
(same (Option.bind (S.WideOf y35) fun r49 =>
(same (Option.bind (S.WideAdd y37 y38 r49.1 r49.2) fun r50 =>
(same (Option.bind (S.l07Times v48 (nthI y39 3 (0 : Int))) fun r51 =>
(dup (Option.bind (S.WideAdd r50.1 r50.2 r51.1 r51.2) fun r52 =>
(Option.bind (S.WideCmp y33 y34 r47.1 r47.2) fun r53 =>
(bif (decide (0 ≤ r53)) then
(Option.bind (S.WideCmp y33 y34 r52.1 r52.2) fun r55 =>
(some (decide (r55 ≤ 0))))
else
(some false))))))
(Option.bind (S.l07Times v48 (nthI y39 3 (0 : Int))) fun r51 =>
(Option.bind (S.WideAdd r50.1 r50.2 r51.1 r51.2) fun r52 =>
(Option.bind (S.WideCmp y33 y34 r47.1 r47.2) fun r53 =>
(bif (decide (0 ≤ r53)) then
(Option.bind (S.WideCmp y33 y34 r52.1 r52.2) fun r55 =>
(some (decide (r55 ≤ 0))))
else
(some false)))))))
(Option.bind (S.WideAdd y37 y38 r49.1 r49.2) fun r50 =>
(Option.bind (S.l07Times v48 (nthI y39 3 (0 : Int))) fun r51 =>
(Option.bind (S.WideAdd r50.1 r50.2 r51.1 r51.2) fun r52 =>
(Option.bind (S.WideCmp y33 y34 r47.1 r47.2) fun r53 =>
(bif (decide (0 ≤ r53)) then
(Option.bind (S.WideCmp y33 y34 r52.1 r52.2) fun r55 =>
(some (decide (r55 ≤ 0))))
else
(some false))))))))
(Option.bind (S.WideOf y35) fun r49 =>
(Option.bind (S.WideAdd y37 y38 r49.1 r49.2) fun r50 =>
(Option.bind (S.l07Times v48 (nthI y39 3 (0 : Int))) fun r51 =>
(Option.bind (S.WideAdd r50.1 r50.2 r51.1 r51.2) fun r52 =>
(Option.bind (S.WideCmp y33 y34 r47.1 r47.2) fun r53 =>
(bif (decide (0 ≤ r53)) then
(Option.bind (S.WideCmp y33 y34 r52.1 r52.2) fun r55 =>
(some (decide (r55 ≤ 0))))
else
(some false))))))))
else
none)))))))) 0 a1 a2 a3 a4 a5 0 0 a6))
else
none)))
else
none))))))))
noncomputable def H125_9 : LoopH := ⟨⟨((.one (.unk)) :: (.one (.ptr 0 0)) :: (.one (.unk)) :: (.one (.ptr 1 0)) :: hh :: (hu 138 [])), [(110, (ho 5 [.sl 0])), (108, (ho 2 []))], [(3, (.int .i64), .ro)]⟩, ([0, 2] ++ rg 5 138), [], ([0] ++ rg 4 139), [], [], [], []⟩
noncomputable def k125_9 : List PK := (ki 3 ((.int .u64) :: (ki 3 [.int .u64, .row (.int .i64)])))
noncomputable def W125_9 (m : Nat) (k : Kont Bool) : Cur k125_9 (Option Bool) := S.AggOk_l0 m (exF k (.exit 0) ⟨((.one (.unk)) :: (.one (.ptr 0 0)) :: (.one (.unk)) :: (.one (.ptr 1 0)) :: (hu 139 [])), [(110, (ho 5 [.sl 0])), (108, (ho 2 []))], [(3, (.int .i64), .ro)]⟩ (ki 2 ((.int .u64) :: (ki 3 [.int .u64, .row (.int .i64)]))))
noncomputable def E125_9 (m : Nat) : List Prm → Kont Bool → Option Bool := eL k125_9 (W125_9 m)
theorem ev125_9 (m : Nat) (k : Kont Bool) (a : Args k125_9) : evL Tryz.prog G125 loopNil c125_9 (turn Tryz.prog (0, 0) H125_9 (E125_9 m) k) (H125_9.sk.fl (encP k125_9 a)) = unc k125_9 (W125_9 (m + 1) k) a := by kernel_rfl
theorem ok125_9 (m : Nat) : LoopOk Tryz.prog (0, 0) c125_9 (enter Tryz.prog (0, 0) H125_9 (E125_9 m)) := loop_gen (Fl := W125_9) (G := G125) (L := loopNil) (envCons_good good122 (envCons_good good213 (envCons_good good121 (envCons_good good120 (envCons_good good214 (envCons_good good215 envNil_good)))))) (no_loops (c := c125_9) (by kernel_rfl)) (fun _ _ => by kernel_rfl) ev125_9 m
noncomputable def L125 : LEnv Bool := (loopCons 9 (enter Tryz.prog (0, 0) H125_9 (E125_9 fu)) loopNil)
theorem lq125 : loopsOf c125 = [c125_9] := by kernel_rfl
theorem fr125_9 : firstReg c125_9 = some 9 := by kernel_rfl
theorem le125_9 : L125 9 = (enter Tryz.prog (0, 0) H125_9 (E125_9 fu)) := by kernel_rfl
theorem lm125 : ∀ x ∈ [c125_9], ∀ id, firstReg x = some id → LoopOk Tryz.prog (0, 0) x (L125 id) := (loops_cons fr125_9 le125_9 (ok125_9 fu) loops_nil)
theorem lp125 : ∀ x ∈ loopsOf c125, ∀ id, firstReg x = some id → LoopOk Tryz.prog (0, 0) x (L125 id) := loops_eq lq125 lm125
noncomputable def sg125 : Sg := ⟨⟨[.agg (ho 5 [.sl 0])], [], [(3, (.int .i64), .ro)]⟩, (ki 2 ((.int .u64) :: (ki 2 [.row (.int .i64)]))), ⟨[hh], [], []⟩, [.bool]⟩
noncomputable def E125 : Fun2 := eOf sg125 S.AggOk
theorem ev125 (a : Args sg125.ks) : evS Tryz.prog G125 L125 (0, 0) [] Tryz.f125 c125 (kOf sg125) (sg125.sk.fl (encP sg125.ks a)) = unc sg125.ks S.AggOk a := by kernel_rfl
theorem good125 : Vm.Good Tryz.prog 125 E125 := good_gen (G := G125) (L := L125) (c := c125) (rn := []) (N := (0, 0)) (envCons_good good122 (envCons_good good213 (envCons_good good121 (envCons_good good120 (envCons_good good214 (envCons_good good215 envNil_good)))))) lp125 Tryz.func125 (by kernel_rfl) (by kernel_rfl) (fun _ => by kernel_rfl) ev125
noncomputable def G51 : Env := (envCons 123 [] E123 (envCons 124 [] E124 (envCons 125 [] E125 envNil)))
noncomputable def c51 : Code := bodyOf Tryz.f51
noncomputable def S.CellOk (a1 a2 a3 a4 a5 a6 a7 a8 a9 a10 : Int) (a11 : List Int) : Option Bool :=
(bif (decide (0 ≤ a1)) then
(bif (decide (a1 < 4)) then
(Option.bind (S.l04Key a2) fun r14 =>
(bif r14 then
(Option.bind (S.l06Win a3 a4) fun r15 =>
(bif r15 then
(bif (decide (0 ≤ a5)) then
(bif (decide (a5 < 16)) then
(Option.bind (S.AggOk a6 a7 a8 a9 a10 a11) fun r18 =>
(bif r18 then
(some (decide (0 < a6)))
else
(some false)))
else
(some false))
else
(some false))
else
(some false)))
else
(some false)))
else
(some false))
else
(some false))
noncomputable def sg51 : Sg := ⟨⟨[.agg (ho 10 [.sl 0])], [], [(3, (.int .i64), .ro)]⟩, (ki 7 ((.int .u64) :: (ki 2 [.row (.int .i64)]))), ⟨[hh], [], []⟩, [.bool]⟩
noncomputable def E51 : Fun2 := eOf sg51 S.CellOk
theorem ev51 (a : Args sg51.ks) : evS Tryz.prog G51 loopNil (0, 0) [] Tryz.f51 c51 (kOf sg51) (sg51.sk.fl (encP sg51.ks a)) = unc sg51.ks S.CellOk a := by kernel_rfl
theorem good51 : Vm.Good Tryz.prog 51 E51 := good_gen (G := G51) (L := loopNil) (c := c51) (rn := []) (N := (0, 0)) (envCons_good good123 (envCons_good good124 (envCons_good good125 envNil_good))) (no_loops (c := c51) (by kernel_rfl)) Tryz.func51 (by kernel_rfl) (by kernel_rfl) (fun _ => by kernel_rfl) ev51
noncomputable def G116 : Env := envNil
noncomputable def c116 : Code := bodyOf Tryz.f116
noncomputable def S.l09Less (a1 a2 a3 a4 a5 a6 a7 a8 a9 a10 a11 a12 a13 a14 a15 a16 a17 a18 a19 a20 : Int) (a21 a22 : List Int) : Option Bool :=
(bif (a1 != a11) then
(some (decide (a1 < a11)))
else
(bif (a2 != a12) then
(some (decide (a2 < a12)))
else
(bif (a3 != a13) then
(some (decide (a3 < a13)))
else
(bif (a4 != a14) then
(some (decide (a4 < a14)))
else
(some (decide (a5 < a15)))))))
noncomputable def sg116 : Sg := ⟨⟨[.agg (ho 10 [.sl 0]), .agg (ho 10 [.sl 1])], [], [(3, (.int .i64), .ro), (3, (.int .i64), .ro)]⟩, (ki 7 ((.int .u64) :: (ki 9 ((.int .u64) :: (ki 2 [.row (.int .i64), .row (.int .i64)]))))), ⟨[hh], [], []⟩, [.bool]⟩
noncomputable def E116 : Fun2 := eOf sg116 S.l09Less
theorem ev116 (a : Args sg116.ks) : evS Tryz.prog G116 loopNil (0, 0) [] Tryz.f116 c116 (kOf sg116) (sg116.sk.fl (encP sg116.ks a)) = unc sg116.ks S.l09Less a := by kernel_rfl
theorem good116 : Vm.Good Tryz.prog 116 E116 := good_gen (G := G116) (L := loopNil) (c := c116) (rn := []) (N := (0, 0)) envNil_good (no_loops (c := c116) (by kernel_rfl)) Tryz.func116 (by kernel_rfl) (by kernel_rfl) (fun _ => by kernel_rfl) ev116
noncomputable def G47 : Env := (envCons 51 [] E51 (envCons 116 [] E116 envNil))
noncomputable def c47 : Code := bodyOf Tryz.f47
noncomputable def c47_4 : Code := (loopsOf c47).getD 0 .skip
noncomputable def S.CellsOk_l0 : Nat → (Bool → Option Bool) → (Option Bool) → Int → (List ty12) → Option Bool
  | 0, _, _, _, _ => none
  | m + 1, e4_0, e4_1, a4, a5 =>
    (bif (decide (a4 < (a5.length : Int))) then
    (bif decide ((0 : Int) ≤ a4 ∧ a4 < (a5.length : Int)) then
    (Option.bind (S.CellOk ((nthI a5 a4 df1).1) ((nthI a5 a4 df1).2.1) ((nthI a5 a4 df1).2.2.1) ((nthI a5 a4 df1).2.2.2.1) ((nthI a5 a4 df1).2.2.2.2.1) ((nthI a5 a4 df1).2.2.2.2.2.1) ((nthI a5 a4 df1).2.2.2.2.2.2.1.1) ((nthI a5 a4 df1).2.2.2.2.2.2.1.2) ((nthI a5 a4 df1).2.2.2.2.2.2.2.1) ((nthI a5 a4 df1).2.2.2.2.2.2.2.2.1) ((nthI a5 a4 df1).2.2.2.2.2.2.2.2.2)) fun r8 =>
    (bif (!r8) then
    (e4_0 false)
    else
    (bif (decide (0 < a4)) then
    (let v10 : Int := (IntKind.wrap .i64 (a4 - 1))
    (bif decide ((0 : Int) ≤ v10 ∧ v10 < (a5.length : Int)) then
    (bif decide ((0 : Int) ≤ a4 ∧ a4 < (a5.length : Int)) then
    (Option.bind (S.l09Less ((nthI a5 v10 df1).1) ((nthI a5 v10 df1).2.1) ((nthI a5 v10 df1).2.2.1) ((nthI a5 v10 df1).2.2.2.1) ((nthI a5 v10 df1).2.2.2.2.1) ((nthI a5 v10 df1).2.2.2.2.2.1) ((nthI a5 v10 df1).2.2.2.2.2.2.1.1) ((nthI a5 v10 df1).2.2.2.2.2.2.1.2) ((nthI a5 v10 df1).2.2.2.2.2.2.2.1) ((nthI a5 v10 df1).2.2.2.2.2.2.2.2.1) ((nthI a5 a4 df1).1) ((nthI a5 a4 df1).2.1) ((nthI a5 a4 df1).2.2.1) ((nthI a5 a4 df1).2.2.2.1) ((nthI a5 a4 df1).2.2.2.2.1) ((nthI a5 a4 df1).2.2.2.2.2.1) ((nthI a5 a4 df1).2.2.2.2.2.2.1.1) ((nthI a5 a4 df1).2.2.2.2.2.2.1.2) ((nthI a5 a4 df1).2.2.2.2.2.2.2.1) ((nthI a5 a4 df1).2.2.2.2.2.2.2.2.1) ((nthI a5 v10 df1).2.2.2.2.2.2.2.2.2) ((nthI a5 a4 df1).2.2.2.2.2.2.2.2.2)) fun r11 =>
    (bif (!r11) then
    (e4_0 false)
    else
    (S.CellsOk_l0 m e4_0 e4_1 (IntKind.wrap .i64 (a4 + 1)) a5)))
    else
    none)
    else
    none))
    else
    (S.CellsOk_l0 m e4_0 e4_1 (IntKind.wrap .i64 (a4 + 1)) a5))))
    else
    none)
    else
    e4_1)
noncomputable def S.CellsOk (a1 : List ty12) : Option Bool :=
(bif (decide (10000 < (a1.length : Int))) then
(some false)
else
(S.CellsOk_l0 fu (fun y14 =>
(some y14)) (some true) 0 a1))
noncomputable def H47_4 : LoopH := ⟨⟨((.one (.sl 0)) :: (hu 2 (hh :: (hu 32 [])))), [], [(113, sh1, .ro)]⟩, ([1, 2] ++ rg 4 32), [], ([0, 1] ++ rg 3 33), [], [], [], []⟩
noncomputable def k47_4 : List PK := [.int .i64, .row sh1]
noncomputable def W47_4 (m : Nat) (k : Kont Bool) : Cur k47_4 (Option Bool) := S.CellsOk_l0 m (exF k .ret ⟨(hu 2 (hh :: (hu 33 []))), [], []⟩ [.bool]) (exF k (.exit 0) ⟨(hu 36 []), [], []⟩ [])
noncomputable def E47_4 (m : Nat) : List Prm → Kont Bool → Option Bool := eL k47_4 (W47_4 m)
theorem ev47_4 (m : Nat) (k : Kont Bool) (a : Args k47_4) : evL Tryz.prog G47 loopNil c47_4 (turn Tryz.prog (0, 0) H47_4 (E47_4 m) k) (H47_4.sk.fl (encP k47_4 a)) = unc k47_4 (W47_4 (m + 1) k) a := by kernel_rfl
theorem ok47_4 (m : Nat) : LoopOk Tryz.prog (0, 0) c47_4 (enter Tryz.prog (0, 0) H47_4 (E47_4 m)) := loop_gen (Fl := W47_4) (G := G47) (L := loopNil) (envCons_good good51 (envCons_good good116 envNil_good)) (no_loops (c := c47_4) (by kernel_rfl)) (fun _ _ => by kernel_rfl) ev47_4 m
noncomputable def L47 : LEnv Bool := (loopCons 4 (enter Tryz.prog (0, 0) H47_4 (E47_4 fu)) loopNil)
theorem lq47 : loopsOf c47 = [c47_4] := by kernel_rfl
theorem fr47_4 : firstReg c47_4 = some 4 := by kernel_rfl
theorem le47_4 : L47 4 = (enter Tryz.prog (0, 0) H47_4 (E47_4 fu)) := by kernel_rfl
theorem lm47 : ∀ x ∈ [c47_4], ∀ id, firstReg x = some id → LoopOk Tryz.prog (0, 0) x (L47 id) := (loops_cons fr47_4 le47_4 (ok47_4 fu) loops_nil)
theorem lp47 : ∀ x ∈ loopsOf c47, ∀ id, firstReg x = some id → LoopOk Tryz.prog (0, 0) x (L47 id) := loops_eq lq47 lm47
noncomputable def sg47 : Sg := ⟨⟨[.one (.sl 0)], [], [(113, sh1, .ro)]⟩, [.row sh1], ⟨[hh], [], []⟩, [.bool]⟩
noncomputable def E47 : Fun2 := eOf sg47 S.CellsOk
theorem ev47 (a : Args sg47.ks) : evS Tryz.prog G47 L47 (0, 0) [] Tryz.f47 c47 (kOf sg47) (sg47.sk.fl (encP sg47.ks a)) = unc sg47.ks S.CellsOk a := by kernel_rfl
theorem good47 : Vm.Good Tryz.prog 47 E47 := good_gen (G := G47) (L := L47) (c := c47) (rn := []) (N := (0, 0)) (envCons_good good51 (envCons_good good116 envNil_good)) lp47 Tryz.func47 (by kernel_rfl) (by kernel_rfl) (fun _ => by kernel_rfl) ev47
noncomputable def G117 : Env := envNil
noncomputable def c117 : Code := bodyOf Tryz.f117
noncomputable def S.WinOk (a1 a2 a3 : Int) : Option Bool :=
(bif (decide (a1 < 1)) then
(some false)
else
(bif (decide (3 < a1)) then
(some false)
else
(bif (decide (a2 < 1)) then
(some false)
else
(bif (decide (100 < a2)) then
(some false)
else
(bif (a1 != 2) then
(some (a3 == 0))
else
(bif (decide (1 ≤ a3)) then
(bif (decide (a3 ≤ a2)) then
(some (decide (a2 ≤ (IntKind.wrap .i64 (8 * a3)))))
else
(some false))
else
(some false)))))))
noncomputable def sg117 : Sg := ⟨⟨[.agg (ho 3 [])], [], []⟩, (ki 3 []), ⟨[hh], [], []⟩, [.bool]⟩
noncomputable def E117 : Fun2 := eOf sg117 S.WinOk
theorem ev117 (a : Args sg117.ks) : evS Tryz.prog G117 loopNil (0, 0) [] Tryz.f117 c117 (kOf sg117) (sg117.sk.fl (encP sg117.ks a)) = unc sg117.ks S.WinOk a := by kernel_rfl
theorem good117 : Vm.Good Tryz.prog 117 E117 := good_gen (G := G117) (L := loopNil) (c := c117) (rn := []) (N := (0, 0)) envNil_good (no_loops (c := c117) (by kernel_rfl)) Tryz.func117 (by kernel_rfl) (by kernel_rfl) (fun _ => by kernel_rfl) ev117
noncomputable def G118 : Env := envNil
noncomputable def c118 : Code := bodyOf Tryz.f118
noncomputable def S.l05Time (a1 : Int) : Option Bool :=
(bif (decide (0 ≤ a1)) then
(some (decide (a1 ≤ 1000)))
else
(some false))
noncomputable def sg118 : Sg := ⟨⟨[hh], [], []⟩, [.int .i64], ⟨[hh], [], []⟩, [.bool]⟩
noncomputable def E118 : Fun2 := eOf sg118 S.l05Time
theorem ev118 (a : Args sg118.ks) : evS Tryz.prog G118 loopNil (0, 0) [] Tryz.f118 c118 (kOf sg118) (sg118.sk.fl (encP sg118.ks a)) = unc sg118.ks S.l05Time a := by kernel_rfl
theorem good118 : Vm.Good Tryz.prog 118 E118 := good_gen (G := G118) (L := loopNil) (c := c118) (rn := []) (N := (0, 0)) envNil_good (no_loops (c := c118) (by kernel_rfl)) Tryz.func118 (by kernel_rfl) (by kernel_rfl) (fun _ => by kernel_rfl) ev118
noncomputable def G48 : Env := (envCons 117 [] E117 (envCons 118 [] E118 envNil))
noncomputable def c48 : Code := bodyOf Tryz.f48
noncomputable def c48_11 : Code := (loopsOf c48).getD 0 .skip
noncomputable def S.WinsOf_l0 : Nat → ((List (Int × Int)) → Option ((List (Int × Int)))) → Int → Int → Int → Int → Int → (List (Int × Int)) → Option ((List (Int × Int)))
  | 0, _, _, _, _, _, _, _ => none
  | m + 1, e11_0, a11, a12, a13, a14, a15, a16 =>
    (bif (decide (a12 ≤ a11)) then
    (bif (decide (a11 < (IntKind.wrap .i64 (a12 + a14)))) then
    (let v20 : Int := (IntKind.wrap .i64 (a12 + a14))
    (bif decide ((a16.length + [(a12, v20)].length) * 16 ≤ 140737488355328) then
    (S.WinsOf_l0 m e11_0 a11 (IntKind.wrap .i64 (a12 + a15)) a13 a14 a15 (a16 ++ [(a12, v20)]))
    else
    none))
    else
    (S.WinsOf_l0 m e11_0 a11 (IntKind.wrap .i64 (a12 + a15)) a13 a14 a15 a16))
    else
    (e11_0 a16))
noncomputable def S.WinsOf (a1 a2 a3 a4 : Int) : Option ((List (Int × Int))) :=
(Option.bind (S.WinOk a1 a2 a3) fun r5 =>
(bif (!r5) then
(some [])
else
(Option.bind (S.l05Time a4) fun r6 =>
(bif (!r6) then
(some [])
else
(bif (a1 == 1) then
(bif decide (a2 = 0) then
none
else
(let v8 : Int := (IntKind.wrap .i64 ((IntKind.wrap .i64 (Int.tdiv a4 a2)) * a2))
(some [(v8, (IntKind.wrap .i64 (v8 + a2)))])))
else
(bif (a1 == 3) then
(some [(a4, (IntKind.wrap .i64 (a4 + a2)))])
else
(S.WinsOf_l0 fu (fun y24 =>
(some y24)) a4 0 a1 a2 a3 [])))))))
noncomputable def H48_11 : LoopH := ⟨⟨((.one (.unk)) :: hh :: (.one (.ptr 0 0)) :: (hu 3 ((.one (.sl 0)) :: hh :: (hu 59 [])))), [(30, (ho 3 []))], [(107, sh2, .own)]⟩, ([0, 3, 4, 5] ++ rg 8 59), [], (rg 0 4 ++ [5] ++ rg 7 60), [], [], [], []⟩
noncomputable def k48_11 : List PK := (ki 5 [.row sh2])
noncomputable def W48_11 (m : Nat) (k : Kont ((List (Int × Int)))) : Cur k48_11 (Option ((List (Int × Int)))) := S.WinsOf_l0 m (exF k (.exit 1) ⟨(hu 6 ((.one (.sl 0)) :: (hu 60 []))), [], [(107, sh2, .own)]⟩ [.row sh2])
noncomputable def E48_11 (m : Nat) : List Prm → Kont ((List (Int × Int))) → Option ((List (Int × Int))) := eL k48_11 (W48_11 m)
theorem ev48_11 (m : Nat) (k : Kont ((List (Int × Int)))) (a : Args k48_11) : evL Tryz.prog G48 loopNil c48_11 (turn Tryz.prog (0, 0) H48_11 (E48_11 m) k) (H48_11.sk.fl (encP k48_11 a)) = unc k48_11 (W48_11 (m + 1) k) a := by kernel_rfl
theorem ok48_11 (m : Nat) : LoopOk Tryz.prog (0, 0) c48_11 (enter Tryz.prog (0, 0) H48_11 (E48_11 m)) := loop_gen (Fl := W48_11) (G := G48) (L := loopNil) (envCons_good good117 (envCons_good good118 envNil_good)) (no_loops (c := c48_11) (by kernel_rfl)) (fun _ _ => by kernel_rfl) ev48_11 m
noncomputable def L48 : LEnv ((List (Int × Int))) := (loopCons 11 (enter Tryz.prog (0, 0) H48_11 (E48_11 fu)) loopNil)
theorem lq48 : loopsOf c48 = [c48_11] := by kernel_rfl
theorem fr48_11 : firstReg c48_11 = some 11 := by kernel_rfl
theorem le48_11 : L48 11 = (enter Tryz.prog (0, 0) H48_11 (E48_11 fu)) := by kernel_rfl
theorem lm48 : ∀ x ∈ [c48_11], ∀ id, firstReg x = some id → LoopOk Tryz.prog (0, 0) x (L48 id) := (loops_cons fr48_11 le48_11 (ok48_11 fu) loops_nil)
theorem lp48 : ∀ x ∈ loopsOf c48, ∀ id, firstReg x = some id → LoopOk Tryz.prog (0, 0) x (L48 id) := loops_eq lq48 lm48
noncomputable def sg48 : Sg := ⟨⟨[.agg (ho 3 []), hh], [], []⟩, (ki 4 []), ⟨[.one (.sl 0)], [], [(107, sh2, .own)]⟩, [.row sh2]⟩
noncomputable def E48 : Fun2 := eOf sg48 S.WinsOf
theorem ev48 (a : Args sg48.ks) : evS Tryz.prog G48 L48 (0, 0) [] Tryz.f48 c48 (kOf sg48) (sg48.sk.fl (encP sg48.ks a)) = unc sg48.ks S.WinsOf a := by kernel_rfl
theorem good48 : Vm.Good Tryz.prog 48 E48 := good_gen (G := G48) (L := L48) (c := c48) (rn := []) (N := (0, 0)) (envCons_good good117 (envCons_good good118 envNil_good)) lp48 Tryz.func48 (by kernel_rfl) (by kernel_rfl) (fun _ => by kernel_rfl) ev48
noncomputable def G119 : Env := envNil
noncomputable def c119 : Code := bodyOf Tryz.f119
noncomputable def S.l09Agg (a1 a2 a3 a4 a5 : Int) (a6 : List Int) : Option (Int × Int × Int × Int × Int × List Int) :=
(bif decide ((([] : List (Int)).length + a6.length) * 8 ≤ 140737488355328) then
(some (a1, a2, a3, a4, a5, (([] : List (Int)) ++ a6)))
else
none)
noncomputable def sg119 : Sg := ⟨⟨[.agg (ho 5 [.sl 0])], [], [(3, (.int .i64), .ro)]⟩, (ki 2 ((.int .u64) :: (ki 2 [.row (.int .i64)]))), ⟨[.agg (ho 5 [.sl 0])], [], [(3, (.int .i64), .own)]⟩, (ki 2 ((.int .u64) :: (ki 2 [.row (.int .i64)])))⟩
noncomputable def E119 : Fun2 := eOf sg119 S.l09Agg
theorem ev119 (a : Args sg119.ks) : evS Tryz.prog G119 loopNil (0, 0) [] Tryz.f119 c119 (kOf sg119) (sg119.sk.fl (encP sg119.ks a)) = unc sg119.ks S.l09Agg a := by kernel_rfl
theorem good119 : Vm.Good Tryz.prog 119 E119 := good_gen (G := G119) (L := loopNil) (c := c119) (rn := []) (N := (0, 0)) envNil_good (no_loops (c := c119) (by kernel_rfl)) Tryz.func119 (by kernel_rfl) (by kernel_rfl) (fun _ => by kernel_rfl) ev119
noncomputable def G49 : Env := (envCons 119 [] E119 envNil)
noncomputable def c49 : Code := bodyOf Tryz.f49
noncomputable def c49_3 : Code := (loopsOf c49).getD 0 .skip
noncomputable def S.l09Copy_l0 : Nat → ((List ty12) → Option ((List ty12))) → Int → (List ty12) → (List ty12) → Option ((List ty12))
  | 0, _, _, _, _ => none
  | m + 1, e3_0, a2, a3, a4 =>
    (bif (decide (a2 < (a3.length : Int))) then
    (bif decide ((0 : Int) ≤ a2 ∧ a2 < (a3.length : Int)) then
    (Option.bind (S.l09Agg ((nthI a3 a2 df1).2.2.2.2.2.1) ((nthI a3 a2 df1).2.2.2.2.2.2.1.1) ((nthI a3 a2 df1).2.2.2.2.2.2.1.2) ((nthI a3 a2 df1).2.2.2.2.2.2.2.1) ((nthI a3 a2 df1).2.2.2.2.2.2.2.2.1) ((nthI a3 a2 df1).2.2.2.2.2.2.2.2.2)) fun r7 =>
    (let v8 : List ty12 := [((nthI a3 a2 df1).1, ((nthI a3 a2 df1).2.1, ((nthI a3 a2 df1).2.2.1, ((nthI a3 a2 df1).2.2.2.1, ((nthI a3 a2 df1).2.2.2.2.1, (r7.1, ((r7.2.1, r7.2.2.1), (r7.2.2.2.1, (r7.2.2.2.2.1, r7.2.2.2.2.2)))))))))]
    (bif decide ((a4.length + v8.length) * 104 ≤ 140737488355328) then
    (S.l09Copy_l0 m e3_0 (IntKind.wrap .i64 (a2 + 1)) a3 (a4 ++ v8))
    else
    none)))
    else
    none)
    else
    (e3_0 a4))
noncomputable def S.l09Copy (a1 : List ty12) : Option ((List ty12)) :=
(S.l09Copy_l0 fu (fun y10 =>
(some y10)) 0 a1 [])
noncomputable def H49_3 : LoopH := ⟨⟨((.one (.sl 0)) :: (hu 2 ((.one (.sl 1)) :: hh :: (hu 21 [])))), [], [(113, sh1, .ro), (113, sh1, .own)]⟩, ([1, 2] ++ rg 5 21), [], ([0, 1] ++ rg 4 22), [], [], [], []⟩
noncomputable def k49_3 : List PK := [.int .i64, .row sh1, .row sh1]
noncomputable def W49_3 (m : Nat) (k : Kont ((List ty12))) : Cur k49_3 (Option ((List ty12))) := S.l09Copy_l0 m (exF k (.exit 0) ⟨(hu 3 ((.one (.sl 0)) :: (hu 22 []))), [], [(113, sh1, .own)]⟩ [.row sh1])
noncomputable def E49_3 (m : Nat) : List Prm → Kont ((List ty12)) → Option ((List ty12)) := eL k49_3 (W49_3 m)
theorem ev49_3 (m : Nat) (k : Kont ((List ty12))) (a : Args k49_3) : evL Tryz.prog G49 loopNil c49_3 (turn Tryz.prog (0, 0) H49_3 (E49_3 m) k) (H49_3.sk.fl (encP k49_3 a)) = unc k49_3 (W49_3 (m + 1) k) a := by kernel_rfl
theorem ok49_3 (m : Nat) : LoopOk Tryz.prog (0, 0) c49_3 (enter Tryz.prog (0, 0) H49_3 (E49_3 m)) := loop_gen (Fl := W49_3) (G := G49) (L := loopNil) (envCons_good good119 envNil_good) (no_loops (c := c49_3) (by kernel_rfl)) (fun _ _ => by kernel_rfl) ev49_3 m
noncomputable def L49 : LEnv ((List ty12)) := (loopCons 3 (enter Tryz.prog (0, 0) H49_3 (E49_3 fu)) loopNil)
theorem lq49 : loopsOf c49 = [c49_3] := by kernel_rfl
theorem fr49_3 : firstReg c49_3 = some 3 := by kernel_rfl
theorem le49_3 : L49 3 = (enter Tryz.prog (0, 0) H49_3 (E49_3 fu)) := by kernel_rfl
theorem lm49 : ∀ x ∈ [c49_3], ∀ id, firstReg x = some id → LoopOk Tryz.prog (0, 0) x (L49 id) := (loops_cons fr49_3 le49_3 (ok49_3 fu) loops_nil)
theorem lp49 : ∀ x ∈ loopsOf c49, ∀ id, firstReg x = some id → LoopOk Tryz.prog (0, 0) x (L49 id) := loops_eq lq49 lm49
noncomputable def sg49 : Sg := ⟨⟨[.one (.sl 0)], [], [(113, sh1, .ro)]⟩, [.row sh1], ⟨[.one (.sl 0)], [], [(113, sh1, .own)]⟩, [.row sh1]⟩
noncomputable def E49 : Fun2 := eOf sg49 S.l09Copy
theorem ev49 (a : Args sg49.ks) : evS Tryz.prog G49 L49 (0, 0) [] Tryz.f49 c49 (kOf sg49) (sg49.sk.fl (encP sg49.ks a)) = unc sg49.ks S.l09Copy a := by kernel_rfl
theorem good49 : Vm.Good Tryz.prog 49 E49 := good_gen (G := G49) (L := L49) (c := c49) (rn := []) (N := (0, 0)) (envCons_good good119 envNil_good) lp49 Tryz.func49 (by kernel_rfl) (by kernel_rfl) (fun _ => by kernel_rfl) ev49
noncomputable def G50 : Env := (envCons 121 [] E121 (envCons 120 [] E120 (envCons 122 [] E122 envNil)))
noncomputable def c50 : Code := bodyOf Tryz.f50
noncomputable def c50_5 : Code := (loopsOf c50).getD 0 .skip
noncomputable def S.AggOf_l0 : Nat → (Int → Int → Int → Int → Int → Int → Int → Int → Int → Int → List Int → Option (Int × Int × Int × Int × Int × List Int)) → Int → Int → Int → Int → Int → Int → Int → Int → Int → Int → Int → List Int → List Int → Option (Int × Int × Int × Int × Int × List Int)
  | 0, _, _, _, _, _, _, _, _, _, _, _, _, _, _ => none
  | m + 1, e5_0, a6, a7, a8, a9, a10, a11, a12, a13, a14, a15, a16, a17, a18 =>
    (bif (decide (a6 < (a17.length : Int))) then
    (bif decide ((0 : Int) ≤ a6 ∧ a6 < (a17.length : Int)) then
    (Option.bind (S.WideOf (nthI a17 a6 (0 : Int))) fun r21 =>
    (Option.bind (S.WideAdd a13 a14 r21.1 r21.2) fun r22 =>
    (bif decide ((0 : Int) ≤ a6 ∧ a6 < (a17.length : Int)) then
    (let v23 : Int := (if (nthI a17 a6 (0 : Int)) < a15 then (nthI a17 a6 (0 : Int)) else a15)
    (bif decide ((0 : Int) ≤ a6 ∧ a6 < (a17.length : Int)) then
    (let v24 : Int := (if (nthI a17 a6 (0 : Int)) > a16 then (nthI a17 a6 (0 : Int)) else a16)
    (let v25 : Int := (IntKind.wrap .i64 (a6 + 1))
    (bif decide ((0 : Int) ≤ a6 ∧ a6 ≤ v25 ∧ v25 ≤ (a17.length : Int)) then
    (Option.bind (S.TopOf a18 ((a17.take (Int.toNat v25)).drop (Int.toNat a6))) fun r26 =>
    (S.AggOf_l0 m e5_0 (IntKind.wrap .i64 (a6 + 1)) a7 a8 a9 a10 a11 a12 r22.1 r22.2 v23 v24 a17 r26))
    else
    none)))
    else
    none))
    else
    none)))
    else
    none)
    else
    (e5_0 a7 a8 a9 a10 a11 a12 a13 a14 a15 a16 a18))
noncomputable def S.AggOf (a1 : List Int) : Option (Int × Int × Int × Int × Int × List Int) :=
(bif ((a1.length : Int) == 0) then
(some (0, 0, 0, 0, 0, []))
else
(bif (decide (1000000 < (a1.length : Int))) then
(some (0, 0, 0, 0, 0, []))
else
(bif decide ((0 : Int) ≤ 0 ∧ 0 < (a1.length : Int)) then
(bif decide ((0 : Int) ≤ 0 ∧ 0 < (a1.length : Int)) then
(S.AggOf_l0 fu (fun y28 y29 y30 y31 y32 y33 y34 y35 y36 y37 y38 =>
(some (y33, y34, y35, y36, y37, y38))) 0 0 0 0 0 0 (a1.length : Int) 0 0 (nthI a1 0 (0 : Int)) (nthI a1 0 (0 : Int)) a1 [])
else
none)
else
none)))
noncomputable def H50_5 : LoopH := ⟨⟨((.one (.sl 0)) :: (.one (.unk)) :: (.one (.ptr 0 0)) :: (.one (.ptr 1 0)) :: hh :: (hu 59 [])), [(110, (ho 6 [])), (110, (ho 5 [.sl 1]))], [(3, (.int .i64), .ro), (3, (.int .i64), .own)]⟩, ([1] ++ rg 5 59), [], ([0, 1] ++ rg 4 60), [], [(3, 5, 3)], [], []⟩
noncomputable def k50_5 : List PK := (ki 3 ((.int .u64) :: (ki 2 ((.nil) :: (ki 2 ((.int .u64) :: (ki 2 [.row (.int .i64), .row (.int .i64)])))))))
noncomputable def W50_5 (m : Nat) (k : Kont (Int × Int × Int × Int × Int × List Int)) : Cur k50_5 (Option (Int × Int × Int × Int × Int × List Int)) := S.AggOf_l0 m (exF k (.exit 0) ⟨(hu 2 ((.one (.ptr 0 0)) :: (.one (.ptr 1 0)) :: (hu 60 []))), [(110, (ho 6 [])), (110, (ho 5 [.sl 0]))], [(3, (.int .i64), .own)]⟩ (ki 2 ((.int .u64) :: (ki 2 ((.nil) :: (ki 2 ((.int .u64) :: (ki 2 [.row (.int .i64)]))))))))
noncomputable def E50_5 (m : Nat) : List Prm → Kont (Int × Int × Int × Int × Int × List Int) → Option (Int × Int × Int × Int × Int × List Int) := eL k50_5 (W50_5 m)
theorem ev50_5 (m : Nat) (k : Kont (Int × Int × Int × Int × Int × List Int)) (a : Args k50_5) : evL Tryz.prog G50 loopNil c50_5 (turn Tryz.prog (0, 0) H50_5 (E50_5 m) k) (H50_5.sk.fl (encP k50_5 a)) = unc k50_5 (W50_5 (m + 1) k) a := by kernel_rfl
theorem ok50_5 (m : Nat) : LoopOk Tryz.prog (0, 0) c50_5 (enter Tryz.prog (0, 0) H50_5 (E50_5 m)) := loop_gen (Fl := W50_5) (G := G50) (L := loopNil) (envCons_good good121 (envCons_good good120 (envCons_good good122 envNil_good))) (no_loops (c := c50_5) (by kernel_rfl)) (fun _ _ => by kernel_rfl) ev50_5 m
noncomputable def L50 : LEnv (Int × Int × Int × Int × Int × List Int) := (loopCons 5 (enter Tryz.prog (0, 0) H50_5 (E50_5 fu)) loopNil)
theorem lq50 : loopsOf c50 = [c50_5] := by kernel_rfl
theorem fr50_5 : firstReg c50_5 = some 5 := by kernel_rfl
theorem le50_5 : L50 5 = (enter Tryz.prog (0, 0) H50_5 (E50_5 fu)) := by kernel_rfl
theorem lm50 : ∀ x ∈ [c50_5], ∀ id, firstReg x = some id → LoopOk Tryz.prog (0, 0) x (L50 id) := (loops_cons fr50_5 le50_5 (ok50_5 fu) loops_nil)
theorem lp50 : ∀ x ∈ loopsOf c50, ∀ id, firstReg x = some id → LoopOk Tryz.prog (0, 0) x (L50 id) := loops_eq lq50 lm50
noncomputable def sg50 : Sg := ⟨⟨[.one (.sl 0)], [], [(3, (.int .i64), .ro)]⟩, [.row (.int .i64)], ⟨[.agg (ho 5 [.sl 0])], [], [(3, (.int .i64), .own)]⟩, (ki 2 ((.int .u64) :: (ki 2 [.row (.int .i64)])))⟩
noncomputable def E50 : Fun2 := eOf sg50 S.AggOf
theorem ev50 (a : Args sg50.ks) : evS Tryz.prog G50 L50 (0, 0) [] Tryz.f50 c50 (kOf sg50) (sg50.sk.fl (encP sg50.ks a)) = unc sg50.ks S.AggOf a := by kernel_rfl
theorem good50 : Vm.Good Tryz.prog 50 E50 := good_gen (G := G50) (L := L50) (c := c50) (rn := []) (N := (0, 0)) (envCons_good good121 (envCons_good good120 (envCons_good good122 envNil_good))) lp50 Tryz.func50 (by kernel_rfl) (by kernel_rfl) (fun _ => by kernel_rfl) ev50
noncomputable def G126 : Env := envNil
noncomputable def c126 : Code := bodyOf Tryz.f126
noncomputable def S.l09Meet (a1 a2 a3 a4 a5 a6 a7 a8 a9 a10 a11 a12 a13 a14 a15 a16 a17 a18 a19 a20 : Int) (a21 a22 : List Int) : Option Bool :=
(bif (a1 == a11) then
(bif (a2 == a12) then
(bif (decide (a3 < a14)) then
(some (decide (a13 < a4)))
else
(some false))
else
(some false))
else
(some false))
noncomputable def sg126 : Sg := ⟨⟨[.agg (ho 10 [.sl 0]), .agg (ho 10 [.sl 1])], [], [(3, (.int .i64), .ro), (3, (.int .i64), .ro)]⟩, (ki 7 ((.int .u64) :: (ki 9 ((.int .u64) :: (ki 2 [.row (.int .i64), .row (.int .i64)]))))), ⟨[hh], [], []⟩, [.bool]⟩
noncomputable def E126 : Fun2 := eOf sg126 S.l09Meet
theorem ev126 (a : Args sg126.ks) : evS Tryz.prog G126 loopNil (0, 0) [] Tryz.f126 c126 (kOf sg126) (sg126.sk.fl (encP sg126.ks a)) = unc sg126.ks S.l09Meet a := by kernel_rfl
theorem good126 : Vm.Good Tryz.prog 126 E126 := good_gen (G := G126) (L := loopNil) (c := c126) (rn := []) (N := (0, 0)) envNil_good (no_loops (c := c126) (by kernel_rfl)) Tryz.func126 (by kernel_rfl) (by kernel_rfl) (fun _ => by kernel_rfl) ev126
noncomputable def G128 : Env := (envCons 125 [] E125 (envCons 120 [] E120 (envCons 122 [] E122 envNil)))
noncomputable def c128 : Code := bodyOf Tryz.f128
noncomputable def S.AggJoin (a1 a2 a3 a4 a5 a6 a7 a8 a9 a10 : Int) (a11 a12 : List Int) : Option (Int × Int × Int × Int × Int × Bool × List Int) :=
(Option.bind (S.AggOk a1 a2 a3 a4 a5 a11) fun r13 =>
(bif (!r13) then
(some (0, 0, 0, 0, 0, false, []))
else
(Option.bind (S.AggOk a6 a7 a8 a9 a10 a12) fun r14 =>
(bif (!r14) then
(some (0, 0, 0, 0, 0, false, []))
else
(bif (decide (1000000 < (IntKind.wrap .i64 (a1 + a6)))) then
(some (0, 0, 0, 0, 0, false, []))
else
(let v17 : Int := (IntKind.wrap .i64 (a1 + a6))
(let v18 : Int := (if a9 < a4 then a9 else a4)
(let v19 : Int := (if a10 > a5 then a10 else a5)
(same (Option.bind (S.WideAdd a2 a3 a7 a8) fun r20 =>
(dup (Option.bind (S.TopOf a11 a12) fun r21 =>
(bif (a1 == 0) then
(bif (a6 == 0) then
(some (v17, r20.1, r20.2, a4, a5, true, r21))
else
(some (v17, r20.1, r20.2, a9, a10, true, r21)))
else
(bif (a6 == 0) then
(some (v17, r20.1, r20.2, a4, a5, true, r21))
else
(some (v17, r20.1, r20.2, v18, v19, true, r21)))))))
(Option.bind (S.WideAdd a2 a3 a7 a8) fun r20 =>
(Option.bind (S.TopOf a11 a12) fun r21 =>
(bif (a1 == 0) then
(bif (a6 == 0) then
(some (v17, r20.1, r20.2, a4, a5, true, r21))
else
(some (v17, r20.1, r20.2, a9, a10, true, r21)))
else
(bif (a6 == 0) then
(some (v17, r20.1, r20.2, a4, a5, true, r21))
else
(some (v17, r20.1, r20.2, v18, v19, true, r21)))))))))))))))
noncomputable def sg128 : Sg := ⟨⟨[.agg (ho 5 [.sl 0]), .agg (ho 5 [.sl 1])], [], [(3, (.int .i64), .ro), (3, (.int .i64), .ro)]⟩, (ki 2 ((.int .u64) :: (ki 4 ((.int .u64) :: (ki 2 [.row (.int .i64), .row (.int .i64)]))))), ⟨[.agg (ho 5 [.sl 0]), hh], [], [(3, (.int .i64), .own)]⟩, (ki 2 ((.int .u64) :: (ki 2 [.bool, .row (.int .i64)])))⟩
noncomputable def E128 : Fun2 := eOf sg128 S.AggJoin
theorem ev128 (a : Args sg128.ks) : evS Tryz.prog G128 loopNil (0, 0) [] Tryz.f128 c128 (kOf sg128) (sg128.sk.fl (encP sg128.ks a)) = unc sg128.ks S.AggJoin a := by kernel_rfl
theorem good128 : Vm.Good Tryz.prog 128 E128 := good_gen (G := G128) (L := loopNil) (c := c128) (rn := []) (N := (0, 0)) (envCons_good good125 (envCons_good good120 (envCons_good good122 envNil_good))) (no_loops (c := c128) (by kernel_rfl)) Tryz.func128 (by kernel_rfl) (by kernel_rfl) (fun _ => by kernel_rfl) ev128
noncomputable def G145 : Env := envNil
noncomputable def c145 : Code := bodyOf Tryz.f145
noncomputable def S.l01Bit (a1 a2 : Int) : Option Bool :=
(let v3 : Int := (IntKind.wrap .u64 a2)
(bif decide ((0 : Int) ≤ v3) then
(some ((Go.bits .and .u64 (Int.fdiv a1 (2 ^ min (Int.toNat v3) (IntKind.bits .u64))) 1) == 1))
else
none))
noncomputable def sg145 : Sg := ⟨⟨[hh, hh], [], []⟩, [.int .u64, .int .i64], ⟨[hh], [], []⟩, [.bool]⟩
noncomputable def E145 : Fun2 := eOf sg145 S.l01Bit
theorem ev145 (a : Args sg145.ks) : evS Tryz.prog G145 loopNil (0, 0) [] Tryz.f145 c145 (kOf sg145) (sg145.sk.fl (encP sg145.ks a)) = unc sg145.ks S.l01Bit a := by kernel_rfl
theorem good145 : Vm.Good Tryz.prog 145 E145 := good_gen (G := G145) (L := loopNil) (c := c145) (rn := []) (N := (0, 0)) envNil_good (no_loops (c := c145) (by kernel_rfl)) Tryz.func145 (by kernel_rfl) (by kernel_rfl) (fun _ => by kernel_rfl) ev145
noncomputable def G216 : Env := (envCons 145 [] E145 envNil)
noncomputable def c216 : Code := bodyOf Tryz.f216
noncomputable def S.l01Side (a1 a2 a3 : Int) (a4 : Bool) (a5 : List Int) : Option Bool :=
(bif a4 then
(bif decide ((0 : Int) ≤ a2 ∧ a2 < (a5.length : Int)) then
(Option.bind (S.l01Bit (nthI a5 a2 (0 : Int)) a3) fun r6 =>
(some r6))
else
none)
else
(bif decide ((0 : Int) ≤ a3 ∧ a3 < (a5.length : Int)) then
(Option.bind (S.l01Bit (nthI a5 a3 (0 : Int)) a2) fun r7 =>
(some r7))
else
none))
noncomputable def sg216 : Sg := ⟨⟨[.agg [.hole, .sl 0], hh, hh, hh], [], [(95, (.int .u64), .ro)]⟩, (ki 3 [.bool, .row (.int .u64)]), ⟨[hh], [], []⟩, [.bool]⟩
noncomputable def E216 : Fun2 := eOf sg216 S.l01Side
theorem ev216 (a : Args sg216.ks) : evS Tryz.prog G216 loopNil (0, 0) [] Tryz.f216 c216 (kOf sg216) (sg216.sk.fl (encP sg216.ks a)) = unc sg216.ks S.l01Side a := by kernel_rfl
theorem good216 : Vm.Good Tryz.prog 216 E216 := good_gen (G := G216) (L := loopNil) (c := c216) (rn := []) (N := (0, 0)) (envCons_good good145 envNil_good) (no_loops (c := c216) (by kernel_rfl)) Tryz.func216 (by kernel_rfl) (by kernel_rfl) (fun _ => by kernel_rfl) ev216
noncomputable def G129 : Env := (envCons 216 [] E216 envNil)
noncomputable def c129 : Code := bodyOf Tryz.f129
noncomputable def c129_2 : Code := (loopsOf c129).getD 0 .skip
noncomputable def c129_6 : Code := (loopsOf c129_2).getD 0 .skip
noncomputable def S.l01Bound_l1 : Nat → (Int → Int → Bool → Int → Bool → Int → List Int → Option Int) → Int → Int → Bool → Int → Bool → Int → Int → List Int → Option Int
  | 0, _, _, _, _, _, _, _, _, _ => none
  | m + 1, e6_0, a15, a16, a17, a18, a19, a20, a21, a22 =>
    (bif (decide (a20 < a21)) then
    (bif a19 then
    (Option.bind (S.l01Side a21 a15 a20 a17 a22) fun r24 =>
    (bif r24 then
    (Option.bind (S.l01Side a21 a16 a20 a17 a22) fun r25 =>
    (bif r25 then
    (Option.bind (S.l01Side a21 a18 a20 a17 a22) fun r26 =>
    (bif (!r26) then
    (S.l01Bound_l1 m e6_0 a15 a16 a17 a18 false (IntKind.wrap .i64 (a20 + 1)) a21 a22)
    else
    (S.l01Bound_l1 m e6_0 a15 a16 a17 a18 a19 (IntKind.wrap .i64 (a20 + 1)) a21 a22)))
    else
    (S.l01Bound_l1 m e6_0 a15 a16 a17 a18 a19 (IntKind.wrap .i64 (a20 + 1)) a21 a22)))
    else
    (S.l01Bound_l1 m e6_0 a15 a16 a17 a18 a19 (IntKind.wrap .i64 (a20 + 1)) a21 a22)))
    else
    (e6_0 a15 a16 a17 a18 a19 a21 a22))
    else
    (e6_0 a15 a16 a17 a18 a19 a21 a22))
noncomputable def S.l01Bound_l0 : Nat → (Int → Option Int) → (Option Int) → Int → Int → Bool → Int → Int → List Int → Option Int
  | 0, _, _, _, _, _, _, _, _ => none
  | m + 1, e2_0, e2_1, a6, a7, a8, a9, a10, a11 =>
    (bif (decide (a9 < a10)) then
    (Option.bind (S.l01Side a10 a6 a9 a8 a11) fun r13 =>
    (bif r13 then
    (Option.bind (S.l01Side a10 a7 a9 a8 a11) fun r14 =>
    (S.l01Bound_l1 fu (fun y31 y32 y33 y34 y35 y36 y37 =>
    (bif y35 then
    (e2_0 y34)
    else
    (S.l01Bound_l0 m e2_0 e2_1 y31 y32 y33 (IntKind.wrap .i64 (y34 + 1)) y36 y37))) a6 a7 a8 a9 r14 0 a10 a11))
    else
    (S.l01Bound_l1 fu (fun y39 y40 y41 y42 y43 y44 y45 =>
    (bif y43 then
    (e2_0 y42)
    else
    (S.l01Bound_l0 m e2_0 e2_1 y39 y40 y41 (IntKind.wrap .i64 (y42 + 1)) y44 y45))) a6 a7 a8 a9 false 0 a10 a11)))
    else
    e2_1)
noncomputable def S.l01Bound (a1 a2 a3 : Int) (a4 : Bool) (a5 : List Int) : Option Int :=
(S.l01Bound_l0 fu (fun y47 =>
(some y47)) (some (-1)) a2 a3 a4 0 a1 a5)
noncomputable def H129_6 : LoopH := ⟨⟨((.one (.unk)) :: hh :: hh :: hh :: (.one (.ptr 0 0)) :: (hu 4 (hh :: hh :: hh :: (hu 49 [])))), [(41, [.hole, .sl 0])], [(95, (.int .u64), .ro)]⟩, ([0] ++ rg 5 4 ++ rg 12 49), [], ([0, 5, 6, 7] ++ rg 11 50), [], [], [], []⟩
noncomputable def k129_6 : List PK := (ki 2 ((.bool) :: (.int .i64) :: (.bool) :: (ki 2 [.row (.int .u64)])))
noncomputable def W129_6 (m : Nat) (k : Kont Int) : Cur k129_6 (Option Int) := S.l01Bound_l1 m (exF k (.exit 2) ⟨((.one (.unk)) :: hh :: hh :: hh :: (.one (.ptr 0 0)) :: (hu 4 (hh :: hh :: (hu 50 [])))), [(41, [.hole, .sl 0])], [(95, (.int .u64), .ro)]⟩ (ki 2 [.bool, .int .i64, .bool, .int .i64, .row (.int .u64)]))
noncomputable def E129_6 (m : Nat) : List Prm → Kont Int → Option Int := eL k129_6 (W129_6 m)
theorem ev129_6 (m : Nat) (k : Kont Int) (a : Args k129_6) : evL Tryz.prog G129 loopNil c129_6 (turn Tryz.prog (0, 0) H129_6 (E129_6 m) k) (H129_6.sk.fl (encP k129_6 a)) = unc k129_6 (W129_6 (m + 1) k) a := by kernel_rfl
theorem ok129_6 (m : Nat) : LoopOk Tryz.prog (0, 0) c129_6 (enter Tryz.prog (0, 0) H129_6 (E129_6 m)) := loop_gen (Fl := W129_6) (G := G129) (L := loopNil) (envCons_good good216 envNil_good) (no_loops (c := c129_6) (by kernel_rfl)) (fun _ _ => by kernel_rfl) ev129_6 m
noncomputable def L129_2 : LEnv Int := (loopCons 6 (enter Tryz.prog (0, 0) H129_6 (E129_6 fu)) loopNil)
theorem lq129_2 : loopsOf c129_2 = [c129_6] := by kernel_rfl
theorem fr129_6 : firstReg c129_6 = some 6 := by kernel_rfl
theorem le129_6 : L129_2 6 = (enter Tryz.prog (0, 0) H129_6 (E129_6 fu)) := by kernel_rfl
theorem lm129_2 : ∀ x ∈ [c129_6], ∀ id, firstReg x = some id → LoopOk Tryz.prog (0, 0) x (L129_2 id) := (loops_cons fr129_6 le129_6 (ok129_6 fu) loops_nil)
theorem lp129_2 : ∀ x ∈ loopsOf c129_2, ∀ id, firstReg x = some id → LoopOk Tryz.prog (0, 0) x (L129_2 id) := loops_eq lq129_2 lm129_2
noncomputable def H129_2 : LoopH := ⟨⟨((.one (.unk)) :: hh :: hh :: hh :: (.one (.ptr 0 0)) :: (hu 4 (hh :: (hu 51 [])))), [(41, [.hole, .sl 0])], [(95, (.int .u64), .ro)]⟩, ([0] ++ rg 5 4 ++ rg 10 51), [], (rg 0 8 ++ rg 9 52), [], [], [], []⟩
noncomputable def k129_2 : List PK := (ki 2 ((.bool) :: (ki 2 [.row (.int .u64)])))
noncomputable def W129_2 (m : Nat) (k : Kont Int) : Cur k129_2 (Option Int) := S.l01Bound_l0 m (exF k .ret ⟨(hu 8 (hh :: (hu 52 []))), [], []⟩ [.int .i64]) (exF k (.exit 0) ⟨(hu 61 []), [], []⟩ [])
noncomputable def E129_2 (m : Nat) : List Prm → Kont Int → Option Int := eL k129_2 (W129_2 m)
theorem ev129_2 (m : Nat) (k : Kont Int) (a : Args k129_2) : evL Tryz.prog G129 L129_2 c129_2 (turn Tryz.prog (0, 0) H129_2 (E129_2 m) k) (H129_2.sk.fl (encP k129_2 a)) = unc k129_2 (W129_2 (m + 1) k) a := by kernel_rfl
theorem ok129_2 (m : Nat) : LoopOk Tryz.prog (0, 0) c129_2 (enter Tryz.prog (0, 0) H129_2 (E129_2 m)) := loop_gen (Fl := W129_2) (G := G129) (L := L129_2) (envCons_good good216 envNil_good) lp129_2 (fun _ _ => by kernel_rfl) ev129_2 m
noncomputable def L129 : LEnv Int := (loopCons 2 (enter Tryz.prog (0, 0) H129_2 (E129_2 fu)) loopNil)
theorem lq129 : loopsOf c129 = [c129_2] := by kernel_rfl
theorem fr129_2 : firstReg c129_2 = some 2 := by kernel_rfl
theorem le129_2 : L129 2 = (enter Tryz.prog (0, 0) H129_2 (E129_2 fu)) := by kernel_rfl
theorem lm129 : ∀ x ∈ [c129_2], ∀ id, firstReg x = some id → LoopOk Tryz.prog (0, 0) x (L129 id) := (loops_cons fr129_2 le129_2 (ok129_2 fu) loops_nil)
theorem lp129 : ∀ x ∈ loopsOf c129, ∀ id, firstReg x = some id → LoopOk Tryz.prog (0, 0) x (L129 id) := loops_eq lq129 lm129
noncomputable def sg129 : Sg := ⟨⟨[.agg [.hole, .sl 0], hh, hh, hh], [], [(95, (.int .u64), .ro)]⟩, (ki 3 [.bool, .row (.int .u64)]), ⟨[hh], [], []⟩, [.int .i64]⟩
noncomputable def E129 : Fun2 := eOf sg129 S.l01Bound
theorem ev129 (a : Args sg129.ks) : evS Tryz.prog G129 L129 (0, 0) [] Tryz.f129 c129 (kOf sg129) (sg129.sk.fl (encP sg129.ks a)) = unc sg129.ks S.l01Bound a := by kernel_rfl
theorem good129 : Vm.Good Tryz.prog 129 E129 := good_gen (G := G129) (L := L129) (c := c129) (rn := []) (N := (0, 0)) (envCons_good good216 envNil_good) lp129 Tryz.func129 (by kernel_rfl) (by kernel_rfl) (fun _ => by kernel_rfl) ev129
noncomputable def G127 : Env := envNil
noncomputable def c127 : Code := bodyOf Tryz.f127
noncomputable def S.l09Twin (a1 a2 a3 a4 a5 a6 a7 a8 a9 a10 a11 a12 a13 a14 a15 a16 a17 a18 a19 a20 : Int) (a21 a22 : List Int) : Option Bool :=
(bif (a1 == a11) then
(bif (a2 == a12) then
(bif (a3 == a13) then
(some (a4 == a14))
else
(some false))
else
(some false))
else
(some false))
noncomputable def sg127 : Sg := ⟨⟨[.agg (ho 10 [.sl 0]), .agg (ho 10 [.sl 1])], [], [(3, (.int .i64), .ro), (3, (.int .i64), .ro)]⟩, (ki 7 ((.int .u64) :: (ki 9 ((.int .u64) :: (ki 2 [.row (.int .i64), .row (.int .i64)]))))), ⟨[hh], [], []⟩, [.bool]⟩
noncomputable def E127 : Fun2 := eOf sg127 S.l09Twin
theorem ev127 (a : Args sg127.ks) : evS Tryz.prog G127 loopNil (0, 0) [] Tryz.f127 c127 (kOf sg127) (sg127.sk.fl (encP sg127.ks a)) = unc sg127.ks S.l09Twin a := by kernel_rfl
theorem good127 : Vm.Good Tryz.prog 127 E127 := good_gen (G := G127) (L := loopNil) (c := c127) (rn := []) (N := (0, 0)) envNil_good (no_loops (c := c127) (by kernel_rfl)) Tryz.func127 (by kernel_rfl) (by kernel_rfl) (fun _ => by kernel_rfl) ev127
noncomputable def G130 : Env := (envCons 116 [] E116 envNil)
noncomputable def c130 : Code := bodyOf Tryz.f130
noncomputable def c130_2 : Code := (loopsOf c130).getD 0 .skip
noncomputable def S.l09Put_l0 : Nat → (Int → Int → Int → Int → Int → Int → Int → Int → Int → Int → Int → (List ty12) → List Int → Option ((List ty12))) → Int → Int → Int → Int → Int → Int → Int → Int → Int → Int → Int → (List ty12) → List Int → Option ((List ty12))
  | 0, _, _, _, _, _, _, _, _, _, _, _, _, _, _ => none
  | m + 1, e2_0, a13, a14, a15, a16, a17, a18, a19, a20, a21, a22, a23, a24, a25 =>
    (bif (decide (a13 < (a24.length : Int))) then
    (bif decide ((0 : Int) ≤ a13 ∧ a13 < (a24.length : Int)) then
    (Option.bind (S.l09Less ((nthI a24 a13 df1).1) ((nthI a24 a13 df1).2.1) ((nthI a24 a13 df1).2.2.1) ((nthI a24 a13 df1).2.2.2.1) ((nthI a24 a13 df1).2.2.2.2.1) ((nthI a24 a13 df1).2.2.2.2.2.1) ((nthI a24 a13 df1).2.2.2.2.2.2.1.1) ((nthI a24 a13 df1).2.2.2.2.2.2.1.2) ((nthI a24 a13 df1).2.2.2.2.2.2.2.1) ((nthI a24 a13 df1).2.2.2.2.2.2.2.2.1) a14 a15 a16 a17 a18 a19 a20 a21 a22 a23 ((nthI a24 a13 df1).2.2.2.2.2.2.2.2.2) a25) fun r28 =>
    (bif r28 then
    (S.l09Put_l0 m e2_0 (IntKind.wrap .i64 (a13 + 1)) a14 a15 a16 a17 a18 a19 a20 a21 a22 a23 a24 a25)
    else
    (e2_0 a13 a14 a15 a16 a17 a18 a19 a20 a21 a22 a23 a24 a25)))
    else
    none)
    else
    (e2_0 a13 a14 a15 a16 a17 a18 a19 a20 a21 a22 a23 a24 a25))
noncomputable def S.l09Put (a1 a2 a3 a4 a5 a6 a7 a8 a9 a10 : Int) (a11 : List ty12) (a12 : List Int) : Option ((List ty12)) :=
(S.l09Put_l0 fu (fun y30 y31 y32 y33 y34 y35 y36 y37 y38 y39 y40 y41 y42 =>
(bif decide ((0 : Int) ≤ y30 ∧ y30 ≤ (y41.length : Int) ∧ (y41.length : Int) ≤ (y41.length : Int)) then
(let v43 : List ty12 := [(y31, (y32, (y33, (y34, (y35, (y36, ((y37, y38), (y39, (y40, y42)))))))))]
(bif decide ((v43.length + ((y41.take (Int.toNat (y41.length : Int))).drop (Int.toNat y30)).length) * 104 ≤ 140737488355328) then
(let v44 : List ty12 := (v43 ++ ((y41.take (Int.toNat (y41.length : Int))).drop (Int.toNat y30)))
(bif decide ((0 : Int) ≤ 0 ∧ 0 ≤ y30 ∧ y30 ≤ (y41.length : Int)) then
(bif decide ((([] : List ty12).length + ((y41.take (Int.toNat y30)).drop (Int.toNat 0)).length) * 104 ≤ 140737488355328) then
(let v45 : List ty12 := (([] : List ty12) ++ ((y41.take (Int.toNat y30)).drop (Int.toNat 0)))
(bif decide ((v45.length + v44.length) * 104 ≤ 140737488355328) then
(some (v45 ++ v44))
else
none))
else
none)
else
none))
else
none))
else
none)) 0 a1 a2 a3 a4 a5 a6 a7 a8 a9 a10 a11 a12)
noncomputable def H130_2 : LoopH := ⟨⟨((.one (.sl 0)) :: (hu 2 ((.one (.ptr 0 0)) :: (.one (.unk)) :: hh :: (hu 28 [])))), [(113, (ho 10 [.sl 1]))], [(113, sh1, .ro), (3, (.int .i64), .ro)]⟩, ([1, 2, 4] ++ rg 6 28), [], ([1, 2] ++ rg 6 28), [], [], [], []⟩
noncomputable def k130_2 : List PK := (ki 8 ((.int .u64) :: (ki 2 [.row sh1, .row (.int .i64)])))
noncomputable def W130_2 (m : Nat) (k : Kont ((List ty12))) : Cur k130_2 (Option ((List ty12))) := S.l09Put_l0 m (exF k (.exit 0) ⟨((.one (.sl 0)) :: (hu 2 ((.one (.ptr 0 0)) :: (.one (.unk)) :: hh :: (hu 28 [])))), [(113, (ho 10 [.sl 1]))], [(113, sh1, .ro), (3, (.int .i64), .ro)]⟩ (ki 8 ((.int .u64) :: (ki 2 [.row sh1, .row (.int .i64)]))))
noncomputable def E130_2 (m : Nat) : List Prm → Kont ((List ty12)) → Option ((List ty12)) := eL k130_2 (W130_2 m)
theorem ev130_2 (m : Nat) (k : Kont ((List ty12))) (a : Args k130_2) : evL Tryz.prog G130 loopNil c130_2 (turn Tryz.prog (0, 0) H130_2 (E130_2 m) k) (H130_2.sk.fl (encP k130_2 a)) = unc k130_2 (W130_2 (m + 1) k) a := by kernel_rfl
theorem ok130_2 (m : Nat) : LoopOk Tryz.prog (0, 0) c130_2 (enter Tryz.prog (0, 0) H130_2 (E130_2 m)) := loop_gen (Fl := W130_2) (G := G130) (L := loopNil) (envCons_good good116 envNil_good) (no_loops (c := c130_2) (by kernel_rfl)) (fun _ _ => by kernel_rfl) ev130_2 m
noncomputable def L130 : LEnv ((List ty12)) := (loopCons 2 (enter Tryz.prog (0, 0) H130_2 (E130_2 fu)) loopNil)
theorem lq130 : loopsOf c130 = [c130_2] := by kernel_rfl
theorem fr130_2 : firstReg c130_2 = some 2 := by kernel_rfl
theorem le130_2 : L130 2 = (enter Tryz.prog (0, 0) H130_2 (E130_2 fu)) := by kernel_rfl
theorem lm130 : ∀ x ∈ [c130_2], ∀ id, firstReg x = some id → LoopOk Tryz.prog (0, 0) x (L130 id) := (loops_cons fr130_2 le130_2 (ok130_2 fu) loops_nil)
theorem lp130 : ∀ x ∈ loopsOf c130, ∀ id, firstReg x = some id → LoopOk Tryz.prog (0, 0) x (L130 id) := loops_eq lq130 lm130
noncomputable def sg130 : Sg := ⟨⟨[.one (.sl 0), .agg (ho 10 [.sl 1])], [], [(113, sh1, .ro), (3, (.int .i64), .ro)]⟩, (ki 7 ((.int .u64) :: (ki 2 [.row sh1, .row (.int .i64)]))), ⟨[.one (.sl 0)], [], [(113, sh1, .ro)]⟩, [.row sh1]⟩
noncomputable def E130 : Fun2 := eOf sg130 S.l09Put
theorem ev130 (a : Args sg130.ks) : evS Tryz.prog G130 L130 (0, 0) [1000000] Tryz.f130 c130 (kOf sg130) (sg130.sk.fl (encP sg130.ks a)) = unc sg130.ks S.l09Put a := by kernel_rfl
theorem good130 : Vm.Good Tryz.prog 130 E130 := good_gen (G := G130) (L := L130) (c := c130) (rn := [1000000]) (N := (0, 0)) (envCons_good good116 envNil_good) lp130 Tryz.func130 (by kernel_rfl) (by kernel_rfl) (fun _ => by kernel_rfl) ev130
noncomputable def G52 : Env := (envCons 126 [] E126 (envCons 128 [] E128 (envCons 129 [] E129 (envCons 127 [] E127 (envConsS 130 [] E130 envNil)))))
noncomputable def c52 : Code := bodyOf Tryz.f52
noncomputable def c52_2 : Code := (loopsOf c52).getD 0 .skip
noncomputable def c52_6 : Code := (loopsOf c52_2).getD 0 .skip
noncomputable def S.l09Into_l1 : Nat → (Bool → Bool → Bool → Bool → Int → Int → Int → Int → Int → Int → Int → Int → Int → Int → Int → (List ty12) → List Int → List Int → Option (Bool × (List ty12))) → (Bool → Bool → Bool → Int → Int → Int → Int → Int → Int → Int → Int → Int → Int → Int → (List ty12) → List Int → List Int → Option (Bool × (List ty12))) → Bool → Bool → Bool → Int → Int → Int → Int → Int → Int → Int → Int → Int → Int → Int → Int → (List ty12) → (List ty12) → List Int → List Int → Option (Bool × (List ty12))
  | 0, _, _, _, _, _, _, _, _, _, _, _, _, _, _, _, _, _, _, _, _, _ => none
  | m + 1, e6_0, e6_1, a34, a35, a36, a37, a38, a39, a40, a41, a42, a43, a44, a45, a46, a47, a48, a49, a50, a51, a52 =>
    (bif (decide (a37 < (a49.length : Int))) then
    (bif decide ((0 : Int) ≤ a37 ∧ a37 < (a49.length : Int)) then
    (bif a34 then
    (Option.bind (S.l09Meet ((nthI a49 a37 df1).1) ((nthI a49 a37 df1).2.1) ((nthI a49 a37 df1).2.2.1) ((nthI a49 a37 df1).2.2.2.1) ((nthI a49 a37 df1).2.2.2.2.1) ((nthI a49 a37 df1).2.2.2.2.2.1) ((nthI a49 a37 df1).2.2.2.2.2.2.1.1) ((nthI a49 a37 df1).2.2.2.2.2.2.1.2) ((nthI a49 a37 df1).2.2.2.2.2.2.2.1) ((nthI a49 a37 df1).2.2.2.2.2.2.2.2.1) a39 a40 a41 a42 a43 a44 a45 a46 a47 a48 ((nthI a49 a37 df1).2.2.2.2.2.2.2.2.2) a52) fun r55 =>
    (bif r55 then
    (bif a35 then
    (let v56 : Bool := ((nthI a49 a37 df1).2.2.2.2.1 != a43)
    (bif v56 then
    (let v57 : List ty12 := [((nthI a49 a37 df1).1, ((nthI a49 a37 df1).2.1, ((nthI a49 a37 df1).2.2.1, ((nthI a49 a37 df1).2.2.2.1, ((nthI a49 a37 df1).2.2.2.2.1, ((nthI a49 a37 df1).2.2.2.2.2.1, (((nthI a49 a37 df1).2.2.2.2.2.2.1.1, (nthI a49 a37 df1).2.2.2.2.2.2.1.2), ((nthI a49 a37 df1).2.2.2.2.2.2.2.1, ((nthI a49 a37 df1).2.2.2.2.2.2.2.2.1, (nthI a49 a37 df1).2.2.2.2.2.2.2.2.2)))))))))]
    (bif decide ((a50.length + v57.length) * 104 ≤ 140737488355328) then
    (S.l09Into_l1 m e6_0 e6_1 a34 a35 a36 (IntKind.wrap .i64 (a37 + 1)) a38 a39 a40 a41 a42 a43 a44 a45 a46 a47 a48 a49 (a50 ++ v57) a51 a52)
    else
    none))
    else
    (Option.bind (S.AggJoin ((nthI a49 a37 df1).2.2.2.2.2.1) ((nthI a49 a37 df1).2.2.2.2.2.2.1.1) ((nthI a49 a37 df1).2.2.2.2.2.2.1.2) ((nthI a49 a37 df1).2.2.2.2.2.2.2.1) ((nthI a49 a37 df1).2.2.2.2.2.2.2.2.1) a44 a45 a46 a47 a48 ((nthI a49 a37 df1).2.2.2.2.2.2.2.2.2) a52) fun r59 =>
    (bif (!r59.2.2.2.2.2.1) then
    (e6_0 a34 a35 false a36 a38 a39 a40 a41 a42 a43 a44 a45 a46 a47 a48 a50 a51 a52)
    else
    (bif (!a35) then
    (Option.bind (S.l01Bound a38 a43 ((nthI a49 a37 df1).2.2.2.2.1) true a51) fun r61 =>
    (let v62 : Int := (if (nthI a49 a37 df1).2.2.1 < a41 then (nthI a49 a37 df1).2.2.1 else a41)
    (S.l09Into_l1 m e6_0 e6_1 a34 a35 true (IntKind.wrap .i64 (a37 + 1)) a38 a39 a40 v62 (if (nthI a49 a37 df1).2.2.2.1 > a42 then (nthI a49 a37 df1).2.2.2.1 else a42) r61 r59.1 r59.2.1 r59.2.2.1 r59.2.2.2.1 r59.2.2.2.2.1 a49 a50 a51 r59.2.2.2.2.2.2)))
    else
    (let v64 : Int := (if (nthI a49 a37 df1).2.2.1 < a41 then (nthI a49 a37 df1).2.2.1 else a41)
    (S.l09Into_l1 m e6_0 e6_1 a34 a35 true (IntKind.wrap .i64 (a37 + 1)) a38 a39 a40 v64 (if (nthI a49 a37 df1).2.2.2.1 > a42 then (nthI a49 a37 df1).2.2.2.1 else a42) a43 r59.1 r59.2.1 r59.2.2.1 r59.2.2.2.1 r59.2.2.2.2.1 a49 a50 a51 r59.2.2.2.2.2.2)))))))
    else
    (Option.bind (S.AggJoin ((nthI a49 a37 df1).2.2.2.2.2.1) ((nthI a49 a37 df1).2.2.2.2.2.2.1.1) ((nthI a49 a37 df1).2.2.2.2.2.2.1.2) ((nthI a49 a37 df1).2.2.2.2.2.2.2.1) ((nthI a49 a37 df1).2.2.2.2.2.2.2.2.1) a44 a45 a46 a47 a48 ((nthI a49 a37 df1).2.2.2.2.2.2.2.2.2) a52) fun r66 =>
    (bif (!r66.2.2.2.2.2.1) then
    (e6_0 a34 a35 false a36 a38 a39 a40 a41 a42 a43 a44 a45 a46 a47 a48 a50 a51 a52)
    else
    (bif (!a35) then
    (Option.bind (S.l01Bound a38 a43 ((nthI a49 a37 df1).2.2.2.2.1) true a51) fun r68 =>
    (let v69 : Int := (if (nthI a49 a37 df1).2.2.1 < a41 then (nthI a49 a37 df1).2.2.1 else a41)
    (S.l09Into_l1 m e6_0 e6_1 a34 a35 true (IntKind.wrap .i64 (a37 + 1)) a38 a39 a40 v69 (if (nthI a49 a37 df1).2.2.2.1 > a42 then (nthI a49 a37 df1).2.2.2.1 else a42) r68 r66.1 r66.2.1 r66.2.2.1 r66.2.2.2.1 r66.2.2.2.2.1 a49 a50 a51 r66.2.2.2.2.2.2)))
    else
    (let v71 : Int := (if (nthI a49 a37 df1).2.2.1 < a41 then (nthI a49 a37 df1).2.2.1 else a41)
    (S.l09Into_l1 m e6_0 e6_1 a34 a35 true (IntKind.wrap .i64 (a37 + 1)) a38 a39 a40 v71 (if (nthI a49 a37 df1).2.2.2.1 > a42 then (nthI a49 a37 df1).2.2.2.1 else a42) a43 r66.1 r66.2.1 r66.2.2.1 r66.2.2.2.1 r66.2.2.2.2.1 a49 a50 a51 r66.2.2.2.2.2.2))))))
    else
    (bif (!a34) then
    (Option.bind (S.l09Twin ((nthI a49 a37 df1).1) ((nthI a49 a37 df1).2.1) ((nthI a49 a37 df1).2.2.1) ((nthI a49 a37 df1).2.2.2.1) ((nthI a49 a37 df1).2.2.2.2.1) ((nthI a49 a37 df1).2.2.2.2.2.1) ((nthI a49 a37 df1).2.2.2.2.2.2.1.1) ((nthI a49 a37 df1).2.2.2.2.2.2.1.2) ((nthI a49 a37 df1).2.2.2.2.2.2.2.1) ((nthI a49 a37 df1).2.2.2.2.2.2.2.2.1) a39 a40 a41 a42 a43 a44 a45 a46 a47 a48 ((nthI a49 a37 df1).2.2.2.2.2.2.2.2.2) a52) fun r73 =>
    (bif (!r73) then
    (let v74 : List ty12 := [((nthI a49 a37 df1).1, ((nthI a49 a37 df1).2.1, ((nthI a49 a37 df1).2.2.1, ((nthI a49 a37 df1).2.2.2.1, ((nthI a49 a37 df1).2.2.2.2.1, ((nthI a49 a37 df1).2.2.2.2.2.1, (((nthI a49 a37 df1).2.2.2.2.2.2.1.1, (nthI a49 a37 df1).2.2.2.2.2.2.1.2), ((nthI a49 a37 df1).2.2.2.2.2.2.2.1, ((nthI a49 a37 df1).2.2.2.2.2.2.2.2.1, (nthI a49 a37 df1).2.2.2.2.2.2.2.2.2)))))))))]
    (bif decide ((a50.length + v74.length) * 104 ≤ 140737488355328) then
    (S.l09Into_l1 m e6_0 e6_1 a34 a35 a36 (IntKind.wrap .i64 (a37 + 1)) a38 a39 a40 a41 a42 a43 a44 a45 a46 a47 a48 a49 (a50 ++ v74) a51 a52)
    else
    none))
    else
    (bif a35 then
    (let v76 : Bool := ((nthI a49 a37 df1).2.2.2.2.1 != a43)
    (bif v76 then
    (let v77 : List ty12 := [((nthI a49 a37 df1).1, ((nthI a49 a37 df1).2.1, ((nthI a49 a37 df1).2.2.1, ((nthI a49 a37 df1).2.2.2.1, ((nthI a49 a37 df1).2.2.2.2.1, ((nthI a49 a37 df1).2.2.2.2.2.1, (((nthI a49 a37 df1).2.2.2.2.2.2.1.1, (nthI a49 a37 df1).2.2.2.2.2.2.1.2), ((nthI a49 a37 df1).2.2.2.2.2.2.2.1, ((nthI a49 a37 df1).2.2.2.2.2.2.2.2.1, (nthI a49 a37 df1).2.2.2.2.2.2.2.2.2)))))))))]
    (bif decide ((a50.length + v77.length) * 104 ≤ 140737488355328) then
    (S.l09Into_l1 m e6_0 e6_1 a34 a35 a36 (IntKind.wrap .i64 (a37 + 1)) a38 a39 a40 a41 a42 a43 a44 a45 a46 a47 a48 a49 (a50 ++ v77) a51 a52)
    else
    none))
    else
    (Option.bind (S.AggJoin ((nthI a49 a37 df1).2.2.2.2.2.1) ((nthI a49 a37 df1).2.2.2.2.2.2.1.1) ((nthI a49 a37 df1).2.2.2.2.2.2.1.2) ((nthI a49 a37 df1).2.2.2.2.2.2.2.1) ((nthI a49 a37 df1).2.2.2.2.2.2.2.2.1) a44 a45 a46 a47 a48 ((nthI a49 a37 df1).2.2.2.2.2.2.2.2.2) a52) fun r79 =>
    (bif (!r79.2.2.2.2.2.1) then
    (e6_0 a34 a35 false a36 a38 a39 a40 a41 a42 a43 a44 a45 a46 a47 a48 a50 a51 a52)
    else
    (bif (!a35) then
    (Option.bind (S.l01Bound a38 a43 ((nthI a49 a37 df1).2.2.2.2.1) true a51) fun r81 =>
    (let v82 : Int := (if (nthI a49 a37 df1).2.2.1 < a41 then (nthI a49 a37 df1).2.2.1 else a41)
    (S.l09Into_l1 m e6_0 e6_1 a34 a35 true (IntKind.wrap .i64 (a37 + 1)) a38 a39 a40 v82 (if (nthI a49 a37 df1).2.2.2.1 > a42 then (nthI a49 a37 df1).2.2.2.1 else a42) r81 r79.1 r79.2.1 r79.2.2.1 r79.2.2.2.1 r79.2.2.2.2.1 a49 a50 a51 r79.2.2.2.2.2.2)))
    else
    (let v84 : Int := (if (nthI a49 a37 df1).2.2.1 < a41 then (nthI a49 a37 df1).2.2.1 else a41)
    (S.l09Into_l1 m e6_0 e6_1 a34 a35 true (IntKind.wrap .i64 (a37 + 1)) a38 a39 a40 v84 (if (nthI a49 a37 df1).2.2.2.1 > a42 then (nthI a49 a37 df1).2.2.2.1 else a42) a43 r79.1 r79.2.1 r79.2.2.1 r79.2.2.2.1 r79.2.2.2.2.1 a49 a50 a51 r79.2.2.2.2.2.2)))))))
    else
    (Option.bind (S.AggJoin ((nthI a49 a37 df1).2.2.2.2.2.1) ((nthI a49 a37 df1).2.2.2.2.2.2.1.1) ((nthI a49 a37 df1).2.2.2.2.2.2.1.2) ((nthI a49 a37 df1).2.2.2.2.2.2.2.1) ((nthI a49 a37 df1).2.2.2.2.2.2.2.2.1) a44 a45 a46 a47 a48 ((nthI a49 a37 df1).2.2.2.2.2.2.2.2.2) a52) fun r86 =>
    (bif (!r86.2.2.2.2.2.1) then
    (e6_0 a34 a35 false a36 a38 a39 a40 a41 a42 a43 a44 a45 a46 a47 a48 a50 a51 a52)
    else
    (bif (!a35) then
    (Option.bind (S.l01Bound a38 a43 ((nthI a49 a37 df1).2.2.2.2.1) true a51) fun r88 =>
    (let v89 : Int := (if (nthI a49 a37 df1).2.2.1 < a41 then (nthI a49 a37 df1).2.2.1 else a41)
    (S.l09Into_l1 m e6_0 e6_1 a34 a35 true (IntKind.wrap .i64 (a37 + 1)) a38 a39 a40 v89 (if (nthI a49 a37 df1).2.2.2.1 > a42 then (nthI a49 a37 df1).2.2.2.1 else a42) r88 r86.1 r86.2.1 r86.2.2.1 r86.2.2.2.1 r86.2.2.2.2.1 a49 a50 a51 r86.2.2.2.2.2.2)))
    else
    (let v91 : Int := (if (nthI a49 a37 df1).2.2.1 < a41 then (nthI a49 a37 df1).2.2.1 else a41)
    (S.l09Into_l1 m e6_0 e6_1 a34 a35 true (IntKind.wrap .i64 (a37 + 1)) a38 a39 a40 v91 (if (nthI a49 a37 df1).2.2.2.1 > a42 then (nthI a49 a37 df1).2.2.2.1 else a42) a43 r86.1 r86.2.1 r86.2.2.1 r86.2.2.2.1 r86.2.2.2.2.1 a49 a50 a51 r86.2.2.2.2.2.2))))))))
    else
    (let v93 : List ty12 := [((nthI a49 a37 df1).1, ((nthI a49 a37 df1).2.1, ((nthI a49 a37 df1).2.2.1, ((nthI a49 a37 df1).2.2.2.1, ((nthI a49 a37 df1).2.2.2.2.1, ((nthI a49 a37 df1).2.2.2.2.2.1, (((nthI a49 a37 df1).2.2.2.2.2.2.1.1, (nthI a49 a37 df1).2.2.2.2.2.2.1.2), ((nthI a49 a37 df1).2.2.2.2.2.2.2.1, ((nthI a49 a37 df1).2.2.2.2.2.2.2.2.1, (nthI a49 a37 df1).2.2.2.2.2.2.2.2.2)))))))))]
    (bif decide ((a50.length + v93.length) * 104 ≤ 140737488355328) then
    (S.l09Into_l1 m e6_0 e6_1 a34 a35 a36 (IntKind.wrap .i64 (a37 + 1)) a38 a39 a40 a41 a42 a43 a44 a45 a46 a47 a48 a49 (a50 ++ v93) a51 a52)
    else
    none)))))
    else
    (bif (!a34) then
    (Option.bind (S.l09Twin ((nthI a49 a37 df1).1) ((nthI a49 a37 df1).2.1) ((nthI a49 a37 df1).2.2.1) ((nthI a49 a37 df1).2.2.2.1) ((nthI a49 a37 df1).2.2.2.2.1) ((nthI a49 a37 df1).2.2.2.2.2.1) ((nthI a49 a37 df1).2.2.2.2.2.2.1.1) ((nthI a49 a37 df1).2.2.2.2.2.2.1.2) ((nthI a49 a37 df1).2.2.2.2.2.2.2.1) ((nthI a49 a37 df1).2.2.2.2.2.2.2.2.1) a39 a40 a41 a42 a43 a44 a45 a46 a47 a48 ((nthI a49 a37 df1).2.2.2.2.2.2.2.2.2) a52) fun r95 =>
    (bif (!r95) then
    (let v96 : List ty12 := [((nthI a49 a37 df1).1, ((nthI a49 a37 df1).2.1, ((nthI a49 a37 df1).2.2.1, ((nthI a49 a37 df1).2.2.2.1, ((nthI a49 a37 df1).2.2.2.2.1, ((nthI a49 a37 df1).2.2.2.2.2.1, (((nthI a49 a37 df1).2.2.2.2.2.2.1.1, (nthI a49 a37 df1).2.2.2.2.2.2.1.2), ((nthI a49 a37 df1).2.2.2.2.2.2.2.1, ((nthI a49 a37 df1).2.2.2.2.2.2.2.2.1, (nthI a49 a37 df1).2.2.2.2.2.2.2.2.2)))))))))]
    (bif decide ((a50.length + v96.length) * 104 ≤ 140737488355328) then
    (S.l09Into_l1 m e6_0 e6_1 a34 a35 a36 (IntKind.wrap .i64 (a37 + 1)) a38 a39 a40 a41 a42 a43 a44 a45 a46 a47 a48 a49 (a50 ++ v96) a51 a52)
    else
    none))
    else
    (bif a35 then
    (let v98 : Bool := ((nthI a49 a37 df1).2.2.2.2.1 != a43)
    (bif v98 then
    (let v99 : List ty12 := [((nthI a49 a37 df1).1, ((nthI a49 a37 df1).2.1, ((nthI a49 a37 df1).2.2.1, ((nthI a49 a37 df1).2.2.2.1, ((nthI a49 a37 df1).2.2.2.2.1, ((nthI a49 a37 df1).2.2.2.2.2.1, (((nthI a49 a37 df1).2.2.2.2.2.2.1.1, (nthI a49 a37 df1).2.2.2.2.2.2.1.2), ((nthI a49 a37 df1).2.2.2.2.2.2.2.1, ((nthI a49 a37 df1).2.2.2.2.2.2.2.2.1, (nthI a49 a37 df1).2.2.2.2.2.2.2.2.2)))))))))]
    (bif decide ((a50.length + v99.length) * 104 ≤ 140737488355328) then
    (S.l09Into_l1 m e6_0 e6_1 a34 a35 a36 (IntKind.wrap .i64 (a37 + 1)) a38 a39 a40 a41 a42 a43 a44 a45 a46 a47 a48 a49 (a50 ++ v99) a51 a52)
    else
    none))
    else
    (Option.bind (S.AggJoin ((nthI a49 a37 df1).2.2.2.2.2.1) ((nthI a49 a37 df1).2.2.2.2.2.2.1.1) ((nthI a49 a37 df1).2.2.2.2.2.2.1.2) ((nthI a49 a37 df1).2.2.2.2.2.2.2.1) ((nthI a49 a37 df1).2.2.2.2.2.2.2.2.1) a44 a45 a46 a47 a48 ((nthI a49 a37 df1).2.2.2.2.2.2.2.2.2) a52) fun r101 =>
    (bif (!r101.2.2.2.2.2.1) then
    (e6_0 a34 a35 false a36 a38 a39 a40 a41 a42 a43 a44 a45 a46 a47 a48 a50 a51 a52)
    else
    (bif (!a35) then
    (Option.bind (S.l01Bound a38 a43 ((nthI a49 a37 df1).2.2.2.2.1) true a51) fun r103 =>
    (let v104 : Int := (if (nthI a49 a37 df1).2.2.1 < a41 then (nthI a49 a37 df1).2.2.1 else a41)
    (S.l09Into_l1 m e6_0 e6_1 a34 a35 true (IntKind.wrap .i64 (a37 + 1)) a38 a39 a40 v104 (if (nthI a49 a37 df1).2.2.2.1 > a42 then (nthI a49 a37 df1).2.2.2.1 else a42) r103 r101.1 r101.2.1 r101.2.2.1 r101.2.2.2.1 r101.2.2.2.2.1 a49 a50 a51 r101.2.2.2.2.2.2)))
    else
    (let v106 : Int := (if (nthI a49 a37 df1).2.2.1 < a41 then (nthI a49 a37 df1).2.2.1 else a41)
    (S.l09Into_l1 m e6_0 e6_1 a34 a35 true (IntKind.wrap .i64 (a37 + 1)) a38 a39 a40 v106 (if (nthI a49 a37 df1).2.2.2.1 > a42 then (nthI a49 a37 df1).2.2.2.1 else a42) a43 r101.1 r101.2.1 r101.2.2.1 r101.2.2.2.1 r101.2.2.2.2.1 a49 a50 a51 r101.2.2.2.2.2.2)))))))
    else
    (Option.bind (S.AggJoin ((nthI a49 a37 df1).2.2.2.2.2.1) ((nthI a49 a37 df1).2.2.2.2.2.2.1.1) ((nthI a49 a37 df1).2.2.2.2.2.2.1.2) ((nthI a49 a37 df1).2.2.2.2.2.2.2.1) ((nthI a49 a37 df1).2.2.2.2.2.2.2.2.1) a44 a45 a46 a47 a48 ((nthI a49 a37 df1).2.2.2.2.2.2.2.2.2) a52) fun r108 =>
    (bif (!r108.2.2.2.2.2.1) then
    (e6_0 a34 a35 false a36 a38 a39 a40 a41 a42 a43 a44 a45 a46 a47 a48 a50 a51 a52)
    else
    (bif (!a35) then
    (Option.bind (S.l01Bound a38 a43 ((nthI a49 a37 df1).2.2.2.2.1) true a51) fun r110 =>
    (let v111 : Int := (if (nthI a49 a37 df1).2.2.1 < a41 then (nthI a49 a37 df1).2.2.1 else a41)
    (S.l09Into_l1 m e6_0 e6_1 a34 a35 true (IntKind.wrap .i64 (a37 + 1)) a38 a39 a40 v111 (if (nthI a49 a37 df1).2.2.2.1 > a42 then (nthI a49 a37 df1).2.2.2.1 else a42) r110 r108.1 r108.2.1 r108.2.2.1 r108.2.2.2.1 r108.2.2.2.2.1 a49 a50 a51 r108.2.2.2.2.2.2)))
    else
    (let v113 : Int := (if (nthI a49 a37 df1).2.2.1 < a41 then (nthI a49 a37 df1).2.2.1 else a41)
    (S.l09Into_l1 m e6_0 e6_1 a34 a35 true (IntKind.wrap .i64 (a37 + 1)) a38 a39 a40 v113 (if (nthI a49 a37 df1).2.2.2.1 > a42 then (nthI a49 a37 df1).2.2.2.1 else a42) a43 r108.1 r108.2.1 r108.2.2.1 r108.2.2.2.1 r108.2.2.2.2.1 a49 a50 a51 r108.2.2.2.2.2.2))))))))
    else
    (let v115 : List ty12 := [((nthI a49 a37 df1).1, ((nthI a49 a37 df1).2.1, ((nthI a49 a37 df1).2.2.1, ((nthI a49 a37 df1).2.2.2.1, ((nthI a49 a37 df1).2.2.2.2.1, ((nthI a49 a37 df1).2.2.2.2.2.1, (((nthI a49 a37 df1).2.2.2.2.2.2.1.1, (nthI a49 a37 df1).2.2.2.2.2.2.1.2), ((nthI a49 a37 df1).2.2.2.2.2.2.2.1, ((nthI a49 a37 df1).2.2.2.2.2.2.2.2.1, (nthI a49 a37 df1).2.2.2.2.2.2.2.2.2)))))))))]
    (bif decide ((a50.length + v115.length) * 104 ≤ 140737488355328) then
    (S.l09Into_l1 m e6_0 e6_1 a34 a35 a36 (IntKind.wrap .i64 (a37 + 1)) a38 a39 a40 a41 a42 a43 a44 a45 a46 a47 a48 a49 (a50 ++ v115) a51 a52)
    else
    none))))
    else
    none)
    else
    (e6_1 a34 a35 a36 a38 a39 a40 a41 a42 a43 a44 a45 a46 a47 a48 a50 a51 a52))
noncomputable def S.l09Into_l0 : Nat → (Bool → Int → Int → Int → Int → Int → Int → Int → Int → Int → Int → List Int → Option (Bool × (List ty12))) → (Int → Int → Int → Int → Int → Int → Int → Int → Int → Int → (List ty12) → List Int → Option (Bool × (List ty12))) → Bool → Bool → Bool → Int → Int → Int → Int → Int → Int → Int → Int → Int → Int → Int → (List ty12) → List Int → List Int → Option (Bool × (List ty12))
  | 0, _, _, _, _, _, _, _, _, _, _, _, _, _, _, _, _, _, _, _ => none
  | m + 1, e2_0, e2_1, a17, a18, a19, a20, a21, a22, a23, a24, a25, a26, a27, a28, a29, a30, a31, a32, a33 =>
    (bif a19 then
    (S.l09Into_l1 fu (fun y117 y118 y119 y120 y121 y122 y123 y124 y125 y126 y127 y128 y129 y130 y131 y132 y133 y134 =>
    (e2_0 y119 y122 y123 y124 y125 y126 y127 y128 y129 y130 y131 y134)) (fun y135 y136 y137 y138 y139 y140 y141 y142 y143 y144 y145 y146 y147 y148 y149 y150 y151 =>
    (S.l09Into_l0 m e2_0 e2_1 y135 y136 y137 y138 y139 y140 y141 y142 y143 y144 y145 y146 y147 y148 y149 y150 y151)) a17 a18 false 0 a20 a21 a22 a23 a24 a25 a26 a27 a28 a29 a30 a31 [] a32 a33)
    else
    (e2_1 a21 a22 a23 a24 a25 a26 a27 a28 a29 a30 a31 a33))
noncomputable def S.l09Into (a1 a2 a3 a4 a5 a6 a7 a8 a9 a10 a11 : Int) (a12 a13 : Bool) (a14 : List Int) (a15 : List ty12) (a16 : List Int) : Option (Bool × (List ty12)) :=
(S.l09Into_l0 fu (fun y152 y153 y154 y155 y156 y157 y158 y159 y160 y161 y162 y163 =>
(some (y152, []))) (fun y164 y165 y166 y167 y168 y169 y170 y171 y172 y173 y174 y175 =>
(Option.bind (S.l09Put y164 y165 y166 y167 y168 y169 y170 y171 y172 y173 y174 y175) fun r176 =>
(some (true, r176)))) a12 a13 true a1 a2 a3 a4 a5 a6 a7 a8 a9 a10 a11 a15 a14 a16)
noncomputable def H52_6 : LoopH := ⟨⟨((.one (.unk)) :: (.one (.sl 0)) :: (.one (.unk)) :: hh :: hh :: (.one (.ptr 0 0)) :: (.one (.unk)) :: (.one (.ptr 1 0)) :: (hu 4 (hh :: (.one (.sl 1)) :: hh :: (hu 89 [])))), [(41, [.hole, .sl 2]), (113, (ho 10 [.sl 3]))], [(113, sh1, .ro), (113, sh3, .own), (95, (.int .u64), .ro), (3, (.int .i64), .ro)]⟩, ([0, 2, 6] ++ rg 8 4 ++ rg 15 89), [], ([0, 1, 2, 6, 8, 9] ++ rg 14 90), [13], [], [(7, 10)], []⟩
noncomputable def k52_6 : List PK := ((.bool) :: (.bool) :: (.bool) :: (ki 9 ((.int .u64) :: (ki 2 [.row sh1, .row sh3, .row (.int .u64), .row (.int .i64)]))))
noncomputable def W52_6 (m : Nat) (k : Kont (Bool × (List ty12))) : Cur k52_6 (Option (Bool × (List ty12))) := S.l09Into_l1 m (exF k .ret ⟨(hu 3 (hh :: hh :: (.one (.ptr 0 0)) :: (.one (.unk)) :: (.one (.ptr 1 0)) :: (hu 2 (hh :: hh :: hh :: (.one (.sl 0)) :: (hu 90 []))))), [(41, [.hole, .sl 1]), (113, (ho 10 [.sl 2]))], [(113, sh3, .own), (95, (.int .u64), .ro), (3, (.int .i64), .ro)]⟩ ((.bool) :: (.bool) :: (.nil) :: (.bool) :: (.bool) :: (ki 8 ((.int .u64) :: (ki 2 [.row sh3, .row (.int .u64), .row (.int .i64)]))))) (exF k (.exit 2) ⟨(hu 3 (hh :: hh :: (.one (.ptr 0 0)) :: (.one (.unk)) :: (.one (.ptr 1 0)) :: (hu 4 (hh :: (.one (.sl 0)) :: (hu 90 []))))), [(41, [.hole, .sl 1]), (113, (ho 10 [.sl 2]))], [(113, sh3, .own), (95, (.int .u64), .ro), (3, (.int .i64), .ro)]⟩ ((.bool) :: (.bool) :: (.bool) :: (ki 8 ((.int .u64) :: (ki 2 [.row sh3, .row (.int .u64), .row (.int .i64)])))))
noncomputable def E52_6 (m : Nat) : List Prm → Kont (Bool × (List ty12)) → Option (Bool × (List ty12)) := eL k52_6 (W52_6 m)
theorem ev52_6 (m : Nat) (k : Kont (Bool × (List ty12))) (a : Args k52_6) : evL Tryz.prog G52 loopNil c52_6 (turn Tryz.prog (0, 0) H52_6 (E52_6 m) k) (H52_6.sk.fl (encP k52_6 a)) = unc k52_6 (W52_6 (m + 1) k) a := by kernel_rfl
theorem ok52_6 (m : Nat) : LoopOk Tryz.prog (0, 0) c52_6 (enter Tryz.prog (0, 0) H52_6 (E52_6 m)) := loop_gen (Fl := W52_6) (G := G52) (L := loopNil) (envCons_good good126 (envCons_good good128 (envCons_good good129 (envCons_good good127 (envConsS_good good130 envNil_good))))) (no_loops (c := c52_6) (by kernel_rfl)) (fun _ _ => by kernel_rfl) ev52_6 m
noncomputable def L52_2 : LEnv (Bool × (List ty12)) := (loopCons 6 (enter Tryz.prog (0, 0) H52_6 (E52_6 fu)) loopNil)
theorem lq52_2 : loopsOf c52_2 = [c52_6] := by kernel_rfl
theorem fr52_6 : firstReg c52_6 = some 6 := by kernel_rfl
theorem le52_6 : L52_2 6 = (enter Tryz.prog (0, 0) H52_6 (E52_6 fu)) := by kernel_rfl
theorem lm52_2 : ∀ x ∈ [c52_6], ∀ id, firstReg x = some id → LoopOk Tryz.prog (0, 0) x (L52_2 id) := (loops_cons fr52_6 le52_6 (ok52_6 fu) loops_nil)
theorem lp52_2 : ∀ x ∈ loopsOf c52_2, ∀ id, firstReg x = some id → LoopOk Tryz.prog (0, 0) x (L52_2 id) := loops_eq lq52_2 lm52_2
noncomputable def H52_2 : LoopH := ⟨⟨((.one (.unk)) :: (.one (.sl 0)) :: (.one (.unk)) :: hh :: hh :: (.one (.ptr 0 0)) :: (.one (.unk)) :: (.one (.ptr 1 0)) :: (hu 4 (hh :: (hu 91 [])))), [(41, [.hole, .sl 1]), (113, (ho 10 [.sl 2]))], [(113, sh1, .ro), (95, (.int .u64), .ro), (3, (.int .i64), .ro)]⟩, ([0, 2, 6] ++ rg 8 4 ++ rg 13 91), [], ([0] ++ rg 2 5 ++ [8, 9] ++ rg 12 92), [], [], [(1, 0)], []⟩
noncomputable def k52_2 : List PK := ((.bool) :: (.bool) :: (.bool) :: (ki 8 ((.int .u64) :: (ki 2 [.row sh1, .row (.int .u64), .row (.int .i64)]))))
noncomputable def W52_2 (m : Nat) (k : Kont (Bool × (List ty12))) : Cur k52_2 (Option (Bool × (List ty12))) := S.l09Into_l0 m (exF k .ret ⟨(hu 7 ((.one (.ptr 0 0)) :: (hu 2 (hh :: hh :: (hu 92 []))))), [(113, (ho 10 [.sl 0]))], [(3, (.int .i64), .ro)]⟩ ((.nil) :: (.bool) :: (ki 7 ((.int .u64) :: (ki 2 [.row (.int .i64)]))))) (exF k (.exit 0) ⟨((.one (.unk)) :: (.one (.sl 0)) :: (hu 5 ((.one (.ptr 0 0)) :: (hu 96 [])))), [(113, (ho 10 [.sl 1]))], [(113, sh1, .ro), (3, (.int .i64), .ro)]⟩ (ki 7 ((.int .u64) :: (ki 2 [.row sh1, .row (.int .i64)]))))
noncomputable def E52_2 (m : Nat) : List Prm → Kont (Bool × (List ty12)) → Option (Bool × (List ty12)) := eL k52_2 (W52_2 m)
theorem ev52_2 (m : Nat) (k : Kont (Bool × (List ty12))) (a : Args k52_2) : evL Tryz.prog G52 L52_2 c52_2 (turn Tryz.prog (0, 0) H52_2 (E52_2 m) k) (H52_2.sk.fl (encP k52_2 a)) = unc k52_2 (W52_2 (m + 1) k) a := by kernel_rfl
theorem ok52_2 (m : Nat) : LoopOk Tryz.prog (0, 0) c52_2 (enter Tryz.prog (0, 0) H52_2 (E52_2 m)) := loop_gen (Fl := W52_2) (G := G52) (L := L52_2) (envCons_good good126 (envCons_good good128 (envCons_good good129 (envCons_good good127 (envConsS_good good130 envNil_good))))) lp52_2 (fun _ _ => by kernel_rfl) ev52_2 m
noncomputable def L52 : LEnv (Bool × (List ty12)) := (loopCons 2 (enter Tryz.prog (0, 0) H52_2 (E52_2 fu)) loopNil)
theorem lq52 : loopsOf c52 = [c52_2] := by kernel_rfl
theorem fr52_2 : firstReg c52_2 = some 2 := by kernel_rfl
theorem le52_2 : L52 2 = (enter Tryz.prog (0, 0) H52_2 (E52_2 fu)) := by kernel_rfl
theorem lm52 : ∀ x ∈ [c52_2], ∀ id, firstReg x = some id → LoopOk Tryz.prog (0, 0) x (L52 id) := (loops_cons fr52_2 le52_2 (ok52_2 fu) loops_nil)
theorem lp52 : ∀ x ∈ loopsOf c52, ∀ id, firstReg x = some id → LoopOk Tryz.prog (0, 0) x (L52 id) := loops_eq lq52 lm52
noncomputable def sg52 : Sg := ⟨⟨[.agg [.hole, .sl 0], .one (.sl 1), .agg (ho 10 [.sl 2]), hh, hh], [], [(95, (.int .u64), .ro), (113, sh1, .ro), (3, (.int .i64), .ro)]⟩, (ki 8 ((.int .u64) :: (ki 2 [.bool, .bool, .row (.int .u64), .row sh1, .row (.int .i64)]))), ⟨[.one (.sl 0), hh], [], [(113, sh1, .ro)]⟩, [.bool, .row sh1]⟩
noncomputable def E52 : Fun2 := eOf sg52 S.l09Into
theorem ev52 (a : Args sg52.ks) : evS Tryz.prog G52 L52 (0, 0) [1000000] Tryz.f52 c52 (kOf sg52) (sg52.sk.fl (encP sg52.ks a)) = unc sg52.ks S.l09Into a := by kernel_rfl
theorem good52 : Vm.Good Tryz.prog 52 E52 := good_gen (G := G52) (L := L52) (c := c52) (rn := [1000000]) (N := (0, 0)) (envCons_good good126 (envCons_good good128 (envCons_good good129 (envCons_good good127 (envConsS_good good130 envNil_good))))) lp52 Tryz.func52 (by kernel_rfl) (by kernel_rfl) (fun _ => by kernel_rfl) ev52
noncomputable def G9 : Env := (envCons 47 [] E47 (envCons 48 [] E48 (envCons 49 [] E49 (envCons 50 [] E50 (envCons 51 [] E51 (envConsS 52 [] E52 envNil))))))
noncomputable def c9 : Code := bodyOf Tryz.f9
noncomputable def c9_6 : Code := (loopsOf c9).getD 0 .skip
noncomputable def S.CellsAdd_l0 : Nat → (Bool → (List (Int × Int)) → (List ty12) → Option (Bool × (List ty12))) → ((List (Int × Int)) → (List ty12) → Option (Bool × (List ty12))) → Int → Int → Int → Int → Int → Int → Int → Int → (List (Int × Int)) → (List ty12) → Option (Bool × (List ty12))
  | 0, _, _, _, _, _, _, _, _, _, _, _, _ => none
  | m + 1, e6_0, e6_1, a13, a14, a15, a16, a17, a18, a19, a20, a21, a22 =>
    (bif (decide (a17 < (a21.length : Int))) then
    (bif decide ((0 : Int) ≤ a17 ∧ a17 < (a21.length : Int)) then
    (bif decide ((0 : Int) ≤ a17 ∧ a17 < (a21.length : Int)) then
    (same (dup (Option.bind (S.AggOf [a16]) fun r25 =>
    (Option.bind (S.CellOk a13 a14 ((nthI a21 a17 df2).1) ((nthI a21 a17 df2).2) a15 r25.1 r25.2.1 r25.2.2.1 r25.2.2.2.1 r25.2.2.2.2.1 r25.2.2.2.2.2) fun r26 =>
    (bif (!r26) then
    (e6_0 false a21 a22)
    else
    (Option.bind (S.l09Into 0 a13 a14 ((nthI a21 a17 df2).1) ((nthI a21 a17 df2).2) a15 r25.1 r25.2.1 r25.2.2.1 r25.2.2.2.1 r25.2.2.2.2.1 (a18 == 3) true [] a22 r25.2.2.2.2.2) fun r27 =>
    (bif (!r27.1) then
    (e6_0 false a21 a22)
    else
    (S.CellsAdd_l0 m e6_0 e6_1 a13 a14 a15 a16 (IntKind.wrap .i64 (a17 + 1)) a18 a19 a20 a21 r27.2)))))))
    (Option.bind (S.AggOf [a16]) fun r25 =>
    (Option.bind (S.CellOk a13 a14 ((nthI a21 a17 df2).1) ((nthI a21 a17 df2).2) a15 r25.1 r25.2.1 r25.2.2.1 r25.2.2.2.1 r25.2.2.2.2.1 r25.2.2.2.2.2) fun r26 =>
    (bif (!r26) then
    (e6_0 false a21 a22)
    else
    (Option.bind (S.l09Into 0 a13 a14 ((nthI a21 a17 df2).1) ((nthI a21 a17 df2).2) a15 r25.1 r25.2.1 r25.2.2.1 r25.2.2.2.1 r25.2.2.2.2.1 (a18 == 3) true [] a22 r25.2.2.2.2.2) fun r27 =>
    (bif (!r27.1) then
    (e6_0 false a21 a22)
    else
    (S.CellsAdd_l0 m e6_0 e6_1 a13 a14 a15 a16 (IntKind.wrap .i64 (a17 + 1)) a18 a19 a20 a21 r27.2)))))))
    else
    none)
    else
    none)
    else
    (e6_1 a21 a22))
noncomputable def S.CellsAdd (a1 a2 a3 a4 a5 a6 a7 a8 : Int) (a9 : List ty12) : Option (Bool × (List ty12)) :=
(Option.bind (S.CellsOk a9) fun r10 =>
(bif (!r10) then
(some (false, []))
else
(Option.bind (S.WinsOf a2 a3 a4 a6) fun r11 =>
(Option.bind (S.l09Copy a9) fun r12 =>
(S.CellsAdd_l0 fu (fun y29 y30 y31 =>
(some (y29, []))) (fun y32 y33 =>
(bif ((y32.length : Int) == 0) then
(some (false, []))
else
(bif (decide (10000 < (y33.length : Int))) then
(some (false, []))
else
(some (true, y33))))) a1 a5 a7 a8 0 a2 a3 a4 r11 r12)))))
noncomputable def H9_6 : LoopH := ⟨⟨((.one (.unk)) :: hh :: (.one (.unk)) :: hh :: (.one (.unk)) :: hh :: hh :: (hu 2 ((.one (.ptr 0 0)) :: (hu 6 ((.one (.sl 0)) :: (.one (.sl 1)) :: hh :: (hu 59 [])))))), [(30, (ho 3 []))], [(107, sh2, .own), (113, sh1, .ro)]⟩, ([0, 2, 4, 7, 8] ++ rg 10 6 ++ rg 19 59), [], (rg 0 14 ++ rg 18 60), [], [], [(17, 0)], []⟩
noncomputable def k9_6 : List PK := (ki 8 [.row sh2, .row sh1])
noncomputable def W9_6 (m : Nat) (k : Kont (Bool × (List ty12))) : Cur k9_6 (Option (Bool × (List ty12))) := S.CellsAdd_l0 m (exF k .ret ⟨(hu 14 (hh :: hh :: (.one (.sl 0)) :: (.one (.sl 1)) :: (hu 60 []))), [], [(107, sh2, .own), (113, sh1, .ro)]⟩ [.nil, .bool, .row sh2, .row sh1]) (exF k (.exit 0) ⟨(hu 16 ((.one (.sl 0)) :: (.one (.sl 1)) :: (hu 60 []))), [], [(107, sh2, .own), (113, sh1, .ro)]⟩ [.row sh2, .row sh1])
noncomputable def E9_6 (m : Nat) : List Prm → Kont (Bool × (List ty12)) → Option (Bool × (List ty12)) := eL k9_6 (W9_6 m)
theorem ev9_6 (m : Nat) (k : Kont (Bool × (List ty12))) (a : Args k9_6) : evL Tryz.prog G9 loopNil c9_6 (turn Tryz.prog (0, 0) H9_6 (E9_6 m) k) (H9_6.sk.fl (encP k9_6 a)) = unc k9_6 (W9_6 (m + 1) k) a := by kernel_rfl
theorem ok9_6 (m : Nat) : LoopOk Tryz.prog (0, 0) c9_6 (enter Tryz.prog (0, 0) H9_6 (E9_6 m)) := loop_gen (Fl := W9_6) (G := G9) (L := loopNil) (envCons_good good47 (envCons_good good48 (envCons_good good49 (envCons_good good50 (envCons_good good51 (envConsS_good good52 envNil_good)))))) (no_loops (c := c9_6) (by kernel_rfl)) (fun _ _ => by kernel_rfl) ev9_6 m
noncomputable def L9 : LEnv (Bool × (List ty12)) := (loopCons 6 (enter Tryz.prog (0, 0) H9_6 (E9_6 fu)) loopNil)
theorem lq9 : loopsOf c9 = [c9_6] := by kernel_rfl
theorem fr9_6 : firstReg c9_6 = some 6 := by kernel_rfl
theorem le9_6 : L9 6 = (enter Tryz.prog (0, 0) H9_6 (E9_6 fu)) := by kernel_rfl
theorem lm9 : ∀ x ∈ [c9_6], ∀ id, firstReg x = some id → LoopOk Tryz.prog (0, 0) x (L9 id) := (loops_cons fr9_6 le9_6 (ok9_6 fu) loops_nil)
theorem lp9 : ∀ x ∈ loopsOf c9, ∀ id, firstReg x = some id → LoopOk Tryz.prog (0, 0) x (L9 id) := loops_eq lq9 lm9
noncomputable def sg9 : Sg := ⟨⟨[.one (.sl 0), hh, .agg (ho 3 []), hh, hh, hh, hh], [], [(113, sh1, .ro)]⟩, (ki 8 [.row sh1]), ⟨[.one (.sl 0), hh], [], [(113, sh1, .ro)]⟩, [.bool, .row sh1]⟩
noncomputable def E9 : Fun2 := eOf sg9 S.CellsAdd
theorem ev9 (a : Args sg9.ks) : evS Tryz.prog G9 L9 (0, 0) [1000000] Tryz.f9 c9 (kOf sg9) (sg9.sk.fl (encP sg9.ks a)) = unc sg9.ks S.CellsAdd a := by kernel_rfl
theorem good9 : Vm.Good Tryz.prog 9 E9 := good_gen (G := G9) (L := L9) (c := c9) (rn := [1000000]) (N := (0, 0)) (envCons_good good47 (envCons_good good48 (envCons_good good49 (envCons_good good50 (envCons_good good51 (envConsS_good good52 envNil_good)))))) lp9 Tryz.func9 (by kernel_rfl) (by kernel_rfl) (fun _ => by kernel_rfl) ev9
noncomputable def G134 : Env := envNil
noncomputable def c134 : Code := bodyOf Tryz.f134
noncomputable def I.in (a1 a2 a3 : Int) : Option Bool :=
(bif (decide (a2 ≤ a1)) then
(some (decide (a1 ≤ a3)))
else
(some false))
noncomputable def sg134 : Sg := ⟨⟨[hh, hh, hh], [], []⟩, (ki 3 []), ⟨[hh], [], []⟩, [.bool]⟩
noncomputable def E134 : Fun2 := eOf sg134 I.in
theorem ev134 (a : Args sg134.ks) : evS Tryz.prog G134 loopNil (0, 0) [] Tryz.f134 c134 (kOf sg134) (sg134.sk.fl (encP sg134.ks a)) = unc sg134.ks I.in a := by kernel_rfl
theorem good134 : Vm.Good Tryz.prog 134 E134 := good_gen (G := G134) (L := loopNil) (c := c134) (rn := []) (N := (0, 0)) envNil_good (no_loops (c := c134) (by kernel_rfl)) Tryz.func134 (by kernel_rfl) (by kernel_rfl) (fun _ => by kernel_rfl) ev134
noncomputable def G135 : Env := (envCons 134 [] E134 envNil)
noncomputable def c135 : Code := bodyOf Tryz.f135
noncomputable def I.isId (a1 : Int) : Option Bool :=
(Option.bind (I.in a1 0 3) fun r2 =>
(some r2))
noncomputable def sg135 : Sg := ⟨⟨[hh], [], []⟩, [.int .i64], ⟨[hh], [], []⟩, [.bool]⟩
noncomputable def E135 : Fun2 := eOf sg135 I.isId
theorem ev135 (a : Args sg135.ks) : evS Tryz.prog G135 loopNil (0, 0) [] Tryz.f135 c135 (kOf sg135) (sg135.sk.fl (encP sg135.ks a)) = unc sg135.ks I.isId a := by kernel_rfl
theorem good135 : Vm.Good Tryz.prog 135 E135 := good_gen (G := G135) (L := loopNil) (c := c135) (rn := []) (N := (0, 0)) (envCons_good good134 envNil_good) (no_loops (c := c135) (by kernel_rfl)) Tryz.func135 (by kernel_rfl) (by kernel_rfl) (fun _ => by kernel_rfl) ev135
noncomputable def G136 : Env := (envCons 134 [] E134 envNil)
noncomputable def c136 : Code := bodyOf Tryz.f136
noncomputable def I.isKey (a1 : Int) : Option Bool :=
(Option.bind (I.in a1 0 15) fun r2 =>
(some r2))
noncomputable def sg136 : Sg := ⟨⟨[hh], [], []⟩, [.int .i64], ⟨[hh], [], []⟩, [.bool]⟩
noncomputable def E136 : Fun2 := eOf sg136 I.isKey
theorem ev136 (a : Args sg136.ks) : evS Tryz.prog G136 loopNil (0, 0) [] Tryz.f136 c136 (kOf sg136) (sg136.sk.fl (encP sg136.ks a)) = unc sg136.ks I.isKey a := by kernel_rfl
theorem good136 : Vm.Good Tryz.prog 136 E136 := good_gen (G := G136) (L := loopNil) (c := c136) (rn := []) (N := (0, 0)) (envCons_good good134 envNil_good) (no_loops (c := c136) (by kernel_rfl)) Tryz.func136 (by kernel_rfl) (by kernel_rfl) (fun _ => by kernel_rfl) ev136
noncomputable def G56 : Env := (envCons 135 [] E135 (envCons 136 [] E136 (envCons 134 [] E134 envNil)))
noncomputable def c56 : Code := bodyOf Tryz.f56
noncomputable def I.isCellPlace (a1 a2 a3 : Int) : Option Bool :=
(Option.bind (I.isId a1) fun r4 =>
(bif r4 then
(Option.bind (I.isKey a2) fun r5 =>
(bif r5 then
(Option.bind (I.in a3 0 15) fun r6 =>
(some r6))
else
(some false)))
else
(some false)))
noncomputable def sg56 : Sg := ⟨⟨[hh, hh, hh], [], []⟩, (ki 3 []), ⟨[hh], [], []⟩, [.bool]⟩
noncomputable def E56 : Fun2 := eOf sg56 I.isCellPlace
theorem ev56 (a : Args sg56.ks) : evS Tryz.prog G56 loopNil (0, 0) [] Tryz.f56 c56 (kOf sg56) (sg56.sk.fl (encP sg56.ks a)) = unc sg56.ks I.isCellPlace a := by kernel_rfl
theorem good56 : Vm.Good Tryz.prog 56 E56 := good_gen (G := G56) (L := loopNil) (c := c56) (rn := []) (N := (0, 0)) (envCons_good good135 (envCons_good good136 (envCons_good good134 envNil_good))) (no_loops (c := c56) (by kernel_rfl)) Tryz.func56 (by kernel_rfl) (by kernel_rfl) (fun _ => by kernel_rfl) ev56
noncomputable def G153 : Env := envNil
noncomputable def c153 : Code := bodyOf Tryz.f153
noncomputable def I.Cell_win (a1 a2 a3 a4 a5 a6 a7 a8 a9 a10 : Int) (a11 : List Int) : Option (Int × Int) :=
(some (a3, a4))
noncomputable def sg153 : Sg := ⟨⟨[.agg (ho 10 [.sl 0])], [], [(3, (.int .i64), .ro)]⟩, (ki 7 ((.int .u64) :: (ki 2 [.row (.int .i64)]))), ⟨[.agg (ho 2 [])], [], []⟩, (ki 2 [])⟩
noncomputable def E153 : Fun2 := eOf sg153 I.Cell_win
theorem ev153 (a : Args sg153.ks) : evS Tryz.prog G153 loopNil (0, 0) [] Tryz.f153 c153 (kOf sg153) (sg153.sk.fl (encP sg153.ks a)) = unc sg153.ks I.Cell_win a := by kernel_rfl
theorem good153 : Vm.Good Tryz.prog 153 E153 := good_gen (G := G153) (L := loopNil) (c := c153) (rn := []) (N := (0, 0)) envNil_good (no_loops (c := c153) (by kernel_rfl)) Tryz.func153 (by kernel_rfl) (by kernel_rfl) (fun _ => by kernel_rfl) ev153
noncomputable def G218 : Env := envNil
noncomputable def c218 : Code := bodyOf Tryz.f218
noncomputable def I.isWin (a1 a2 : Int) : Option Bool :=
(bif (decide (0 ≤ a1)) then
(bif (decide (a1 < a2)) then
(some (decide (a2 ≤ 1100)))
else
(some false))
else
(some false))
noncomputable def sg218 : Sg := ⟨⟨[.agg (ho 2 [])], [], []⟩, (ki 2 []), ⟨[hh], [], []⟩, [.bool]⟩
noncomputable def E218 : Fun2 := eOf sg218 I.isWin
theorem ev218 (a : Args sg218.ks) : evS Tryz.prog G218 loopNil (0, 0) [] Tryz.f218 c218 (kOf sg218) (sg218.sk.fl (encP sg218.ks a)) = unc sg218.ks I.isWin a := by kernel_rfl
theorem good218 : Vm.Good Tryz.prog 218 E218 := good_gen (G := G218) (L := loopNil) (c := c218) (rn := []) (N := (0, 0)) envNil_good (no_loops (c := c218) (by kernel_rfl)) Tryz.func218 (by kernel_rfl) (by kernel_rfl) (fun _ => by kernel_rfl) ev218
noncomputable def G230 : Env := envNil
noncomputable def c230 : Code := bodyOf Tryz.f230
noncomputable def I.WideOf (a1 : Int) : Option (Int × Int) :=
(bif decide ((0 : Int) ≤ 63) then
(some ((Int.fdiv a1 (2 ^ min (Int.toNat 63) (IntKind.bits .i64))), (IntKind.wrap .u64 a1)))
else
none)
noncomputable def sg230 : Sg := ⟨⟨[hh], [], []⟩, [.int .i64], ⟨[.agg (ho 2 [])], [], []⟩, [.int .i64, .int .u64]⟩
noncomputable def E230 : Fun2 := eOf sg230 I.WideOf
theorem ev230 (a : Args sg230.ks) : evS Tryz.prog G230 loopNil (0, 0) [] Tryz.f230 c230 (kOf sg230) (sg230.sk.fl (encP sg230.ks a)) = unc sg230.ks I.WideOf a := by kernel_rfl
theorem good230 : Vm.Good Tryz.prog 230 E230 := good_gen (G := G230) (L := loopNil) (c := c230) (rn := []) (N := (0, 0)) envNil_good (no_loops (c := c230) (by kernel_rfl)) Tryz.func230 (by kernel_rfl) (by kernel_rfl) (fun _ => by kernel_rfl) ev230
noncomputable def G229 : Env := envNil
noncomputable def c229 : Code := bodyOf Tryz.f229
noncomputable def I.WideAdd (a1 a2 a3 a4 : Int) : Option (Int × Int) :=
(bif decide ((0 : Int) ≤ a2 ∧ (0 : Int) ≤ a4 ∧ (0 : Int) ≤ 0 ∧ (0 : Int) ≤ 1) then
(some ((IntKind.wrap .i64 ((IntKind.wrap .i64 (a1 + a3)) + (IntKind.wrap .i64 ((a2 + a4 + 0) / 18446744073709551616)))), ((a2 + a4 + 0) % 18446744073709551616)))
else
none)
noncomputable def sg229 : Sg := ⟨⟨[.agg (ho 2 []), .agg (ho 2 [])], [], []⟩, [.int .i64, .int .u64, .int .i64, .int .u64], ⟨[.agg (ho 2 [])], [], []⟩, [.int .i64, .int .u64]⟩
noncomputable def E229 : Fun2 := eOf sg229 I.WideAdd
theorem ev229 (a : Args sg229.ks) : evS Tryz.prog G229 loopNil (0, 0) [] Tryz.f229 c229 (kOf sg229) (sg229.sk.fl (encP sg229.ks a)) = unc sg229.ks I.WideAdd a := by kernel_rfl
theorem good229 : Vm.Good Tryz.prog 229 E229 := good_gen (G := G229) (L := loopNil) (c := c229) (rn := []) (N := (0, 0)) envNil_good (no_loops (c := c229) (by kernel_rfl)) Tryz.func229 (by kernel_rfl) (by kernel_rfl) (fun _ => by kernel_rfl) ev229
noncomputable def G280 : Env := (envCons 229 [] E229 envNil)
noncomputable def c280 : Code := bodyOf Tryz.f280
noncomputable def I.WideNeg (a1 a2 : Int) : Option (Int × Int) :=
(let v3 : Int := (Go.bits .xor .i64 (if IntKind.signed .i64 then -1 else IntKind.max .i64) a1)
(let v4 : Int := (Go.bits .xor .u64 (if IntKind.signed .u64 then -1 else IntKind.max .u64) a2)
(Option.bind (I.WideAdd v3 v4 0 1) fun r5 =>
(some (r5.1, r5.2)))))
noncomputable def sg280 : Sg := ⟨⟨[.agg (ho 2 [])], [], []⟩, [.int .i64, .int .u64], ⟨[.agg (ho 2 [])], [], []⟩, [.int .i64, .int .u64]⟩
noncomputable def E280 : Fun2 := eOf sg280 I.WideNeg
theorem ev280 (a : Args sg280.ks) : evS Tryz.prog G280 loopNil (0, 0) [] Tryz.f280 c280 (kOf sg280) (sg280.sk.fl (encP sg280.ks a)) = unc sg280.ks I.WideNeg a := by kernel_rfl
theorem good280 : Vm.Good Tryz.prog 280 E280 := good_gen (G := G280) (L := loopNil) (c := c280) (rn := []) (N := (0, 0)) (envCons_good good229 envNil_good) (no_loops (c := c280) (by kernel_rfl)) Tryz.func280 (by kernel_rfl) (by kernel_rfl) (fun _ => by kernel_rfl) ev280
noncomputable def G328 : Env := envNil
noncomputable def c328 : Code := bodyOf Tryz.f328
noncomputable def G.bits.Mul64 (a1 a2 : Int) : Option (Int × Int) :=
(let v3 : Int := (Go.bits .and .u64 a1 4294967295)
(bif decide ((0 : Int) ≤ 32) then
(let v4 : Int := (Int.fdiv a1 (2 ^ min (Int.toNat 32) (IntKind.bits .u64)))
(let v5 : Int := (Go.bits .and .u64 a2 4294967295)
(bif decide ((0 : Int) ≤ 32) then
(let v6 : Int := (Int.fdiv a2 (2 ^ min (Int.toNat 32) (IntKind.bits .u64)))
(bif decide ((0 : Int) ≤ 32) then
(let v10 : Int := (IntKind.wrap .u64 ((IntKind.wrap .u64 (v4 * v5)) + (Int.fdiv (IntKind.wrap .u64 (v3 * v5)) (2 ^ min (Int.toNat 32) (IntKind.bits .u64)))))
(bif decide ((0 : Int) ≤ 32) then
(bif decide ((0 : Int) ≤ 32) then
(some ((IntKind.wrap .u64 ((IntKind.wrap .u64 ((IntKind.wrap .u64 (v4 * v6)) + (Int.fdiv v10 (2 ^ min (Int.toNat 32) (IntKind.bits .u64))))) + (Int.fdiv (IntKind.wrap .u64 ((Go.bits .and .u64 v10 4294967295) + (IntKind.wrap .u64 (v3 * v6)))) (2 ^ min (Int.toNat 32) (IntKind.bits .u64))))), (IntKind.wrap .u64 (a1 * a2))))
else
none)
else
none))
else
none))
else
none)))
else
none))
noncomputable def sg328 : Sg := ⟨⟨[hh, hh], [], []⟩, [.int .u64, .int .u64], ⟨[hh, hh], [], []⟩, [.int .u64, .int .u64]⟩
noncomputable def E328 : Fun2 := eOf sg328 G.bits.Mul64
theorem ev328 (a : Args sg328.ks) : evS Tryz.prog G328 loopNil (0, 0) [] Tryz.f328 c328 (kOf sg328) (sg328.sk.fl (encP sg328.ks a)) = unc sg328.ks G.bits.Mul64 a := by kernel_rfl
theorem good328 : Vm.Good Tryz.prog 328 E328 := good_gen (G := G328) (L := loopNil) (c := c328) (rn := []) (N := (0, 0)) envNil_good (no_loops (c := c328) (by kernel_rfl)) Tryz.func328 (by kernel_rfl) (by kernel_rfl) (fun _ => by kernel_rfl) ev328
noncomputable def G282 : Env := (envCons 328 [] E328 (envCons 280 [] E280 envNil))
noncomputable def c282 : Code := bodyOf Tryz.f282
noncomputable def I.wideTimes (a1 a2 : Int) : Option (Int × Int) :=
(let v3 : Int := (IntKind.wrap .u64 a1)
(bif (decide (a1 < 0)) then
(Option.bind (G.bits.Mul64 (IntKind.wrap .u64 (0 - v3)) (IntKind.wrap .u64 a2)) fun r7 =>
(let v8 : Int := (IntKind.wrap .i64 r7.1)
(bif (decide (a1 < 0)) then
(Option.bind (I.WideNeg v8 r7.2) fun r10 =>
(some (r10.1, r10.2)))
else
(some (v8, r7.2)))))
else
(Option.bind (G.bits.Mul64 v3 (IntKind.wrap .u64 a2)) fun r12 =>
(let v13 : Int := (IntKind.wrap .i64 r12.1)
(bif (decide (a1 < 0)) then
(Option.bind (I.WideNeg v13 r12.2) fun r15 =>
(some (r15.1, r15.2)))
else
(some (v13, r12.2)))))))
noncomputable def sg282 : Sg := ⟨⟨[hh, hh], [], []⟩, (ki 2 []), ⟨[.agg (ho 2 [])], [], []⟩, [.int .i64, .int .u64]⟩
noncomputable def E282 : Fun2 := eOf sg282 I.wideTimes
theorem ev282 (a : Args sg282.ks) : evS Tryz.prog G282 loopNil (0, 0) [] Tryz.f282 c282 (kOf sg282) (sg282.sk.fl (encP sg282.ks a)) = unc sg282.ks I.wideTimes a := by kernel_rfl
theorem good282 : Vm.Good Tryz.prog 282 E282 := good_gen (G := G282) (L := loopNil) (c := c282) (rn := []) (N := (0, 0)) (envCons_good good328 (envCons_good good280 envNil_good)) (no_loops (c := c282) (by kernel_rfl)) Tryz.func282 (by kernel_rfl) (by kernel_rfl) (fun _ => by kernel_rfl) ev282
noncomputable def G283 : Env := envNil
noncomputable def c283 : Code := bodyOf Tryz.f283
noncomputable def G.cmp.isNaN_int (a1 : Int) : Option Bool :=
(some (a1 != a1))
noncomputable def sg283 : Sg := ⟨⟨[hh], [], []⟩, [.int .i64], ⟨[hh], [], []⟩, [.bool]⟩
noncomputable def E283 : Fun2 := eOf sg283 G.cmp.isNaN_int
theorem ev283 (a : Args sg283.ks) : evS Tryz.prog G283 loopNil (0, 0) [] Tryz.f283 c283 (kOf sg283) (sg283.sk.fl (encP sg283.ks a)) = unc sg283.ks G.cmp.isNaN_int a := by kernel_rfl
theorem good283 : Vm.Good Tryz.prog 283 E283 := good_gen (G := G283) (L := loopNil) (c := c283) (rn := []) (N := (0, 0)) envNil_good (no_loops (c := c283) (by kernel_rfl)) Tryz.func283 (by kernel_rfl) (by kernel_rfl) (fun _ => by kernel_rfl) ev283
noncomputable def G222 : Env := (envCons 283 [] E283 envNil)
noncomputable def c222 : Code := bodyOf Tryz.f222
noncomputable def G.cmp.Compare_int (a1 a2 : Int) : Option Int :=
(Option.bind (G.cmp.isNaN_int a1) fun r3 =>
(Option.bind (G.cmp.isNaN_int a2) fun r4 =>
(bif r3 then
(bif r4 then
(some 0)
else
(some (-1)))
else
(bif r4 then
(some 1)
else
(bif (decide (a1 < a2)) then
(some (-1))
else
(bif (decide (a2 < a1)) then
(some 1)
else
(some 0)))))))
noncomputable def sg222 : Sg := ⟨⟨[hh, hh], [], []⟩, (ki 2 []), ⟨[hh], [], []⟩, [.int .i64]⟩
noncomputable def E222 : Fun2 := eOf sg222 G.cmp.Compare_int
theorem ev222 (a : Args sg222.ks) : evS Tryz.prog G222 loopNil (0, 0) [] Tryz.f222 c222 (kOf sg222) (sg222.sk.fl (encP sg222.ks a)) = unc sg222.ks G.cmp.Compare_int a := by kernel_rfl
theorem good222 : Vm.Good Tryz.prog 222 E222 := good_gen (G := G222) (L := loopNil) (c := c222) (rn := []) (N := (0, 0)) (envCons_good good283 envNil_good) (no_loops (c := c222) (by kernel_rfl)) Tryz.func222 (by kernel_rfl) (by kernel_rfl) (fun _ => by kernel_rfl) ev222
noncomputable def G354 : Env := envNil
noncomputable def c354 : Code := bodyOf Tryz.f354
noncomputable def G.cmp.isNaN_uint64 (a1 : Int) : Option Bool :=
(some (a1 != a1))
noncomputable def sg354 : Sg := ⟨⟨[hh], [], []⟩, [.int .u64], ⟨[hh], [], []⟩, [.bool]⟩
noncomputable def E354 : Fun2 := eOf sg354 G.cmp.isNaN_uint64
theorem ev354 (a : Args sg354.ks) : evS Tryz.prog G354 loopNil (0, 0) [] Tryz.f354 c354 (kOf sg354) (sg354.sk.fl (encP sg354.ks a)) = unc sg354.ks G.cmp.isNaN_uint64 a := by kernel_rfl
theorem good354 : Vm.Good Tryz.prog 354 E354 := good_gen (G := G354) (L := loopNil) (c := c354) (rn := []) (N := (0, 0)) envNil_good (no_loops (c := c354) (by kernel_rfl)) Tryz.func354 (by kernel_rfl) (by kernel_rfl) (fun _ => by kernel_rfl) ev354
noncomputable def G327 : Env := (envCons 354 [] E354 envNil)
noncomputable def c327 : Code := bodyOf Tryz.f327
noncomputable def G.cmp.Compare_uint64 (a1 a2 : Int) : Option Int :=
(Option.bind (G.cmp.isNaN_uint64 a1) fun r3 =>
(Option.bind (G.cmp.isNaN_uint64 a2) fun r4 =>
(bif r3 then
(bif r4 then
(some 0)
else
(some (-1)))
else
(bif r4 then
(some 1)
else
(bif (decide (a1 < a2)) then
(some (-1))
else
(bif (decide (a2 < a1)) then
(some 1)
else
(some 0)))))))
noncomputable def sg327 : Sg := ⟨⟨[hh, hh], [], []⟩, [.int .u64, .int .u64], ⟨[hh], [], []⟩, [.int .i64]⟩
noncomputable def E327 : Fun2 := eOf sg327 G.cmp.Compare_uint64
theorem ev327 (a : Args sg327.ks) : evS Tryz.prog G327 loopNil (0, 0) [] Tryz.f327 c327 (kOf sg327) (sg327.sk.fl (encP sg327.ks a)) = unc sg327.ks G.cmp.Compare_uint64 a := by kernel_rfl
theorem good327 : Vm.Good Tryz.prog 327 E327 := good_gen (G := G327) (L := loopNil) (c := c327) (rn := []) (N := (0, 0)) (envCons_good good354 envNil_good) (no_loops (c := c327) (by kernel_rfl)) Tryz.func327 (by kernel_rfl) (by kernel_rfl) (fun _ => by kernel_rfl) ev327
noncomputable def G220 : Env := envNil
noncomputable def c220 : Code := bodyOf Tryz.f220
noncomputable def c220_3 : Code := (loopsOf c220).getD 0 .skip
noncomputable def G.cmp.Or_int_l0 : Nat → (Int → Int → Option Int) → (Int → Option Int) → Int → Int → Int → List Int → Option Int
  | 0, _, _, _, _, _, _ => none
  | m + 1, e3_0, e3_1, a3, a4, a5, a6 =>
    (bif (decide (a5 < a4)) then
    (bif decide ((0 : Int) ≤ a5 ∧ a5 < (a6.length : Int)) then
    (let v8 : Int := (nthI a6 a5 (0 : Int))
    (bif (v8 != a3) then
    (e3_0 v8 a3)
    else
    (G.cmp.Or_int_l0 m e3_0 e3_1 a3 a4 (IntKind.wrap .i64 (a5 + 1)) a6)))
    else
    none)
    else
    (e3_1 a3))
noncomputable def G.cmp.Or_int (a1 : List Int) : Option Int :=
(G.cmp.Or_int_l0 fu (fun y10 y11 =>
(some y10)) (fun y12 =>
(some y12)) 0 (a1.length : Int) 0 a1)
noncomputable def H220_3 : LoopH := ⟨⟨(hu 3 (hh :: (hu 2 ((.one (.sl 0)) :: hh :: hh :: (hu 9 []))))), [], [(3, (.int .i64), .ro)]⟩, ([0, 1, 2, 4, 5] ++ rg 9 9), [], ([0, 1] ++ rg 4 14), [], [], [], []⟩
noncomputable def k220_3 : List PK := (ki 3 [.row (.int .i64)])
noncomputable def W220_3 (m : Nat) (k : Kont Int) : Cur k220_3 (Option Int) := G.cmp.Or_int_l0 m (exF k .ret ⟨(hu 2 (hh :: hh :: (hu 14 []))), [], []⟩ (ki 2 [])) (exF k (.exit 0) ⟨(hu 3 (hh :: (hu 14 []))), [], []⟩ [.int .i64])
noncomputable def E220_3 (m : Nat) : List Prm → Kont Int → Option Int := eL k220_3 (W220_3 m)
theorem ev220_3 (m : Nat) (k : Kont Int) (a : Args k220_3) : evL Tryz.prog G220 loopNil c220_3 (turn Tryz.prog (0, 0) H220_3 (E220_3 m) k) (H220_3.sk.fl (encP k220_3 a)) = unc k220_3 (W220_3 (m + 1) k) a := by kernel_rfl
theorem ok220_3 (m : Nat) : LoopOk Tryz.prog (0, 0) c220_3 (enter Tryz.prog (0, 0) H220_3 (E220_3 m)) := loop_gen (Fl := W220_3) (G := G220) (L := loopNil) envNil_good (no_loops (c := c220_3) (by kernel_rfl)) (fun _ _ => by kernel_rfl) ev220_3 m
noncomputable def L220 : LEnv Int := (loopCons 3 (enter Tryz.prog (0, 0) H220_3 (E220_3 fu)) loopNil)
theorem lq220 : loopsOf c220 = [c220_3] := by kernel_rfl
theorem fr220_3 : firstReg c220_3 = some 3 := by kernel_rfl
theorem le220_3 : L220 3 = (enter Tryz.prog (0, 0) H220_3 (E220_3 fu)) := by kernel_rfl
theorem lm220 : ∀ x ∈ [c220_3], ∀ id, firstReg x = some id → LoopOk Tryz.prog (0, 0) x (L220 id) := (loops_cons fr220_3 le220_3 (ok220_3 fu) loops_nil)
theorem lp220 : ∀ x ∈ loopsOf c220, ∀ id, firstReg x = some id → LoopOk Tryz.prog (0, 0) x (L220 id) := loops_eq lq220 lm220
noncomputable def sg220 : Sg := ⟨⟨[.one (.sl 0)], [], [(3, (.int .i64), .ro)]⟩, [.row (.int .i64)], ⟨[hh], [], []⟩, [.int .i64]⟩
noncomputable def E220 : Fun2 := eOf sg220 G.cmp.Or_int
theorem ev220 (a : Args sg220.ks) : evS Tryz.prog G220 L220 (0, 0) [] Tryz.f220 c220 (kOf sg220) (sg220.sk.fl (encP sg220.ks a)) = unc sg220.ks G.cmp.Or_int a := by kernel_rfl
theorem good220 : Vm.Good Tryz.prog 220 E220 := good_gen (G := G220) (L := L220) (c := c220) (rn := []) (N := (0, 0)) envNil_good lp220 Tryz.func220 (by kernel_rfl) (by kernel_rfl) (fun _ => by kernel_rfl) ev220
noncomputable def G281 : Env := (envCons 222 [] E222 (envCons 327 [] E327 (envCons 220 [] E220 envNil)))
noncomputable def c281 : Code := bodyOf Tryz.f281
noncomputable def I.WideCmp (a1 a2 a3 a4 : Int) : Option Int :=
(Option.bind (G.cmp.Compare_int a1 a3) fun r5 =>
(Option.bind (G.cmp.Compare_uint64 a2 a4) fun r6 =>
(Option.bind (G.cmp.Or_int [r5, r6]) fun r7 =>
(some r7))))
noncomputable def sg281 : Sg := ⟨⟨[.agg (ho 2 []), .agg (ho 2 [])], [], []⟩, [.int .i64, .int .u64, .int .i64, .int .u64], ⟨[hh], [], []⟩, [.int .i64]⟩
noncomputable def E281 : Fun2 := eOf sg281 I.WideCmp
theorem ev281 (a : Args sg281.ks) : evS Tryz.prog G281 loopNil (0, 0) [] Tryz.f281 c281 (kOf sg281) (sg281.sk.fl (encP sg281.ks a)) = unc sg281.ks I.WideCmp a := by kernel_rfl
theorem good281 : Vm.Good Tryz.prog 281 E281 := good_gen (G := G281) (L := loopNil) (c := c281) (rn := []) (N := (0, 0)) (envCons_good good222 (envCons_good good327 (envCons_good good220 envNil_good))) (no_loops (c := c281) (by kernel_rfl)) Tryz.func281 (by kernel_rfl) (by kernel_rfl) (fun _ => by kernel_rfl) ev281
noncomputable def G219 : Env := (envCons 134 [] E134 (envCons 230 [] E230 (envCons 280 [] E280 (envCons 229 [] E229 (envCons 282 [] E282 (envCons 281 [] E281 envNil))))))
noncomputable def c219 : Code := bodyOf Tryz.f219
noncomputable def c219_7 : Code := (loopsOf c219).getD 0 .skip
noncomputable def I.isAgg_l0 : Nat → (Bool → Int → Int → Int → Int → Int → Int → Int → List Int → Option Bool) → (Int → Int → Int → Int → Int → Int → Int → List Int → Option Bool) → Int → Int → Int → Int → Int → Int → Int → Int → Int → List Int → Option Bool
  | 0, _, _, _, _, _, _, _, _, _, _, _, _ => none
  | m + 1, e7_0, e7_1, a14, a15, a16, a17, a18, a19, a20, a21, a22, a23 =>
    (bif (decide (a15 < a14)) then
    (bif decide ((0 : Int) ≤ a15 ∧ a15 < (a23.length : Int)) then
    (let v25 : Int := (nthI a23 a15 (0 : Int))
    (bif (decide (0 < a15)) then
    (let v27 : Int := (IntKind.wrap .i64 (a15 - 1))
    (bif decide ((0 : Int) ≤ v27 ∧ v27 < (a23.length : Int)) then
    (bif (decide ((nthI a23 v27 (0 : Int)) < v25)) then
    (e7_0 false a16 a17 a18 a19 a20 a21 a22 a23)
    else
    (Option.bind (I.WideOf v25) fun r29 =>
    (Option.bind (I.WideNeg r29.1 r29.2) fun r30 =>
    (Option.bind (I.WideAdd a21 a22 r30.1 r30.2) fun r31 =>
    (I.isAgg_l0 m e7_0 e7_1 a14 (IntKind.wrap .i64 (a15 + 1)) a16 a17 a18 a19 a20 r31.1 r31.2 a23)))))
    else
    none))
    else
    (Option.bind (I.WideOf v25) fun r33 =>
    (Option.bind (I.WideNeg r33.1 r33.2) fun r34 =>
    (Option.bind (I.WideAdd a21 a22 r34.1 r34.2) fun r35 =>
    (I.isAgg_l0 m e7_0 e7_1 a14 (IntKind.wrap .i64 (a15 + 1)) a16 a17 a18 a19 a20 r35.1 r35.2 a23))))))
    else
    none)
    else
    (e7_1 a16 a17 a18 a19 a20 a21 a22 a23))
noncomputable def I.isAgg (a1 a2 a3 a4 a5 : Int) (a6 : List Int) : Option Bool :=
(bif (a1 == 0) then
(bif ((a2 == 0) && ((a3 == 0) && true)) then
(bif (a4 == 0) then
(bif (a5 == 0) then
(some ((a6.length : Int) == 0))
else
(some false))
else
(some false))
else
(some false))
else
(Option.bind (I.in a1 1 1000000) fun r9 =>
(bif (!r9) then
(some false)
else
(bif ((a6.length : Int) != (if 4 < a1 then 4 else a1)) then
(some false)
else
(bif decide ((0 : Int) ≤ 0 ∧ 0 < (a6.length : Int)) then
(bif ((nthI a6 0 (0 : Int)) != a5) then
(some false)
else
(I.isAgg_l0 fu (fun y37 y38 y39 y40 y41 y42 y43 y44 y45 =>
(some y37)) (fun y46 y47 y48 y49 y50 y51 y52 y53 =>
(let v55 : Int := (IntKind.wrap .i64 ((y53.length : Int) - 1))
(bif decide ((0 : Int) ≤ v55 ∧ v55 < (y53.length : Int)) then
(let v56 : Int := (nthI y53 v55 (0 : Int))
(bif (decide (y46 ≤ 4)) then
(bif (y49 == v56) then
(some ((y51 == 0) && ((y52 == 0) && true)))
else
(some false))
else
(let v60 : Int := (IntKind.wrap .i64 ((IntKind.wrap .i64 (y46 - 4)) - 1))
(Option.bind (I.WideOf y49) fun r61 =>
(Option.bind (I.WideNeg r61.1 r61.2) fun r62 =>
(Option.bind (I.WideAdd y51 y52 r62.1 r62.2) fun r63 =>
(bif (decide (y49 ≤ v56)) then
(Option.bind (I.wideTimes y49 v60) fun r65 =>
(Option.bind (I.WideCmp r65.1 r65.2 r63.1 r63.2) fun r66 =>
(bif (decide (r66 ≤ 0)) then
(Option.bind (I.wideTimes v56 v60) fun r68 =>
(Option.bind (I.WideCmp r63.1 r63.2 r68.1 r68.2) fun r69 =>
(some (decide (r69 ≤ 0)))))
else
(some false))))
else
(some false))))))))
else
none))) (a6.length : Int) 0 a1 a2 a3 a4 a5 a2 a3 a6))
else
none)))))
noncomputable def H219_7 : LoopH := ⟨⟨((.one (.unk)) :: (.one (.ptr 0 0)) :: (.one (.unk)) :: (.one (.ptr 1 0)) :: (hu 52 ((.one (.sl 0)) :: hh :: hh :: (hu 73 [])))), [(110, (ho 5 [.sl 0])), (108, (ho 2 []))], [(3, (.int .i64), .ro)]⟩, ([0, 2] ++ rg 4 52 ++ rg 59 73), [], ([0] ++ rg 4 128), [], [], [], []⟩
noncomputable def k219_7 : List PK := (ki 4 ((.int .u64) :: (ki 3 [.int .u64, .row (.int .i64)])))
noncomputable def W219_7 (m : Nat) (k : Kont Bool) : Cur k219_7 (Option Bool) := I.isAgg_l0 m (exF k .ret ⟨((.one (.unk)) :: (.one (.ptr 0 0)) :: hh :: (.one (.ptr 1 0)) :: (hu 128 [])), [(110, (ho 5 [.sl 0])), (108, (ho 2 []))], [(3, (.int .i64), .ro)]⟩ ((.bool) :: (ki 2 ((.int .u64) :: (ki 3 [.int .u64, .row (.int .i64)]))))) (exF k (.exit 0) ⟨((.one (.unk)) :: (.one (.ptr 0 0)) :: (.one (.unk)) :: (.one (.ptr 1 0)) :: (hu 128 [])), [(110, (ho 5 [.sl 0])), (108, (ho 2 []))], [(3, (.int .i64), .ro)]⟩ (ki 2 ((.int .u64) :: (ki 3 [.int .u64, .row (.int .i64)]))))
noncomputable def E219_7 (m : Nat) : List Prm → Kont Bool → Option Bool := eL k219_7 (W219_7 m)
theorem ev219_7 (m : Nat) (k : Kont Bool) (a : Args k219_7) : evL Tryz.prog G219 loopNil c219_7 (turn Tryz.prog (0, 0) H219_7 (E219_7 m) k) (H219_7.sk.fl (encP k219_7 a)) = unc k219_7 (W219_7 (m + 1) k) a := by kernel_rfl
theorem ok219_7 (m : Nat) : LoopOk Tryz.prog (0, 0) c219_7 (enter Tryz.prog (0, 0) H219_7 (E219_7 m)) := loop_gen (Fl := W219_7) (G := G219) (L := loopNil) (envCons_good good134 (envCons_good good230 (envCons_good good280 (envCons_good good229 (envCons_good good282 (envCons_good good281 envNil_good)))))) (no_loops (c := c219_7) (by kernel_rfl)) (fun _ _ => by kernel_rfl) ev219_7 m
noncomputable def L219 : LEnv Bool := (loopCons 7 (enter Tryz.prog (0, 0) H219_7 (E219_7 fu)) loopNil)
theorem lq219 : loopsOf c219 = [c219_7] := by kernel_rfl
theorem fr219_7 : firstReg c219_7 = some 7 := by kernel_rfl
theorem le219_7 : L219 7 = (enter Tryz.prog (0, 0) H219_7 (E219_7 fu)) := by kernel_rfl
theorem lm219 : ∀ x ∈ [c219_7], ∀ id, firstReg x = some id → LoopOk Tryz.prog (0, 0) x (L219 id) := (loops_cons fr219_7 le219_7 (ok219_7 fu) loops_nil)
theorem lp219 : ∀ x ∈ loopsOf c219, ∀ id, firstReg x = some id → LoopOk Tryz.prog (0, 0) x (L219 id) := loops_eq lq219 lm219
noncomputable def sg219 : Sg := ⟨⟨[.agg (ho 5 [.sl 0])], [], [(3, (.int .i64), .ro)]⟩, (ki 2 ((.int .u64) :: (ki 2 [.row (.int .i64)]))), ⟨[hh], [], []⟩, [.bool]⟩
noncomputable def E219 : Fun2 := eOf sg219 I.isAgg
theorem ev219 (a : Args sg219.ks) : evS Tryz.prog G219 L219 (0, 0) [] Tryz.f219 c219 (kOf sg219) (sg219.sk.fl (encP sg219.ks a)) = unc sg219.ks I.isAgg a := by kernel_rfl
theorem good219 : Vm.Good Tryz.prog 219 E219 := good_gen (G := G219) (L := L219) (c := c219) (rn := []) (N := (0, 0)) (envCons_good good134 (envCons_good good230 (envCons_good good280 (envCons_good good229 (envCons_good good282 (envCons_good good281 envNil_good)))))) lp219 Tryz.func219 (by kernel_rfl) (by kernel_rfl) (fun _ => by kernel_rfl) ev219
noncomputable def G132 : Env := (envCons 56 [] E56 (envCons 153 [] E153 (envCons 218 [] E218 (envCons 219 [] E219 envNil))))
noncomputable def c132 : Code := bodyOf Tryz.f132
noncomputable def I.isCell (a1 a2 a3 a4 a5 a6 a7 a8 a9 a10 : Int) (a11 : List Int) : Option Bool :=
(Option.bind (I.isCellPlace a1 a2 a5) fun r12 =>
(bif r12 then
(Option.bind (I.Cell_win a1 a2 a3 a4 a5 a6 a7 a8 a9 a10 a11) fun r13 =>
(Option.bind (I.isWin r13.1 r13.2) fun r14 =>
(bif r14 then
(Option.bind (I.isAgg a6 a7 a8 a9 a10 a11) fun r15 =>
(bif r15 then
(some (decide (0 < a6)))
else
(some false)))
else
(some false))))
else
(some false)))
noncomputable def sg132 : Sg := ⟨⟨[.agg (ho 10 [.sl 0])], [], [(3, (.int .i64), .ro)]⟩, (ki 7 ((.int .u64) :: (ki 2 [.row (.int .i64)]))), ⟨[hh], [], []⟩, [.bool]⟩
noncomputable def E132 : Fun2 := eOf sg132 I.isCell
theorem ev132 (a : Args sg132.ks) : evS Tryz.prog G132 loopNil (0, 0) [] Tryz.f132 c132 (kOf sg132) (sg132.sk.fl (encP sg132.ks a)) = unc sg132.ks I.isCell a := by kernel_rfl
theorem good132 : Vm.Good Tryz.prog 132 E132 := good_gen (G := G132) (L := loopNil) (c := c132) (rn := []) (N := (0, 0)) (envCons_good good56 (envCons_good good153 (envCons_good good218 (envCons_good good219 envNil_good)))) (no_loops (c := c132) (by kernel_rfl)) Tryz.func132 (by kernel_rfl) (by kernel_rfl) (fun _ => by kernel_rfl) ev132
noncomputable def G221 : Env := (envCons 222 [] E222 (envCons 220 [] E220 envNil))
noncomputable def c221 : Code := bodyOf Tryz.f221
noncomputable def I.compareSeats (a1 a2 a3 a4 a5 a6 a7 a8 a9 a10 a11 a12 a13 a14 a15 a16 a17 a18 a19 a20 : Int) (a21 a22 : List Int) : Option Int :=
(Option.bind (G.cmp.Compare_int a1 a11) fun r23 =>
(Option.bind (G.cmp.Compare_int a2 a12) fun r24 =>
(Option.bind (G.cmp.Compare_int a3 a13) fun r25 =>
(Option.bind (G.cmp.Compare_int a4 a14) fun r26 =>
(Option.bind (G.cmp.Or_int [r23, r24, r25, r26]) fun r28 =>
(some r28))))))
noncomputable def sg221 : Sg := ⟨⟨[.agg (ho 10 [.sl 0]), .agg (ho 10 [.sl 1])], [], [(3, (.int .i64), .ro), (3, (.int .i64), .ro)]⟩, (ki 7 ((.int .u64) :: (ki 9 ((.int .u64) :: (ki 2 [.row (.int .i64), .row (.int .i64)]))))), ⟨[hh], [], []⟩, [.int .i64]⟩
noncomputable def E221 : Fun2 := eOf sg221 I.compareSeats
theorem ev221 (a : Args sg221.ks) : evS Tryz.prog G221 loopNil (0, 0) [] Tryz.f221 c221 (kOf sg221) (sg221.sk.fl (encP sg221.ks a)) = unc sg221.ks I.compareSeats a := by kernel_rfl
theorem good221 : Vm.Good Tryz.prog 221 E221 := good_gen (G := G221) (L := loopNil) (c := c221) (rn := []) (N := (0, 0)) (envCons_good good222 (envCons_good good220 envNil_good)) (no_loops (c := c221) (by kernel_rfl)) Tryz.func221 (by kernel_rfl) (by kernel_rfl) (fun _ => by kernel_rfl) ev221
noncomputable def G133 : Env := (envCons 221 [] E221 (envCons 222 [] E222 (envCons 220 [] E220 envNil)))
noncomputable def c133 : Code := bodyOf Tryz.f133
noncomputable def I.compareCells (a1 a2 a3 a4 a5 a6 a7 a8 a9 a10 a11 a12 a13 a14 a15 a16 a17 a18 a19 a20 : Int) (a21 a22 : List Int) : Option Int :=
(Option.bind (I.compareSeats a1 a2 a3 a4 a5 a6 a7 a8 a9 a10 a11 a12 a13 a14 a15 a16 a17 a18 a19 a20 a21 a22) fun r23 =>
(Option.bind (G.cmp.Compare_int a5 a15) fun r24 =>
(Option.bind (G.cmp.Or_int [r23, r24]) fun r25 =>
(some r25))))
noncomputable def sg133 : Sg := ⟨⟨[.agg (ho 10 [.sl 0]), .agg (ho 10 [.sl 1])], [], [(3, (.int .i64), .ro), (3, (.int .i64), .ro)]⟩, (ki 7 ((.int .u64) :: (ki 9 ((.int .u64) :: (ki 2 [.row (.int .i64), .row (.int .i64)]))))), ⟨[hh], [], []⟩, [.int .i64]⟩
noncomputable def E133 : Fun2 := eOf sg133 I.compareCells
theorem ev133 (a : Args sg133.ks) : evS Tryz.prog G133 loopNil (0, 0) [] Tryz.f133 c133 (kOf sg133) (sg133.sk.fl (encP sg133.ks a)) = unc sg133.ks I.compareCells a := by kernel_rfl
theorem good133 : Vm.Good Tryz.prog 133 E133 := good_gen (G := G133) (L := loopNil) (c := c133) (rn := []) (N := (0, 0)) (envCons_good good221 (envCons_good good222 (envCons_good good220 envNil_good))) (no_loops (c := c133) (by kernel_rfl)) Tryz.func133 (by kernel_rfl) (by kernel_rfl) (fun _ => by kernel_rfl) ev133
noncomputable def G54 : Env := (envCons 132 [] E132 (envCons 133 [] E133 envNil))
noncomputable def c54 : Code := bodyOf Tryz.f54
noncomputable def c54_2 : Code := (loopsOf c54).getD 0 .skip
noncomputable def I.areCells_l0 : Nat → (Bool → (List ty12) → Option Bool) → ((List ty12) → Option Bool) → Int → Int → (List ty12) → Option Bool
  | 0, _, _, _, _, _ => none
  | m + 1, e2_0, e2_1, a3, a4, a5 =>
    (bif (decide (a4 < a3)) then
    (bif decide ((0 : Int) ≤ a4 ∧ a4 < (a5.length : Int)) then
    (Option.bind (I.isCell ((nthI a5 a4 df1).1) ((nthI a5 a4 df1).2.1) ((nthI a5 a4 df1).2.2.1) ((nthI a5 a4 df1).2.2.2.1) ((nthI a5 a4 df1).2.2.2.2.1) ((nthI a5 a4 df1).2.2.2.2.2.1) ((nthI a5 a4 df1).2.2.2.2.2.2.1.1) ((nthI a5 a4 df1).2.2.2.2.2.2.1.2) ((nthI a5 a4 df1).2.2.2.2.2.2.2.1) ((nthI a5 a4 df1).2.2.2.2.2.2.2.2.1) ((nthI a5 a4 df1).2.2.2.2.2.2.2.2.2)) fun r7 =>
    (bif (!r7) then
    (e2_0 false a5)
    else
    (bif (decide (0 < a4)) then
    (let v9 : Int := (IntKind.wrap .i64 (a4 - 1))
    (bif decide ((0 : Int) ≤ v9 ∧ v9 < (a5.length : Int)) then
    (Option.bind (I.compareCells ((nthI a5 v9 df1).1) ((nthI a5 v9 df1).2.1) ((nthI a5 v9 df1).2.2.1) ((nthI a5 v9 df1).2.2.2.1) ((nthI a5 v9 df1).2.2.2.2.1) ((nthI a5 v9 df1).2.2.2.2.2.1) ((nthI a5 v9 df1).2.2.2.2.2.2.1.1) ((nthI a5 v9 df1).2.2.2.2.2.2.1.2) ((nthI a5 v9 df1).2.2.2.2.2.2.2.1) ((nthI a5 v9 df1).2.2.2.2.2.2.2.2.1) ((nthI a5 a4 df1).1) ((nthI a5 a4 df1).2.1) ((nthI a5 a4 df1).2.2.1) ((nthI a5 a4 df1).2.2.2.1) ((nthI a5 a4 df1).2.2.2.2.1) ((nthI a5 a4 df1).2.2.2.2.2.1) ((nthI a5 a4 df1).2.2.2.2.2.2.1.1) ((nthI a5 a4 df1).2.2.2.2.2.2.1.2) ((nthI a5 a4 df1).2.2.2.2.2.2.2.1) ((nthI a5 a4 df1).2.2.2.2.2.2.2.2.1) ((nthI a5 v9 df1).2.2.2.2.2.2.2.2.2) ((nthI a5 a4 df1).2.2.2.2.2.2.2.2.2)) fun r10 =>
    (bif (decide (0 ≤ r10)) then
    (e2_0 false a5)
    else
    (I.areCells_l0 m e2_0 e2_1 a3 (IntKind.wrap .i64 (a4 + 1)) a5)))
    else
    none))
    else
    (I.areCells_l0 m e2_0 e2_1 a3 (IntKind.wrap .i64 (a4 + 1)) a5))))
    else
    none)
    else
    (e2_1 a5))
noncomputable def I.areCells (a1 : List ty12) : Option Bool :=
(I.areCells_l0 fu (fun y14 y15 =>
(some y14)) (fun y16 =>
(some (decide ((y16.length : Int) ≤ 10000)))) (a1.length : Int) 0 a1)
noncomputable def H54_2 : LoopH := ⟨⟨((.one (.sl 0)) :: (hu 4 ((.one (.sl 0)) :: hh :: hh :: (hu 25 [])))), [], [(113, sh1, .ro)]⟩, (rg 1 4 ++ rg 8 25), [], ([1] ++ rg 3 30), [], [], [], []⟩
noncomputable def k54_2 : List PK := (ki 2 [.row sh1])
noncomputable def W54_2 (m : Nat) (k : Kont Bool) : Cur k54_2 (Option Bool) := I.areCells_l0 m (exF k .ret ⟨((.one (.sl 0)) :: (.one (.unk)) :: hh :: (hu 30 [])), [], [(113, sh1, .ro)]⟩ [.bool, .row sh1]) (exF k (.exit 0) ⟨((.one (.sl 0)) :: (hu 32 [])), [], [(113, sh1, .ro)]⟩ [.row sh1])
noncomputable def E54_2 (m : Nat) : List Prm → Kont Bool → Option Bool := eL k54_2 (W54_2 m)
theorem ev54_2 (m : Nat) (k : Kont Bool) (a : Args k54_2) : evL Tryz.prog G54 loopNil c54_2 (turn Tryz.prog (0, 0) H54_2 (E54_2 m) k) (H54_2.sk.fl (encP k54_2 a)) = unc k54_2 (W54_2 (m + 1) k) a := by kernel_rfl
theorem ok54_2 (m : Nat) : LoopOk Tryz.prog (0, 0) c54_2 (enter Tryz.prog (0, 0) H54_2 (E54_2 m)) := loop_gen (Fl := W54_2) (G := G54) (L := loopNil) (envCons_good good132 (envCons_good good133 envNil_good)) (no_loops (c := c54_2) (by kernel_rfl)) (fun _ _ => by kernel_rfl) ev54_2 m
noncomputable def L54 : LEnv Bool := (loopCons 2 (enter Tryz.prog (0, 0) H54_2 (E54_2 fu)) loopNil)
theorem lq54 : loopsOf c54 = [c54_2] := by kernel_rfl
theorem fr54_2 : firstReg c54_2 = some 2 := by kernel_rfl
theorem le54_2 : L54 2 = (enter Tryz.prog (0, 0) H54_2 (E54_2 fu)) := by kernel_rfl
theorem lm54 : ∀ x ∈ [c54_2], ∀ id, firstReg x = some id → LoopOk Tryz.prog (0, 0) x (L54 id) := (loops_cons fr54_2 le54_2 (ok54_2 fu) loops_nil)
theorem lp54 : ∀ x ∈ loopsOf c54, ∀ id, firstReg x = some id → LoopOk Tryz.prog (0, 0) x (L54 id) := loops_eq lq54 lm54
noncomputable def sg54 : Sg := ⟨⟨[.one (.sl 0)], [], [(113, sh1, .ro)]⟩, [.row sh1], ⟨[hh], [], []⟩, [.bool]⟩
noncomputable def E54 : Fun2 := eOf sg54 I.areCells
theorem ev54 (a : Args sg54.ks) : evS Tryz.prog G54 L54 (0, 0) [] Tryz.f54 c54 (kOf sg54) (sg54.sk.fl (encP sg54.ks a)) = unc sg54.ks I.areCells a := by kernel_rfl
theorem good54 : Vm.Good Tryz.prog 54 E54 := good_gen (G := G54) (L := L54) (c := c54) (rn := []) (N := (0, 0)) (envCons_good good132 (envCons_good good133 envNil_good)) lp54 Tryz.func54 (by kernel_rfl) (by kernel_rfl) (fun _ => by kernel_rfl) ev54
noncomputable def G55 : Env := (envCons 134 [] E134 envNil)
noncomputable def c55 : Code := bodyOf Tryz.f55
noncomputable def I.isWinDef (a1 a2 a3 : Int) : Option Bool :=
(Option.bind (I.in a2 1 100) fun r4 =>
(bif (!r4) then
(some false)
else
(bif (a1 == 1) then
(some (a3 == 0))
else
(bif (a1 == 3) then
(some (a3 == 0))
else
(bif (a1 == 2) then
(Option.bind (I.in a3 1 a2) fun r5 =>
(bif r5 then
(some (decide (a2 ≤ (IntKind.wrap .i64 (8 * a3)))))
else
(some false)))
else
(some false))))))
noncomputable def sg55 : Sg := ⟨⟨[.agg (ho 3 [])], [], []⟩, (ki 3 []), ⟨[hh], [], []⟩, [.bool]⟩
noncomputable def E55 : Fun2 := eOf sg55 I.isWinDef
theorem ev55 (a : Args sg55.ks) : evS Tryz.prog G55 loopNil (0, 0) [] Tryz.f55 c55 (kOf sg55) (sg55.sk.fl (encP sg55.ks a)) = unc sg55.ks I.isWinDef a := by kernel_rfl
theorem good55 : Vm.Good Tryz.prog 55 E55 := good_gen (G := G55) (L := loopNil) (c := c55) (rn := []) (N := (0, 0)) (envCons_good good134 envNil_good) (no_loops (c := c55) (by kernel_rfl)) Tryz.func55 (by kernel_rfl) (by kernel_rfl) (fun _ => by kernel_rfl) ev55
noncomputable def G57 : Env := (envCons 134 [] E134 envNil)
noncomputable def c57 : Code := bodyOf Tryz.f57
noncomputable def I.isTime (a1 : Int) : Option Bool :=
(Option.bind (I.in a1 0 1000) fun r2 =>
(some r2))
noncomputable def sg57 : Sg := ⟨⟨[hh], [], []⟩, [.int .i64], ⟨[hh], [], []⟩, [.bool]⟩
noncomputable def E57 : Fun2 := eOf sg57 I.isTime
theorem ev57 (a : Args sg57.ks) : evS Tryz.prog G57 loopNil (0, 0) [] Tryz.f57 c57 (kOf sg57) (sg57.sk.fl (encP sg57.ks a)) = unc sg57.ks I.isTime a := by kernel_rfl
theorem good57 : Vm.Good Tryz.prog 57 E57 := good_gen (G := G57) (L := loopNil) (c := c57) (rn := []) (N := (0, 0)) (envCons_good good134 envNil_good) (no_loops (c := c57) (by kernel_rfl)) Tryz.func57 (by kernel_rfl) (by kernel_rfl) (fun _ => by kernel_rfl) ev57
noncomputable def G138 : Env := envNil
noncomputable def c138 : Code := bodyOf Tryz.f138
noncomputable def I.cellsAdd_1 (a1 a2 a3 a4 a5 a6 a7 a8 a9 a10 : Int) (a11 : List Int) : Option Bool :=
(some true)
noncomputable def sg138 : Sg := ⟨⟨[.agg (ho 10 [.sl 0])], [], [(3, (.int .i64), .ro)]⟩, (ki 7 ((.int .u64) :: (ki 2 [.row (.int .i64)]))), ⟨[hh], [], []⟩, [.bool]⟩
noncomputable def E138 : Fun2 := eOf sg138 I.cellsAdd_1
theorem ev138 (a : Args sg138.ks) : evS Tryz.prog G138 loopNil (0, 0) [] Tryz.f138 c138 (kOf sg138) (sg138.sk.fl (encP sg138.ks a)) = unc sg138.ks I.cellsAdd_1 a := by kernel_rfl
theorem good138 : Vm.Good Tryz.prog 138 E138 := good_gen (G := G138) (L := loopNil) (c := c138) (rn := []) (N := (0, 0)) envNil_good (no_loops (c := c138) (by kernel_rfl)) Tryz.func138 (by kernel_rfl) (by kernel_rfl) (fun _ => by kernel_rfl) ev138
noncomputable def G236 : Env := envNil
noncomputable def c236 : Code := bodyOf Tryz.f236
noncomputable def G.slices.Clone_int (a1 : List Int) : Option (List Int) :=
(bif decide (a1.length = 0) then
(same (some [])
(bif decide ((([] : List (Int)).length + a1.length) * 8 ≤ 140737488355328) then
(some (([] : List (Int)) ++ a1))
else
none))
else
(bif decide ((([] : List (Int)).length + a1.length) * 8 ≤ 140737488355328) then
(some (([] : List (Int)) ++ a1))
else
none))
noncomputable def sg236 : Sg := ⟨⟨[.one (.sl 0)], [], [(3, (.int .i64), .ro)]⟩, [.row (.int .i64)], ⟨[.one (.sl 0)], [], [(3, (.int .i64), .own)]⟩, [.row (.int .i64)]⟩
noncomputable def E236 : Fun2 := eOf sg236 G.slices.Clone_int
theorem ev236 (a : Args sg236.ks) : evS Tryz.prog G236 loopNil (0, 0) [] Tryz.f236 c236 (kOf sg236) (sg236.sk.fl (encP sg236.ks a)) = unc sg236.ks G.slices.Clone_int a := by kernel_rfl
theorem good236 : Vm.Good Tryz.prog 236 E236 := good_gen (G := G236) (L := loopNil) (c := c236) (rn := []) (N := (0, 0)) envNil_good (no_loops (c := c236) (by kernel_rfl)) Tryz.func236 (by kernel_rfl) (by kernel_rfl) (fun _ => by kernel_rfl) ev236
noncomputable def G150 : Env := (envCons 236 [] E236 envNil)
noncomputable def c150 : Code := bodyOf Tryz.f150
noncomputable def I.Cell_copied (a1 a2 a3 a4 a5 a6 a7 a8 a9 a10 : Int) (a11 : List Int) : Option (Int × Int × Int × Int × Int × Int × Int × Int × Int × Int × List Int) :=
(Option.bind (G.slices.Clone_int a11) fun r12 =>
(some (a1, a2, a3, a4, a5, a6, a7, a8, a9, a10, r12)))
noncomputable def sg150 : Sg := ⟨⟨[.agg (ho 10 [.sl 0])], [], [(3, (.int .i64), .ro)]⟩, (ki 7 ((.int .u64) :: (ki 2 [.row (.int .i64)]))), ⟨[.agg (ho 10 [.sl 0])], [], [(3, (.int .i64), .own)]⟩, (ki 7 ((.int .u64) :: (ki 2 [.row (.int .i64)])))⟩
noncomputable def E150 : Fun2 := eOf sg150 I.Cell_copied
theorem ev150 (a : Args sg150.ks) : evS Tryz.prog G150 loopNil (0, 0) [] Tryz.f150 c150 (kOf sg150) (sg150.sk.fl (encP sg150.ks a)) = unc sg150.ks I.Cell_copied a := by kernel_rfl
theorem good150 : Vm.Good Tryz.prog 150 E150 := good_gen (G := G150) (L := loopNil) (c := c150) (rn := []) (N := (0, 0)) (envCons_good good236 envNil_good) (no_loops (c := c150) (by kernel_rfl)) Tryz.func150 (by kernel_rfl) (by kernel_rfl) (fun _ => by kernel_rfl) ev150
noncomputable def G137 : Env := (envCons 138 [] E138 (envCons 150 [] E150 envNil))
noncomputable def c137 : Code := bodyOf Tryz.f137
noncomputable def c137_3 : Code := (loopsOf c137).getD 0 .skip
noncomputable def I.chosen_l0 : Nat → ((List ty12) → Option ((List ty12))) → Int → Int → (List ty12) → (List ty12) → Option ((List ty12))
  | 0, _, _, _, _, _ => none
  | m + 1, e3_0, a3, a4, a5, a6 =>
    (bif (decide (a4 < a3)) then
    (bif decide ((0 : Int) ≤ a4 ∧ a4 < (a6.length : Int)) then
    (Option.bind (I.cellsAdd_1 ((nthI a6 a4 df1).1) ((nthI a6 a4 df1).2.1) ((nthI a6 a4 df1).2.2.1) ((nthI a6 a4 df1).2.2.2.1) ((nthI a6 a4 df1).2.2.2.2.1) ((nthI a6 a4 df1).2.2.2.2.2.1) ((nthI a6 a4 df1).2.2.2.2.2.2.1.1) ((nthI a6 a4 df1).2.2.2.2.2.2.1.2) ((nthI a6 a4 df1).2.2.2.2.2.2.2.1) ((nthI a6 a4 df1).2.2.2.2.2.2.2.2.1) ((nthI a6 a4 df1).2.2.2.2.2.2.2.2.2)) fun r8 =>
    (bif r8 then
    (Option.bind (I.Cell_copied ((nthI a6 a4 df1).1) ((nthI a6 a4 df1).2.1) ((nthI a6 a4 df1).2.2.1) ((nthI a6 a4 df1).2.2.2.1) ((nthI a6 a4 df1).2.2.2.2.1) ((nthI a6 a4 df1).2.2.2.2.2.1) ((nthI a6 a4 df1).2.2.2.2.2.2.1.1) ((nthI a6 a4 df1).2.2.2.2.2.2.1.2) ((nthI a6 a4 df1).2.2.2.2.2.2.2.1) ((nthI a6 a4 df1).2.2.2.2.2.2.2.2.1) ((nthI a6 a4 df1).2.2.2.2.2.2.2.2.2)) fun r9 =>
    (let v10 : List ty12 := [(r9.1, (r9.2.1, (r9.2.2.1, (r9.2.2.2.1, (r9.2.2.2.2.1, (r9.2.2.2.2.2.1, ((r9.2.2.2.2.2.2.1, r9.2.2.2.2.2.2.2.1), (r9.2.2.2.2.2.2.2.2.1, (r9.2.2.2.2.2.2.2.2.2.1, r9.2.2.2.2.2.2.2.2.2.2)))))))))]
    (bif decide ((a5.length + v10.length) * 104 ≤ 140737488355328) then
    (I.chosen_l0 m e3_0 a3 (IntKind.wrap .i64 (a4 + 1)) (a5 ++ v10) a6)
    else
    none)))
    else
    (I.chosen_l0 m e3_0 a3 (IntKind.wrap .i64 (a4 + 1)) a5 a6)))
    else
    none)
    else
    (e3_0 a5))
noncomputable def I.chosen (a1 : List ty12) : Option ((List ty12)) :=
(I.chosen_l0 fu (fun y13 =>
(some y13)) (a1.length : Int) 0 [] a1)
noncomputable def H137_3 : LoopH := ⟨⟨((.one (.unk)) :: (.one (.fn 138 [])) :: (hu 3 ((.one (.sl 0)) :: (hu 3 ((.one (.sl 1)) :: hh :: hh :: (hu 13 [])))))), [], [(113, sh1, .own), (113, sh1, .ro)]⟩, ([0, 2, 3, 4, 6, 7, 8] ++ rg 12 13), [], (rg 0 4 ++ rg 6 19), [], [], [], []⟩
noncomputable def k137_3 : List PK := (ki 2 [.row sh1, .row sh1])
noncomputable def W137_3 (m : Nat) (k : Kont ((List ty12))) : Cur k137_3 (Option ((List ty12))) := I.chosen_l0 m (exF k (.exit 0) ⟨(hu 5 ((.one (.sl 0)) :: (hu 19 []))), [], [(113, sh1, .own)]⟩ [.row sh1])
noncomputable def E137_3 (m : Nat) : List Prm → Kont ((List ty12)) → Option ((List ty12)) := eL k137_3 (W137_3 m)
theorem ev137_3 (m : Nat) (k : Kont ((List ty12))) (a : Args k137_3) : evL Tryz.prog G137 loopNil c137_3 (turn Tryz.prog (0, 0) H137_3 (E137_3 m) k) (H137_3.sk.fl (encP k137_3 a)) = unc k137_3 (W137_3 (m + 1) k) a := by kernel_rfl
theorem ok137_3 (m : Nat) : LoopOk Tryz.prog (0, 0) c137_3 (enter Tryz.prog (0, 0) H137_3 (E137_3 m)) := loop_gen (Fl := W137_3) (G := G137) (L := loopNil) (envCons_good good138 (envCons_good good150 envNil_good)) (no_loops (c := c137_3) (by kernel_rfl)) (fun _ _ => by kernel_rfl) ev137_3 m
noncomputable def L137 : LEnv ((List ty12)) := (loopCons 3 (enter Tryz.prog (0, 0) H137_3 (E137_3 fu)) loopNil)
theorem lq137 : loopsOf c137 = [c137_3] := by kernel_rfl
theorem fr137_3 : firstReg c137_3 = some 3 := by kernel_rfl
theorem le137_3 : L137 3 = (enter Tryz.prog (0, 0) H137_3 (E137_3 fu)) := by kernel_rfl
theorem lm137 : ∀ x ∈ [c137_3], ∀ id, firstReg x = some id → LoopOk Tryz.prog (0, 0) x (L137 id) := (loops_cons fr137_3 le137_3 (ok137_3 fu) loops_nil)
theorem lp137 : ∀ x ∈ loopsOf c137, ∀ id, firstReg x = some id → LoopOk Tryz.prog (0, 0) x (L137 id) := loops_eq lq137 lm137
noncomputable def sg137 : Sg := ⟨⟨[.one (.sl 0), .one (.fn 138 [])], [], [(113, sh1, .ro)]⟩, [.row sh1], ⟨[.one (.sl 0)], [], [(113, sh1, .own)]⟩, [.row sh1]⟩
noncomputable def E137 : Fun2 := eOf sg137 I.chosen
theorem ev137 (a : Args sg137.ks) : evS Tryz.prog G137 L137 (0, 0) [] Tryz.f137 c137 (kOf sg137) (sg137.sk.fl (encP sg137.ks a)) = unc sg137.ks I.chosen a := by kernel_rfl
theorem good137 : Vm.Good Tryz.prog 137 E137 := good_gen (G := G137) (L := L137) (c := c137) (rn := []) (N := (0, 0)) (envCons_good good138 (envCons_good good150 envNil_good)) lp137 Tryz.func137 (by kernel_rfl) (by kernel_rfl) (fun _ => by kernel_rfl) ev137
noncomputable def G141 : Env := envNil
noncomputable def c141 : Code := bodyOf Tryz.f141
noncomputable def c141_9 : Code := (loopsOf c141).getD 0 .skip
noncomputable def I.winsOf_l0 : Nat → ((List (Int × Int)) → Option ((List (Int × Int)))) → Int → Int → Int → Int → Int → (List (Int × Int)) → Option ((List (Int × Int)))
  | 0, _, _, _, _, _, _, _ => none
  | m + 1, e9_0, a9, a10, a11, a12, a13, a14 =>
    (bif (decide (a10 ≤ a9)) then
    (bif (decide (a9 < (IntKind.wrap .i64 (a10 + a12)))) then
    (let v18 : Int := (IntKind.wrap .i64 (a10 + a12))
    (bif decide ((a14.length + [(a10, v18)].length) * 16 ≤ 140737488355328) then
    (I.winsOf_l0 m e9_0 a9 (IntKind.wrap .i64 (a10 + a13)) a11 a12 a13 (a14 ++ [(a10, v18)]))
    else
    none))
    else
    (I.winsOf_l0 m e9_0 a9 (IntKind.wrap .i64 (a10 + a13)) a11 a12 a13 a14))
    else
    (e9_0 a14))
noncomputable def I.winsOf (a1 a2 a3 a4 : Int) : Option ((List (Int × Int))) :=
(bif (a1 == 1) then
(bif decide (a2 = 0) then
none
else
(let v6 : Int := (IntKind.wrap .i64 ((IntKind.wrap .i64 (Int.tdiv a4 a2)) * a2))
(some [(v6, (IntKind.wrap .i64 (v6 + a2)))])))
else
(bif (a1 == 3) then
(some [(a4, (IntKind.wrap .i64 (a4 + a2)))])
else
(I.winsOf_l0 fu (fun y22 =>
(some y22)) a4 0 a1 a2 a3 [])))
noncomputable def H141_9 : LoopH := ⟨⟨((.one (.unk)) :: hh :: (.one (.ptr 0 0)) :: (hu 3 ((.one (.sl 0)) :: hh :: (hu 51 [])))), [(30, (ho 3 []))], [(107, sh2, .own)]⟩, ([0, 3, 4, 5] ++ rg 8 51), [], (rg 0 4 ++ [5] ++ rg 7 52), [], [], [], []⟩
noncomputable def k141_9 : List PK := (ki 5 [.row sh2])
noncomputable def W141_9 (m : Nat) (k : Kont ((List (Int × Int)))) : Cur k141_9 (Option ((List (Int × Int)))) := I.winsOf_l0 m (exF k (.exit 1) ⟨(hu 6 ((.one (.sl 0)) :: (hu 52 []))), [], [(107, sh2, .own)]⟩ [.row sh2])
noncomputable def E141_9 (m : Nat) : List Prm → Kont ((List (Int × Int))) → Option ((List (Int × Int))) := eL k141_9 (W141_9 m)
theorem ev141_9 (m : Nat) (k : Kont ((List (Int × Int)))) (a : Args k141_9) : evL Tryz.prog G141 loopNil c141_9 (turn Tryz.prog (0, 0) H141_9 (E141_9 m) k) (H141_9.sk.fl (encP k141_9 a)) = unc k141_9 (W141_9 (m + 1) k) a := by kernel_rfl
theorem ok141_9 (m : Nat) : LoopOk Tryz.prog (0, 0) c141_9 (enter Tryz.prog (0, 0) H141_9 (E141_9 m)) := loop_gen (Fl := W141_9) (G := G141) (L := loopNil) envNil_good (no_loops (c := c141_9) (by kernel_rfl)) (fun _ _ => by kernel_rfl) ev141_9 m
noncomputable def L141 : LEnv ((List (Int × Int))) := (loopCons 9 (enter Tryz.prog (0, 0) H141_9 (E141_9 fu)) loopNil)
theorem lq141 : loopsOf c141 = [c141_9] := by kernel_rfl
theorem fr141_9 : firstReg c141_9 = some 9 := by kernel_rfl
theorem le141_9 : L141 9 = (enter Tryz.prog (0, 0) H141_9 (E141_9 fu)) := by kernel_rfl
theorem lm141 : ∀ x ∈ [c141_9], ∀ id, firstReg x = some id → LoopOk Tryz.prog (0, 0) x (L141 id) := (loops_cons fr141_9 le141_9 (ok141_9 fu) loops_nil)
theorem lp141 : ∀ x ∈ loopsOf c141, ∀ id, firstReg x = some id → LoopOk Tryz.prog (0, 0) x (L141 id) := loops_eq lq141 lm141
noncomputable def sg141 : Sg := ⟨⟨[.agg (ho 3 []), hh], [], []⟩, (ki 4 []), ⟨[.one (.sl 0)], [], [(107, sh2, .own)]⟩, [.row sh2]⟩
noncomputable def E141 : Fun2 := eOf sg141 I.winsOf
theorem ev141 (a : Args sg141.ks) : evS Tryz.prog G141 L141 (0, 0) [] Tryz.f141 c141 (kOf sg141) (sg141.sk.fl (encP sg141.ks a)) = unc sg141.ks I.winsOf a := by kernel_rfl
theorem good141 : Vm.Good Tryz.prog 141 E141 := good_gen (G := G141) (L := L141) (c := c141) (rn := []) (N := (0, 0)) envNil_good lp141 Tryz.func141 (by kernel_rfl) (by kernel_rfl) (fun _ => by kernel_rfl) ev141
noncomputable def G226 : Env := envNil
noncomputable def c226 : Code := bodyOf Tryz.f226
noncomputable def c226_5 : Code := (loopsOf c226).getD 0 .skip
noncomputable def G.slices.Min_int_l0 : Nat → (Int → Option Int) → Int → Int → List Int → Option Int
  | 0, _, _, _, _ => none
  | m + 1, e5_0, a5, a6, a7 =>
    (bif (decide (a6 < (a7.length : Int))) then
    (bif decide ((0 : Int) ≤ a6 ∧ a6 < (a7.length : Int)) then
    (let v10 : Int := (if (nthI a7 a6 (0 : Int)) < a5 then (nthI a7 a6 (0 : Int)) else a5)
    (G.slices.Min_int_l0 m e5_0 v10 (IntKind.wrap .i64 (a6 + 1)) a7))
    else
    none)
    else
    (e5_0 a5))
noncomputable def G.slices.Min_int (a1 : List Int) : Option Int :=
(bif (decide ((a1.length : Int) < 1)) then
none
else
(bif decide ((0 : Int) ≤ 0 ∧ 0 < (a1.length : Int)) then
(G.slices.Min_int_l0 fu (fun y12 =>
(some y12)) (nthI a1 0 (0 : Int)) 1 a1)
else
none))
noncomputable def H226_5 : LoopH := ⟨⟨((.one (.sl 0)) :: (hu 2 (hh :: hh :: (hu 20 [])))), [], [(3, (.int .i64), .ro)]⟩, ([1, 2] ++ rg 5 20), [], ([0, 1] ++ rg 4 21), [], [], [], []⟩
noncomputable def k226_5 : List PK := (ki 2 [.row (.int .i64)])
noncomputable def W226_5 (m : Nat) (k : Kont Int) : Cur k226_5 (Option Int) := G.slices.Min_int_l0 m (exF k (.exit 0) ⟨(hu 3 (hh :: (hu 21 []))), [], []⟩ [.int .i64])
noncomputable def E226_5 (m : Nat) : List Prm → Kont Int → Option Int := eL k226_5 (W226_5 m)
theorem ev226_5 (m : Nat) (k : Kont Int) (a : Args k226_5) : evL Tryz.prog G226 loopNil c226_5 (turn Tryz.prog (0, 0) H226_5 (E226_5 m) k) (H226_5.sk.fl (encP k226_5 a)) = unc k226_5 (W226_5 (m + 1) k) a := by kernel_rfl
theorem ok226_5 (m : Nat) : LoopOk Tryz.prog (0, 0) c226_5 (enter Tryz.prog (0, 0) H226_5 (E226_5 m)) := loop_gen (Fl := W226_5) (G := G226) (L := loopNil) envNil_good (no_loops (c := c226_5) (by kernel_rfl)) (fun _ _ => by kernel_rfl) ev226_5 m
noncomputable def L226 : LEnv Int := (loopCons 5 (enter Tryz.prog (0, 0) H226_5 (E226_5 fu)) loopNil)
theorem lq226 : loopsOf c226 = [c226_5] := by kernel_rfl
theorem fr226_5 : firstReg c226_5 = some 5 := by kernel_rfl
theorem le226_5 : L226 5 = (enter Tryz.prog (0, 0) H226_5 (E226_5 fu)) := by kernel_rfl
theorem lm226 : ∀ x ∈ [c226_5], ∀ id, firstReg x = some id → LoopOk Tryz.prog (0, 0) x (L226 id) := (loops_cons fr226_5 le226_5 (ok226_5 fu) loops_nil)
theorem lp226 : ∀ x ∈ loopsOf c226, ∀ id, firstReg x = some id → LoopOk Tryz.prog (0, 0) x (L226 id) := loops_eq lq226 lm226
noncomputable def sg226 : Sg := ⟨⟨[.one (.sl 0)], [], [(3, (.int .i64), .ro)]⟩, [.row (.int .i64)], ⟨[hh], [], []⟩, [.int .i64]⟩
noncomputable def E226 : Fun2 := eOf sg226 G.slices.Min_int
theorem ev226 (a : Args sg226.ks) : evS Tryz.prog G226 L226 (0, 0) [] Tryz.f226 c226 (kOf sg226) (sg226.sk.fl (encP sg226.ks a)) = unc sg226.ks G.slices.Min_int a := by kernel_rfl
theorem good226 : Vm.Good Tryz.prog 226 E226 := good_gen (G := G226) (L := L226) (c := c226) (rn := []) (N := (0, 0)) envNil_good lp226 Tryz.func226 (by kernel_rfl) (by kernel_rfl) (fun _ => by kernel_rfl) ev226
noncomputable def G227 : Env := envNil
noncomputable def c227 : Code := bodyOf Tryz.f227
noncomputable def c227_5 : Code := (loopsOf c227).getD 0 .skip
noncomputable def G.slices.Max_int_l0 : Nat → (Int → Option Int) → Int → Int → List Int → Option Int
  | 0, _, _, _, _ => none
  | m + 1, e5_0, a5, a6, a7 =>
    (bif (decide (a6 < (a7.length : Int))) then
    (bif decide ((0 : Int) ≤ a6 ∧ a6 < (a7.length : Int)) then
    (let v10 : Int := (if (nthI a7 a6 (0 : Int)) > a5 then (nthI a7 a6 (0 : Int)) else a5)
    (G.slices.Max_int_l0 m e5_0 v10 (IntKind.wrap .i64 (a6 + 1)) a7))
    else
    none)
    else
    (e5_0 a5))
noncomputable def G.slices.Max_int (a1 : List Int) : Option Int :=
(bif (decide ((a1.length : Int) < 1)) then
none
else
(bif decide ((0 : Int) ≤ 0 ∧ 0 < (a1.length : Int)) then
(G.slices.Max_int_l0 fu (fun y12 =>
(some y12)) (nthI a1 0 (0 : Int)) 1 a1)
else
none))
noncomputable def H227_5 : LoopH := ⟨⟨((.one (.sl 0)) :: (hu 2 (hh :: hh :: (hu 20 [])))), [], [(3, (.int .i64), .ro)]⟩, ([1, 2] ++ rg 5 20), [], ([0, 1] ++ rg 4 21), [], [], [], []⟩
noncomputable def k227_5 : List PK := (ki 2 [.row (.int .i64)])
noncomputable def W227_5 (m : Nat) (k : Kont Int) : Cur k227_5 (Option Int) := G.slices.Max_int_l0 m (exF k (.exit 0) ⟨(hu 3 (hh :: (hu 21 []))), [], []⟩ [.int .i64])
noncomputable def E227_5 (m : Nat) : List Prm → Kont Int → Option Int := eL k227_5 (W227_5 m)
theorem ev227_5 (m : Nat) (k : Kont Int) (a : Args k227_5) : evL Tryz.prog G227 loopNil c227_5 (turn Tryz.prog (0, 0) H227_5 (E227_5 m) k) (H227_5.sk.fl (encP k227_5 a)) = unc k227_5 (W227_5 (m + 1) k) a := by kernel_rfl
theorem ok227_5 (m : Nat) : LoopOk Tryz.prog (0, 0) c227_5 (enter Tryz.prog (0, 0) H227_5 (E227_5 m)) := loop_gen (Fl := W227_5) (G := G227) (L := loopNil) envNil_good (no_loops (c := c227_5) (by kernel_rfl)) (fun _ _ => by kernel_rfl) ev227_5 m
noncomputable def L227 : LEnv Int := (loopCons 5 (enter Tryz.prog (0, 0) H227_5 (E227_5 fu)) loopNil)
theorem lq227 : loopsOf c227 = [c227_5] := by kernel_rfl
theorem fr227_5 : firstReg c227_5 = some 5 := by kernel_rfl
theorem le227_5 : L227 5 = (enter Tryz.prog (0, 0) H227_5 (E227_5 fu)) := by kernel_rfl
theorem lm227 : ∀ x ∈ [c227_5], ∀ id, firstReg x = some id → LoopOk Tryz.prog (0, 0) x (L227 id) := (loops_cons fr227_5 le227_5 (ok227_5 fu) loops_nil)
theorem lp227 : ∀ x ∈ loopsOf c227, ∀ id, firstReg x = some id → LoopOk Tryz.prog (0, 0) x (L227 id) := loops_eq lq227 lm227
noncomputable def sg227 : Sg := ⟨⟨[.one (.sl 0)], [], [(3, (.int .i64), .ro)]⟩, [.row (.int .i64)], ⟨[hh], [], []⟩, [.int .i64]⟩
noncomputable def E227 : Fun2 := eOf sg227 G.slices.Max_int
theorem ev227 (a : Args sg227.ks) : evS Tryz.prog G227 L227 (0, 0) [] Tryz.f227 c227 (kOf sg227) (sg227.sk.fl (encP sg227.ks a)) = unc sg227.ks G.slices.Max_int a := by kernel_rfl
theorem good227 : Vm.Good Tryz.prog 227 E227 := good_gen (G := G227) (L := L227) (c := c227) (rn := []) (N := (0, 0)) envNil_good lp227 Tryz.func227 (by kernel_rfl) (by kernel_rfl) (fun _ => by kernel_rfl) ev227
noncomputable def G287 : Env := envNil
noncomputable def c287 : Code := bodyOf Tryz.f287
noncomputable def G.slices.Values_int (a1 : List Int) : Option (List Int) :=
(some a1)
noncomputable def sg287 : Sg := ⟨⟨[.one (.sl 0)], [], [(3, (.int .i64), .ro)]⟩, [.row (.int .i64)], ⟨[.one (.fn 332 [(0, 0)])], [(38, [.sl 0])], [(3, (.int .i64), .ro)]⟩, [.row (.int .i64)]⟩
noncomputable def E287 : Fun2 := eOf sg287 G.slices.Values_int
theorem ev287 (a : Args sg287.ks) : evS Tryz.prog G287 loopNil (0, 0) [1000000] Tryz.f287 c287 (kOf sg287) (sg287.sk.fl (encP sg287.ks a)) = unc sg287.ks G.slices.Values_int a := by kernel_rfl
theorem good287 : Vm.Good Tryz.prog 287 E287 := good_gen (G := G287) (L := loopNil) (c := c287) (rn := [1000000]) (N := (0, 0)) envNil_good (no_loops (c := c287) (by kernel_rfl)) Tryz.func287 (by kernel_rfl) (by kernel_rfl) (fun _ => by kernel_rfl) ev287
noncomputable def G288 : Env := envNil
noncomputable def c288 : Code := bodyOf Tryz.f288
noncomputable def c288_1 : Code := (loopsOf c288).getD 0 .skip
noncomputable def G.slices.Reverse_int_l0 : Nat → (List Int → Option (List Int)) → Int → Int → List Int → Option (List Int)
  | 0, _, _, _, _ => none
  | m + 1, e1_0, a4, a5, a6 =>
    (bif (decide (a4 < a5)) then
    (bif decide ((0 : Int) ≤ a5 ∧ a5 < (a6.length : Int)) then
    (bif decide ((0 : Int) ≤ a4 ∧ a4 < (a6.length : Int)) then
    (bif decide ((0 : Int) ≤ a4 ∧ a4 < (a6.length : Int)) then
    (let v8 : List Int := (a6.set (Int.toNat a4) (nthI a6 a5 (0 : Int)))
    (bif decide ((0 : Int) ≤ a5 ∧ a5 < (v8.length : Int)) then
    (G.slices.Reverse_int_l0 m e1_0 (IntKind.wrap .i64 (a4 + 1)) (IntKind.wrap .i64 (a5 - 1)) (v8.set (Int.toNat a5) (nthI a6 a4 (0 : Int))))
    else
    none))
    else
    none)
    else
    none)
    else
    none)
    else
    (e1_0 a6))
noncomputable def G.slices.Reverse_int (a1 : List Int) : Option (List Int) :=
(G.slices.Reverse_int_l0 fu (fun y12 =>
(some y12)) 0 (IntKind.wrap .i64 ((a1.length : Int) - 1)) a1)
noncomputable def H288_1 : LoopH := ⟨⟨((.one (.sl 0)) :: (.one (.unk)) :: hh :: hh :: (hu 24 [])), [], [(3, (.int .i64), .own)]⟩, ([1] ++ rg 4 24), [], (rg 0 28), [], [], [], []⟩
noncomputable def k288_1 : List PK := (ki 2 [.row (.int .i64)])
noncomputable def W288_1 (m : Nat) (k : Kont (List Int)) : Cur k288_1 (Option (List Int)) := G.slices.Reverse_int_l0 m (exF k (.exit 0) ⟨(hu 28 []), [], [(3, (.int .i64), .own)]⟩ [.row (.int .i64)])
noncomputable def E288_1 (m : Nat) : List Prm → Kont (List Int) → Option (List Int) := eL k288_1 (W288_1 m)
theorem ev288_1 (m : Nat) (k : Kont (List Int)) (a : Args k288_1) : evL Tryz.prog G288 loopNil c288_1 (turn Tryz.prog (0, 1) H288_1 (E288_1 m) k) (H288_1.sk.fl (encP k288_1 a)) = unc k288_1 (W288_1 (m + 1) k) a := by kernel_rfl
theorem ok288_1 (m : Nat) : LoopOk Tryz.prog (0, 1) c288_1 (enter Tryz.prog (0, 1) H288_1 (E288_1 m)) := loop_gen (Fl := W288_1) (G := G288) (L := loopNil) envNil_good (no_loops (c := c288_1) (by kernel_rfl)) (fun _ _ => by kernel_rfl) ev288_1 m
noncomputable def L288 : LEnv (List Int) := (loopCons 1 (enter Tryz.prog (0, 1) H288_1 (E288_1 fu)) loopNil)
theorem lq288 : loopsOf c288 = [c288_1] := by kernel_rfl
theorem fr288_1 : firstReg c288_1 = some 1 := by kernel_rfl
theorem le288_1 : L288 1 = (enter Tryz.prog (0, 1) H288_1 (E288_1 fu)) := by kernel_rfl
theorem lm288 : ∀ x ∈ [c288_1], ∀ id, firstReg x = some id → LoopOk Tryz.prog (0, 1) x (L288 id) := (loops_cons fr288_1 le288_1 (ok288_1 fu) loops_nil)
theorem lp288 : ∀ x ∈ loopsOf c288, ∀ id, firstReg x = some id → LoopOk Tryz.prog (0, 1) x (L288 id) := loops_eq lq288 lm288
noncomputable def sg288 : Sg := ⟨⟨[.one (.sl 0)], [], [(3, (.int .i64), .own)]⟩, [.row (.int .i64)], ⟨[], [], [(3, (.int .i64), .own)]⟩, [.row (.int .i64)]⟩
noncomputable def E288 : Fun2 := eOf sg288 G.slices.Reverse_int
theorem ev288 (a : Args sg288.ks) : evS Tryz.prog G288 L288 (0, 1) [] Tryz.f288 c288 (kOf sg288) (sg288.sk.fl (encP sg288.ks a)) = unc sg288.ks G.slices.Reverse_int a := by kernel_rfl
theorem good288 : Vm.Good Tryz.prog 288 E288 := good_gen (G := G288) (L := L288) (c := c288) (rn := []) (N := (0, 1)) envNil_good lp288 Tryz.func288 (by kernel_rfl) (by kernel_rfl) (fun _ => by kernel_rfl) ev288
noncomputable def G228 : Env := (envConsS 287 [] E287 (envCons 286 [] E286 (envCons 288 [0] E288 (envCons 236 [] E236 envNil))))
noncomputable def c228 : Code := bodyOf Tryz.f228
noncomputable def I.topOf (a1 : List Int) : Option (List Int) :=
(Option.bind (G.slices.Values_int a1) fun r2 =>
(Option.bind (X.sorted r2) fun r3 =>
(Option.bind (G.slices.Reverse_int r3.2) fun r4 =>
(let v5 : Int := (r4.length : Int)
(let v6 : Int := (if 4 < v5 then 4 else v5)
(bif decide ((0 : Int) ≤ 0 ∧ 0 ≤ v6 ∧ v6 ≤ (r4.length : Int)) then
(Option.bind (G.slices.Clone_int ((r4.take (Int.toNat v6)).drop (Int.toNat 0))) fun r7 =>
(some r7))
else
none))))))
noncomputable def sg228 : Sg := ⟨⟨[.one (.sl 0)], [], [(3, (.int .i64), .ro)]⟩, [.row (.int .i64)], ⟨[.one (.sl 0)], [], [(3, (.int .i64), .own)]⟩, [.row (.int .i64)]⟩
noncomputable def E228 : Fun2 := eOf sg228 I.topOf
theorem ev228 (a : Args sg228.ks) : evS Tryz.prog G228 loopNil (0, 0) [] Tryz.f228 c228 (kOf sg228) (sg228.sk.fl (encP sg228.ks a)) = unc sg228.ks I.topOf a := by kernel_rfl
theorem good228 : Vm.Good Tryz.prog 228 E228 := good_gen (G := G228) (L := loopNil) (c := c228) (rn := []) (N := (0, 0)) (envConsS_good good287 (envCons_good good286 (envCons_good good288 (envCons_good good236 envNil_good)))) (no_loops (c := c228) (by kernel_rfl)) Tryz.func228 (by kernel_rfl) (by kernel_rfl) (fun _ => by kernel_rfl) ev228
noncomputable def G142 : Env := (envCons 226 [] E226 (envCons 227 [] E227 (envCons 228 [] E228 (envCons 230 [] E230 (envCons 229 [] E229 envNil)))))
noncomputable def c142 : Code := bodyOf Tryz.f142
noncomputable def c142_5 : Code := (loopsOf c142).getD 0 .skip
noncomputable def I.aggOf_l0 : Nat → (Int → Int → Int → Int → Int → Int → Int → Int → Int → Int → List Int → Option (Int × Int × Int × Int × Int × List Int)) → Int → Int → Int → Int → Int → Int → Int → Int → Int → Int → Int → Int → List Int → List Int → Option (Int × Int × Int × Int × Int × List Int)
  | 0, _, _, _, _, _, _, _, _, _, _, _, _, _, _, _ => none
  | m + 1, e5_0, a8, a9, a10, a11, a12, a13, a14, a15, a16, a17, a18, a19, a20, a21 =>
    (bif (decide (a9 < a8)) then
    (bif decide ((0 : Int) ≤ a9 ∧ a9 < (a20.length : Int)) then
    (Option.bind (I.WideOf (nthI a20 a9 (0 : Int))) fun r24 =>
    (Option.bind (I.WideAdd a16 a17 r24.1 r24.2) fun r25 =>
    (I.aggOf_l0 m e5_0 a8 (IntKind.wrap .i64 (a9 + 1)) a10 a11 a12 a13 a14 a15 r25.1 r25.2 a18 a19 a20 a21)))
    else
    none)
    else
    (e5_0 a10 a11 a12 a13 a14 a15 a16 a17 a18 a19 a21))
noncomputable def I.aggOf (a1 : List Int) : Option (Int × Int × Int × Int × Int × List Int) :=
(bif ((a1.length : Int) == 0) then
(some (0, 0, 0, 0, 0, []))
else
(Option.bind (G.slices.Min_int a1) fun r4 =>
(Option.bind (G.slices.Max_int a1) fun r5 =>
(Option.bind (I.topOf a1) fun r6 =>
(I.aggOf_l0 fu (fun y27 y28 y29 y30 y31 y32 y33 y34 y35 y36 y37 =>
(some (y32, y33, y34, y35, y36, y37))) (a1.length : Int) 0 0 0 0 0 0 (a1.length : Int) 0 0 r4 r5 a1 r6)))))
noncomputable def H142_5 : LoopH := ⟨⟨(hu 2 ((.one (.ptr 0 0)) :: (.one (.ptr 1 0)) :: (hu 15 ((.one (.sl 0)) :: hh :: hh :: (hu 11 []))))), [(110, (ho 6 [])), (110, (ho 5 [.sl 1]))], [(3, (.int .i64), .ro), (3, (.int .i64), .own)]⟩, ([0, 1] ++ rg 4 15 ++ rg 22 11), [], ([0, 1] ++ rg 4 29), [], [], [], []⟩
noncomputable def k142_5 : List PK := (ki 4 ((.int .u64) :: (ki 2 ((.nil) :: (ki 2 ((.int .u64) :: (ki 2 [.row (.int .i64), .row (.int .i64)])))))))
noncomputable def W142_5 (m : Nat) (k : Kont (Int × Int × Int × Int × Int × List Int)) : Cur k142_5 (Option (Int × Int × Int × Int × Int × List Int)) := I.aggOf_l0 m (exF k (.exit 0) ⟨(hu 2 ((.one (.ptr 0 0)) :: (.one (.ptr 1 0)) :: (hu 29 []))), [(110, (ho 6 [])), (110, (ho 5 [.sl 0]))], [(3, (.int .i64), .own)]⟩ (ki 2 ((.int .u64) :: (ki 2 ((.nil) :: (ki 2 ((.int .u64) :: (ki 2 [.row (.int .i64)]))))))))
noncomputable def E142_5 (m : Nat) : List Prm → Kont (Int × Int × Int × Int × Int × List Int) → Option (Int × Int × Int × Int × Int × List Int) := eL k142_5 (W142_5 m)
theorem ev142_5 (m : Nat) (k : Kont (Int × Int × Int × Int × Int × List Int)) (a : Args k142_5) : evL Tryz.prog G142 loopNil c142_5 (turn Tryz.prog (0, 0) H142_5 (E142_5 m) k) (H142_5.sk.fl (encP k142_5 a)) = unc k142_5 (W142_5 (m + 1) k) a := by kernel_rfl
theorem ok142_5 (m : Nat) : LoopOk Tryz.prog (0, 0) c142_5 (enter Tryz.prog (0, 0) H142_5 (E142_5 m)) := loop_gen (Fl := W142_5) (G := G142) (L := loopNil) (envCons_good good226 (envCons_good good227 (envCons_good good228 (envCons_good good230 (envCons_good good229 envNil_good))))) (no_loops (c := c142_5) (by kernel_rfl)) (fun _ _ => by kernel_rfl) ev142_5 m
noncomputable def L142 : LEnv (Int × Int × Int × Int × Int × List Int) := (loopCons 5 (enter Tryz.prog (0, 0) H142_5 (E142_5 fu)) loopNil)
theorem lq142 : loopsOf c142 = [c142_5] := by kernel_rfl
theorem fr142_5 : firstReg c142_5 = some 5 := by kernel_rfl
theorem le142_5 : L142 5 = (enter Tryz.prog (0, 0) H142_5 (E142_5 fu)) := by kernel_rfl
theorem lm142 : ∀ x ∈ [c142_5], ∀ id, firstReg x = some id → LoopOk Tryz.prog (0, 0) x (L142 id) := (loops_cons fr142_5 le142_5 (ok142_5 fu) loops_nil)
theorem lp142 : ∀ x ∈ loopsOf c142, ∀ id, firstReg x = some id → LoopOk Tryz.prog (0, 0) x (L142 id) := loops_eq lq142 lm142
noncomputable def sg142 : Sg := ⟨⟨[.one (.sl 0)], [], [(3, (.int .i64), .ro)]⟩, [.row (.int .i64)], ⟨[.agg (ho 5 [.sl 0])], [], [(3, (.int .i64), .own)]⟩, (ki 2 ((.int .u64) :: (ki 2 [.row (.int .i64)])))⟩
noncomputable def E142 : Fun2 := eOf sg142 I.aggOf
theorem ev142 (a : Args sg142.ks) : evS Tryz.prog G142 L142 (0, 0) [] Tryz.f142 c142 (kOf sg142) (sg142.sk.fl (encP sg142.ks a)) = unc sg142.ks I.aggOf a := by kernel_rfl
theorem good142 : Vm.Good Tryz.prog 142 E142 := good_gen (G := G142) (L := L142) (c := c142) (rn := []) (N := (0, 0)) (envCons_good good226 (envCons_good good227 (envCons_good good228 (envCons_good good230 (envCons_good good229 envNil_good))))) lp142 Tryz.func142 (by kernel_rfl) (by kernel_rfl) (fun _ => by kernel_rfl) ev142
noncomputable def G154 : Env := envNil
noncomputable def c154 : Code := bodyOf Tryz.f154
noncomputable def I.Win_overlaps (a1 a2 a3 a4 : Int) : Option Bool :=
(bif (decide (a1 < a4)) then
(some (decide (a3 < a2)))
else
(some false))
noncomputable def sg154 : Sg := ⟨⟨[.agg (ho 2 []), .agg (ho 2 [])], [], []⟩, (ki 4 []), ⟨[hh], [], []⟩, [.bool]⟩
noncomputable def E154 : Fun2 := eOf sg154 I.Win_overlaps
theorem ev154 (a : Args sg154.ks) : evS Tryz.prog G154 loopNil (0, 0) [] Tryz.f154 c154 (kOf sg154) (sg154.sk.fl (encP sg154.ks a)) = unc sg154.ks I.Win_overlaps a := by kernel_rfl
theorem good154 : Vm.Good Tryz.prog 154 E154 := good_gen (G := G154) (L := loopNil) (c := c154) (rn := []) (N := (0, 0)) envNil_good (no_loops (c := c154) (by kernel_rfl)) Tryz.func154 (by kernel_rfl) (by kernel_rfl) (fun _ => by kernel_rfl) ev154
noncomputable def G291 : Env := (envCons 333 [0] E333 envNil)
noncomputable def c291 : Code := bodyOf Tryz.f291
noncomputable def c291_3 : Code := (loopsOf c291).getD 0 .skip
noncomputable def c291_11 : Code := (loopsOf c291).getD 1 .skip
noncomputable def G.slices.Concat_int_l0 : Nat → (Int → List (List Int) → Option (List Int)) → Int → Int → Int → List (List Int) → Option (List Int)
  | 0, _, _, _, _, _ => none
  | m + 1, e3_0, a3, a4, a5, a6 =>
    (bif (decide (a5 < a4)) then
    (bif decide ((0 : Int) ≤ a5 ∧ a5 < (a6.length : Int)) then
    (let v9 : Int := (IntKind.wrap .i64 (a3 + ((nthI a6 a5 []).length : Int)))
    (bif (decide (v9 < 0)) then
    none
    else
    (G.slices.Concat_int_l0 m e3_0 v9 a4 (IntKind.wrap .i64 (a5 + 1)) a6)))
    else
    none)
    else
    (e3_0 a3 a6))
noncomputable def G.slices.Concat_int_l1 : Nat → (List Int → Option (List Int)) → Int → Int → List Int → List (List Int) → Option (List Int)
  | 0, _, _, _, _, _ => none
  | m + 1, e11_0, a16, a17, a18, a19 =>
    (bif (decide (a17 < a16)) then
    (bif decide ((0 : Int) ≤ a17 ∧ a17 < (a19.length : Int)) then
    (bif decide ((a18.length + (nthI a19 a17 []).length) * 8 ≤ 140737488355328) then
    (G.slices.Concat_int_l1 m e11_0 a16 (IntKind.wrap .i64 (a17 + 1)) (a18 ++ (nthI a19 a17 [])) a19)
    else
    none)
    else
    none)
    else
    (e11_0 a18))
noncomputable def G.slices.Concat_int (a1 : List (List Int)) : Option (List Int) :=
(G.slices.Concat_int_l0 fu (fun y12 y13 =>
(Option.bind (X.grow0 y12 []) fun r14 =>
(G.slices.Concat_int_l1 fu (fun y23 =>
(some y23)) (y13.length : Int) 0 r14 y13))) 0 (a1.length : Int) 0 a1)
noncomputable def H291_3 : LoopH := ⟨⟨((.one (.sl 0)) :: (hu 2 (hh :: (hu 5 ((.one (.sl 0)) :: hh :: hh :: (hu 24 [])))))), [], [(38, (.sl 3 (.int .i64)), .ro)]⟩, ([1, 2] ++ rg 4 5 ++ rg 12 24), [], ([1] ++ rg 4 32), [], [], [], []⟩
noncomputable def k291_3 : List PK := (ki 3 [.row (.sl 3 (.int .i64))])
noncomputable def W291_3 (m : Nat) (k : Kont (List Int)) : Cur k291_3 (Option (List Int)) := G.slices.Concat_int_l0 m (exF k (.exit 0) ⟨((.one (.sl 0)) :: (hu 2 (hh :: (hu 32 [])))), [], [(38, (.sl 3 (.int .i64)), .ro)]⟩ [.int .i64, .row (.sl 3 (.int .i64))])
noncomputable def E291_3 (m : Nat) : List Prm → Kont (List Int) → Option (List Int) := eL k291_3 (W291_3 m)
theorem ev291_3 (m : Nat) (k : Kont (List Int)) (a : Args k291_3) : evL Tryz.prog G291 loopNil c291_3 (turn Tryz.prog (0, 0) H291_3 (E291_3 m) k) (H291_3.sk.fl (encP k291_3 a)) = unc k291_3 (W291_3 (m + 1) k) a := by kernel_rfl
theorem ok291_3 (m : Nat) : LoopOk Tryz.prog (0, 0) c291_3 (enter Tryz.prog (0, 0) H291_3 (E291_3 m)) := loop_gen (Fl := W291_3) (G := G291) (L := loopNil) (envCons_good good333 envNil_good) (no_loops (c := c291_3) (by kernel_rfl)) (fun _ _ => by kernel_rfl) ev291_3 m
noncomputable def H291_11 : LoopH := ⟨⟨(hu 6 ((.one (.sl 0)) :: (hu 18 ((.one (.sl 1)) :: hh :: hh :: (hu 8 []))))), [], [(3, (.int .i64), .own), (38, (.sl 3 (.int .i64)), .ro)]⟩, (rg 0 6 ++ rg 7 18 ++ rg 28 8), [], ([0, 1, 3, 4, 5] ++ rg 7 29), [], [], [], []⟩
noncomputable def k291_11 : List PK := (ki 2 [.row (.int .i64), .row (.sl 3 (.int .i64))])
noncomputable def W291_11 (m : Nat) (k : Kont (List Int)) : Cur k291_11 (Option (List Int)) := G.slices.Concat_int_l1 m (exF k (.exit 2) ⟨(hu 6 ((.one (.sl 0)) :: (hu 29 []))), [], [(3, (.int .i64), .own)]⟩ [.row (.int .i64)])
noncomputable def E291_11 (m : Nat) : List Prm → Kont (List Int) → Option (List Int) := eL k291_11 (W291_11 m)
theorem ev291_11 (m : Nat) (k : Kont (List Int)) (a : Args k291_11) : evL Tryz.prog G291 loopNil c291_11 (turn Tryz.prog (0, 0) H291_11 (E291_11 m) k) (H291_11.sk.fl (encP k291_11 a)) = unc k291_11 (W291_11 (m + 1) k) a := by kernel_rfl
theorem ok291_11 (m : Nat) : LoopOk Tryz.prog (0, 0) c291_11 (enter Tryz.prog (0, 0) H291_11 (E291_11 m)) := loop_gen (Fl := W291_11) (G := G291) (L := loopNil) (envCons_good good333 envNil_good) (no_loops (c := c291_11) (by kernel_rfl)) (fun _ _ => by kernel_rfl) ev291_11 m
noncomputable def L291 : LEnv (List Int) := (loopCons 3 (enter Tryz.prog (0, 0) H291_3 (E291_3 fu)) (loopCons 11 (enter Tryz.prog (0, 0) H291_11 (E291_11 fu)) loopNil))
theorem lq291 : loopsOf c291 = [c291_3, c291_11] := by kernel_rfl
theorem fr291_3 : firstReg c291_3 = some 3 := by kernel_rfl
theorem le291_3 : L291 3 = (enter Tryz.prog (0, 0) H291_3 (E291_3 fu)) := by kernel_rfl
theorem fr291_11 : firstReg c291_11 = some 11 := by kernel_rfl
theorem le291_11 : L291 11 = (enter Tryz.prog (0, 0) H291_11 (E291_11 fu)) := by kernel_rfl
theorem lm291 : ∀ x ∈ [c291_3, c291_11], ∀ id, firstReg x = some id → LoopOk Tryz.prog (0, 0) x (L291 id) := (loops_cons fr291_3 le291_3 (ok291_3 fu) (loops_cons fr291_11 le291_11 (ok291_11 fu) loops_nil))
theorem lp291 : ∀ x ∈ loopsOf c291, ∀ id, firstReg x = some id → LoopOk Tryz.prog (0, 0) x (L291 id) := loops_eq lq291 lm291
noncomputable def sg291 : Sg := ⟨⟨[.one (.sl 0)], [], [(38, (.sl 3 (.int .i64)), .ro)]⟩, [.row (.sl 3 (.int .i64))], ⟨[.one (.sl 0)], [], [(3, (.int .i64), .own)]⟩, [.row (.int .i64)]⟩
noncomputable def E291 : Fun2 := eOf sg291 G.slices.Concat_int
theorem ev291 (a : Args sg291.ks) : evS Tryz.prog G291 L291 (0, 0) [] Tryz.f291 c291 (kOf sg291) (sg291.sk.fl (encP sg291.ks a)) = unc sg291.ks G.slices.Concat_int a := by kernel_rfl
theorem good291 : Vm.Good Tryz.prog 291 E291 := good_gen (G := G291) (L := L291) (c := c291) (rn := []) (N := (0, 0)) (envCons_good good333 envNil_good) lp291 Tryz.func291 (by kernel_rfl) (by kernel_rfl) (fun _ => by kernel_rfl) ev291
noncomputable def G238 : Env := (envCons 236 [] E236 (envCons 229 [] E229 (envCons 291 [] E291 (envCons 228 [] E228 envNil))))
noncomputable def c238 : Code := bodyOf Tryz.f238
noncomputable def I.joined (a1 a2 a3 a4 a5 a6 a7 a8 a9 a10 : Int) (a11 a12 : List Int) : Option (Int × Int × Int × Int × Int × List Int) :=
(bif (a1 == 0) then
(Option.bind (G.slices.Clone_int a12) fun r13 =>
(some (a6, a7, a8, a9, a10, r13)))
else
(bif (decide (0 < a6)) then
(dup (Option.bind (I.WideAdd a2 a3 a7 a8) fun r18 =>
(Option.bind (G.slices.Concat_int [a11, a12]) fun r19 =>
(Option.bind (I.topOf r19) fun r20 =>
(some ((IntKind.wrap .i64 (a1 + a6)), r18.1, r18.2, (if a9 < a4 then a9 else a4), (if a10 > a5 then a10 else a5), r20))))))
else
(Option.bind (G.slices.Clone_int a11) fun r21 =>
(some (a1, a2, a3, a4, a5, r21)))))
noncomputable def sg238 : Sg := ⟨⟨[.agg (ho 5 [.sl 0]), .agg (ho 5 [.sl 1])], [], [(3, (.int .i64), .ro), (3, (.int .i64), .ro)]⟩, (ki 2 ((.int .u64) :: (ki 4 ((.int .u64) :: (ki 2 [.row (.int .i64), .row (.int .i64)]))))), ⟨[.agg (ho 5 [.sl 0])], [], [(3, (.int .i64), .own)]⟩, (ki 2 ((.int .u64) :: (ki 2 [.row (.int .i64)])))⟩
noncomputable def E238 : Fun2 := eOf sg238 I.joined
theorem ev238 (a : Args sg238.ks) : evS Tryz.prog G238 loopNil (0, 0) [] Tryz.f238 c238 (kOf sg238) (sg238.sk.fl (encP sg238.ks a)) = unc sg238.ks I.joined a := by kernel_rfl
theorem good238 : Vm.Good Tryz.prog 238 E238 := good_gen (G := G238) (L := loopNil) (c := c238) (rn := []) (N := (0, 0)) (envCons_good good236 (envCons_good good229 (envCons_good good291 (envCons_good good228 envNil_good)))) (no_loops (c := c238) (by kernel_rfl)) Tryz.func238 (by kernel_rfl) (by kernel_rfl) (fun _ => by kernel_rfl) ev238
noncomputable def G158 : Env := (envCons 238 [] E238 envNil)
noncomputable def c158 : Code := bodyOf Tryz.f158
noncomputable def I.merged (a1 a2 a3 a4 a5 a6 a7 a8 a9 a10 a11 a12 a13 a14 a15 a16 a17 a18 a19 a20 : Int) (a21 a22 : List Int) : Option (Int × Int × Int × Int × Int × Int × Int × Int × Int × Int × List Int) :=
(Option.bind (I.joined a6 a7 a8 a9 a10 a16 a17 a18 a19 a20 a21 a22) fun r25 =>
(some (a1, a2, (if a13 < a3 then a13 else a3), (if a14 > a4 then a14 else a4), a5, r25.1, r25.2.1, r25.2.2.1, r25.2.2.2.1, r25.2.2.2.2.1, r25.2.2.2.2.2)))
noncomputable def sg158 : Sg := ⟨⟨[.agg (ho 10 [.sl 0]), .agg (ho 10 [.sl 1])], [], [(3, (.int .i64), .ro), (3, (.int .i64), .ro)]⟩, (ki 7 ((.int .u64) :: (ki 9 ((.int .u64) :: (ki 2 [.row (.int .i64), .row (.int .i64)]))))), ⟨[.agg (ho 10 [.sl 0])], [], [(3, (.int .i64), .own)]⟩, (ki 7 ((.int .u64) :: (ki 2 [.row (.int .i64)])))⟩
noncomputable def E158 : Fun2 := eOf sg158 I.merged
theorem ev158 (a : Args sg158.ks) : evS Tryz.prog G158 loopNil (0, 0) [] Tryz.f158 c158 (kOf sg158) (sg158.sk.fl (encP sg158.ks a)) = unc sg158.ks I.merged a := by kernel_rfl
theorem good158 : Vm.Good Tryz.prog 158 E158 := good_gen (G := G158) (L := loopNil) (c := c158) (rn := []) (N := (0, 0)) (envCons_good good238 envNil_good) (no_loops (c := c158) (by kernel_rfl)) Tryz.func158 (by kernel_rfl) (by kernel_rfl) (fun _ => by kernel_rfl) ev158
noncomputable def G225 : Env := (envCons 153 [] E153 (envCons 154 [] E154 (envCons 158 [] E158 envNil)))
noncomputable def c225 : Code := bodyOf Tryz.f225
noncomputable def I.addSession_1 (a1 a2 a3 a4 a5 a6 a7 a8 a9 a10 a11 a12 a13 a14 a15 a16 a17 a18 a19 a20 : Int) (a21 : Bool) (a22 a23 : List Int) : Option (Bool × Int × Int × Int × Int × Int × Int × Int × Int × Int × Int × Bool × List Int) :=
(bif (a1 != a11) then
(some (false, a11, a12, a13, a14, a15, a16, a17, a18, a19, a20, a21, a22))
else
(bif (a2 != a12) then
(some (false, a11, a12, a13, a14, a15, a16, a17, a18, a19, a20, a21, a22))
else
(bif (a5 != a15) then
(some (false, a11, a12, a13, a14, a15, a16, a17, a18, a19, a20, a21, a22))
else
(Option.bind (I.Cell_win a1 a2 a3 a4 a5 a6 a7 a8 a9 a10 a23) fun r24 =>
(Option.bind (I.Cell_win a11 a12 a13 a14 a15 a16 a17 a18 a19 a20 a22) fun r25 =>
(Option.bind (I.Win_overlaps r24.1 r24.2 r25.1 r25.2) fun r26 =>
(bif (!r26) then
(some (false, a11, a12, a13, a14, a15, a16, a17, a18, a19, a20, a21, a22))
else
(Option.bind (I.merged a11 a12 a13 a14 a15 a16 a17 a18 a19 a20 a1 a2 a3 a4 a5 a6 a7 a8 a9 a10 a22 a23) fun r27 =>
(some (true, r27.1, r27.2.1, r27.2.2.1, r27.2.2.2.1, r27.2.2.2.2.1, r27.2.2.2.2.2.1, r27.2.2.2.2.2.2.1, r27.2.2.2.2.2.2.2.1, r27.2.2.2.2.2.2.2.2.1, r27.2.2.2.2.2.2.2.2.2.1, true, r27.2.2.2.2.2.2.2.2.2.2))))))))))
noncomputable def sg225 : Sg := ⟨⟨[.agg (ho 10 [.sl 1]), .one (.ptr 0 0), .one (.ptr 1 0)], [(113, (ho 10 [.sl 0])), (4, [.hole])], [(3, (.int .i64), .own), (3, (.int .i64), .ro)]⟩, (ki 7 ((.int .u64) :: (ki 9 ((.int .u64) :: (ki 2 [.bool, .row (.int .i64), .row (.int .i64)]))))), ⟨[hh], [(113, (ho 10 [.sl 1])), (4, [.hole])], [(3, (.int .i64), .dead), (3, (.int .i64), .own)]⟩, ((.bool) :: (ki 7 ((.int .u64) :: (ki 2 [.bool, .rowd (.int .i64), .row (.int .i64)]))))⟩
noncomputable def E225 : Fun2 := eOf sg225 I.addSession_1
theorem ev225 (a : Args sg225.ks) : evS Tryz.prog G225 loopNil (2, 1) [0] Tryz.f225 c225 (kOf sg225) (sg225.sk.fl (encP sg225.ks a)) = unc sg225.ks I.addSession_1 a := by kernel_rfl
theorem good225 : Vm.Good Tryz.prog 225 E225 := good_gen (G := G225) (L := loopNil) (c := c225) (rn := [0]) (N := (2, 1)) (envCons_good good153 (envCons_good good154 (envCons_good good158 envNil_good))) (no_loops (c := c225) (by kernel_rfl)) Tryz.func225 (by kernel_rfl) (by kernel_rfl) (fun _ => by kernel_rfl) ev225
noncomputable def G235 : Env := (envCons 225 [] E225 envNil)
noncomputable def c235 : Code := bodyOf Tryz.f235
noncomputable def c235_2 : Code := (loopsOf c235).getD 0 .skip
noncomputable def G.slices.IndexFunc_Cell_l0 : Nat → (Int → Int → Int → Int → Int → Int → Int → Int → Int → Int → Int → Bool → List Int → Option (Int × Int × Int × Int × Int × Int × Int × Int × Int × Int × Int × Bool × List Int)) → (Int → Int → Int → Int → Int → Int → Int → Int → Int → Int → Bool → List Int → Option (Int × Int × Int × Int × Int × Int × Int × Int × Int × Int × Int × Bool × List Int)) → Int → Int → Int → Int → Int → Int → Int → Int → Int → Int → Int → Int → Bool → (List ty12) → List Int → Option (Int × Int × Int × Int × Int × Int × Int × Int × Int × Int × Int × Bool × List Int)
  | 0, _, _, _, _, _, _, _, _, _, _, _, _, _, _, _, _, _ => none
  | m + 1, e2_0, e2_1, a15, a16, a17, a18, a19, a20, a21, a22, a23, a24, a25, a26, a27, a28, a29 =>
    (bif (decide (a16 < a15)) then
    (bif decide ((0 : Int) ≤ a16 ∧ a16 < (a28.length : Int)) then
    (Option.bind (I.addSession_1 ((nthI a28 a16 df1).1) ((nthI a28 a16 df1).2.1) ((nthI a28 a16 df1).2.2.1) ((nthI a28 a16 df1).2.2.2.1) ((nthI a28 a16 df1).2.2.2.2.1) ((nthI a28 a16 df1).2.2.2.2.2.1) ((nthI a28 a16 df1).2.2.2.2.2.2.1.1) ((nthI a28 a16 df1).2.2.2.2.2.2.1.2) ((nthI a28 a16 df1).2.2.2.2.2.2.2.1) ((nthI a28 a16 df1).2.2.2.2.2.2.2.2.1) a17 a18 a19 a20 a21 a22 a23 a24 a25 a26 a27 a29 ((nthI a28 a16 df1).2.2.2.2.2.2.2.2.2)) fun r31 =>
    (bif r31.1 then
    (e2_0 a16 r31.2.1 r31.2.2.1 r31.2.2.2.1 r31.2.2.2.2.1 r31.2.2.2.2.2.1 r31.2.2.2.2.2.2.1 r31.2.2.2.2.2.2.2.1 r31.2.2.2.2.2.2.2.2.1 r31.2.2.2.2.2.2.2.2.2.1 r31.2.2.2.2.2.2.2.2.2.2.1 r31.2.2.2.2.2.2.2.2.2.2.2.1 r31.2.2.2.2.2.2.2.2.2.2.2.2)
    else
    (G.slices.IndexFunc_Cell_l0 m e2_0 e2_1 a15 (IntKind.wrap .i64 (a16 + 1)) r31.2.1 r31.2.2.1 r31.2.2.2.1 r31.2.2.2.2.1 r31.2.2.2.2.2.1 r31.2.2.2.2.2.2.1 r31.2.2.2.2.2.2.2.1 r31.2.2.2.2.2.2.2.2.1 r31.2.2.2.2.2.2.2.2.2.1 r31.2.2.2.2.2.2.2.2.2.2.1 r31.2.2.2.2.2.2.2.2.2.2.2.1 a28 r31.2.2.2.2.2.2.2.2.2.2.2.2)))
    else
    none)
    else
    (e2_1 a17 a18 a19 a20 a21 a22 a23 a24 a25 a26 a27 a29))
noncomputable def G.slices.IndexFunc_Cell (a1 a2 a3 a4 a5 a6 a7 a8 a9 a10 : Int) (a11 : Bool) (a12 : List Int) (a13 : List ty12) : Option (Int × Int × Int × Int × Int × Int × Int × Int × Int × Int × Int × Bool × List Int) :=
(G.slices.IndexFunc_Cell_l0 fu (fun y33 y34 y35 y36 y37 y38 y39 y40 y41 y42 y43 y44 y45 =>
(some (y33, y34, y35, y36, y37, y38, y39, y40, y41, y42, y43, y44, y45))) (fun y46 y47 y48 y49 y50 y51 y52 y53 y54 y55 y56 y57 =>
(some ((-1), y46, y47, y48, y49, y50, y51, y52, y53, y54, y55, y56, y57))) (a13.length : Int) 0 a1 a2 a3 a4 a5 a6 a7 a8 a9 a10 a11 a13 a12)
noncomputable def H235_2 : LoopH := ⟨⟨((.one (.sl 1)) :: (.one (.fn 225 [(0, 0), (1, 0)])) :: (hu 5 (hh :: hh :: (hu 10 [])))), [(113, (ho 10 [.sl 2])), (4, [.hole])], [(3, (.int .i64), .dead), (113, sh1, .ro), (3, (.int .i64), .own)]⟩, (rg 2 5 ++ rg 9 10), [], (rg 0 4 ++ rg 5 14), [], [], [], [0]⟩
noncomputable def k235_2 : List PK := (ki 9 ((.int .u64) :: (ki 2 [.bool, .rowd (.int .i64), .row sh1, .row (.int .i64)])))
noncomputable def W235_2 (m : Nat) (k : Kont (Int × Int × Int × Int × Int × Int × Int × Int × Int × Int × Int × Bool × List Int)) : Cur k235_2 (Option (Int × Int × Int × Int × Int × Int × Int × Int × Int × Int × Int × Bool × List Int)) := G.slices.IndexFunc_Cell_l0 m (exF k .ret ⟨(hu 4 (hh :: (hu 14 []))), [(113, (ho 10 [.sl 1])), (4, [.hole])], [(3, (.int .i64), .dead), (3, (.int .i64), .own)]⟩ (ki 8 ((.int .u64) :: (ki 2 [.bool, .rowd (.int .i64), .row (.int .i64)])))) (exF k (.exit 0) ⟨(hu 19 []), [(113, (ho 10 [.sl 1])), (4, [.hole])], [(3, (.int .i64), .dead), (3, (.int .i64), .own)]⟩ (ki 7 ((.int .u64) :: (ki 2 [.bool, .rowd (.int .i64), .row (.int .i64)]))))
noncomputable def E235_2 (m : Nat) : List Prm → Kont (Int × Int × Int × Int × Int × Int × Int × Int × Int × Int × Int × Bool × List Int) → Option (Int × Int × Int × Int × Int × Int × Int × Int × Int × Int × Int × Bool × List Int) := eL k235_2 (W235_2 m)
theorem ev235_2 (m : Nat) (k : Kont (Int × Int × Int × Int × Int × Int × Int × Int × Int × Int × Int × Bool × List Int)) (a : Args k235_2) : evL Tryz.prog G235 loopNil c235_2 (turn Tryz.prog (2, 1) H235_2 (E235_2 m) k) (H235_2.sk.fl (encP k235_2 a)) = unc k235_2 (W235_2 (m + 1) k) a := by kernel_rfl
theorem ok235_2 (m : Nat) : LoopOk Tryz.prog (2, 1) c235_2 (enter Tryz.prog (2, 1) H235_2 (E235_2 m)) := loop_gen (Fl := W235_2) (G := G235) (L := loopNil) (envCons_good good225 envNil_good) (no_loops (c := c235_2) (by kernel_rfl)) (fun _ _ => by kernel_rfl) ev235_2 m
noncomputable def L235 : LEnv (Int × Int × Int × Int × Int × Int × Int × Int × Int × Int × Int × Bool × List Int) := (loopCons 2 (enter Tryz.prog (2, 1) H235_2 (E235_2 fu)) loopNil)
theorem lq235 : loopsOf c235 = [c235_2] := by kernel_rfl
theorem fr235_2 : firstReg c235_2 = some 2 := by kernel_rfl
theorem le235_2 : L235 2 = (enter Tryz.prog (2, 1) H235_2 (E235_2 fu)) := by kernel_rfl
theorem lm235 : ∀ x ∈ [c235_2], ∀ id, firstReg x = some id → LoopOk Tryz.prog (2, 1) x (L235 id) := (loops_cons fr235_2 le235_2 (ok235_2 fu) loops_nil)
theorem lp235 : ∀ x ∈ loopsOf c235, ∀ id, firstReg x = some id → LoopOk Tryz.prog (2, 1) x (L235 id) := loops_eq lq235 lm235
noncomputable def sg235 : Sg := ⟨⟨[.one (.sl 1), .one (.fn 225 [(0, 0), (1, 0)])], [(113, (ho 10 [.sl 0])), (4, [.hole])], [(3, (.int .i64), .own), (113, sh1, .ro)]⟩, (ki 7 ((.int .u64) :: (ki 2 [.bool, .row (.int .i64), .row sh1]))), ⟨[hh], [(113, (ho 10 [.sl 1])), (4, [.hole])], [(3, (.int .i64), .dead), (3, (.int .i64), .own)]⟩, (ki 8 ((.int .u64) :: (ki 2 [.bool, .rowd (.int .i64), .row (.int .i64)])))⟩
noncomputable def E235 : Fun2 := eOf sg235 G.slices.IndexFunc_Cell
theorem ev235 (a : Args sg235.ks) : evS Tryz.prog G235 L235 (2, 1) [] Tryz.f235 c235 (kOf sg235) (sg235.sk.fl (encP sg235.ks a)) = unc sg235.ks G.slices.IndexFunc_Cell a := by kernel_rfl
theorem good235 : Vm.Good Tryz.prog 235 E235 := good_gen (G := G235) (L := L235) (c := c235) (rn := []) (N := (2, 1)) (envCons_good good225 envNil_good) lp235 Tryz.func235 (by kernel_rfl) (by kernel_rfl) (fun _ => by kernel_rfl) ev235
noncomputable def G155 : Env := (envCons 235 [] E235 (envCons 225 [] E225 envNil))
noncomputable def c155 : Code := bodyOf Tryz.f155
noncomputable def c155_5 : Code := (loopsOf c155).getD 0 .skip
noncomputable def G.slices.DeleteFunc_Cell_l0 : Nat → (Int → Int → Int → Int → Int → Int → Int → Int → Int → Int → Int → Bool → (List ty11) → List Int → Option (Int × Int × Int × Int × Int × Int × Int × Int × Int × Int × Bool × (List ty11) × List Int)) → Int → Int → Int → Int → Int → Int → Int → Int → Int → Int → Int → Int → Bool → (List ty11) → List Int → Option (Int × Int × Int × Int × Int × Int × Int × Int × Int × Int × Bool × (List ty11) × List Int)
  | 0, _, _, _, _, _, _, _, _, _, _, _, _, _, _, _, _ => none
  | m + 1, e5_0, a17, a18, a19, a20, a21, a22, a23, a24, a25, a26, a27, a28, a29, a30, a31 =>
    (bif (decide (a18 < (a30.length : Int))) then
    (bif decide ((0 : Int) ≤ a18 ∧ a18 < (a30.length : Int)) then
    (Option.bind (I.addSession_1 ((nthI a30 a18 df3).1) ((nthI a30 a18 df3).2.1) ((nthI a30 a18 df3).2.2.1) ((nthI a30 a18 df3).2.2.2.1) ((nthI a30 a18 df3).2.2.2.2.1) ((nthI a30 a18 df3).2.2.2.2.2.1) ((nthI a30 a18 df3).2.2.2.2.2.2.1.1) ((nthI a30 a18 df3).2.2.2.2.2.2.1.2) ((nthI a30 a18 df3).2.2.2.2.2.2.2.1) ((nthI a30 a18 df3).2.2.2.2.2.2.2.2.1) a19 a20 a21 a22 a23 a24 a25 a26 a27 a28 a29 a31 ((nthI a30 a18 df3).2.2.2.2.2.2.2.2.2.2)) fun r34 =>
    (bif (!r34.1) then
    (bif decide ((0 : Int) ≤ a17 ∧ a17 < (a30.length : Int)) then
    (let v35 : List ty11 := (a30.set (Int.toNat a17) ((nthI a30 a18 df3).1, ((nthI a30 a18 df3).2.1, ((nthI a30 a18 df3).2.2.1, ((nthI a30 a18 df3).2.2.2.1, ((nthI a30 a18 df3).2.2.2.2.1, ((nthI a30 a18 df3).2.2.2.2.2.1, (((nthI a30 a18 df3).2.2.2.2.2.2.1.1, (nthI a30 a18 df3).2.2.2.2.2.2.1.2), (nthI a30 a18 df3).2.2.2.2.2.2.2))))))))
    (G.slices.DeleteFunc_Cell_l0 m e5_0 (IntKind.wrap .i64 (a17 + 1)) (IntKind.wrap .i64 (a18 + 1)) r34.2.1 r34.2.2.1 r34.2.2.2.1 r34.2.2.2.2.1 r34.2.2.2.2.2.1 r34.2.2.2.2.2.2.1 r34.2.2.2.2.2.2.2.1 r34.2.2.2.2.2.2.2.2.1 r34.2.2.2.2.2.2.2.2.2.1 r34.2.2.2.2.2.2.2.2.2.2.1 r34.2.2.2.2.2.2.2.2.2.2.2.1 v35 r34.2.2.2.2.2.2.2.2.2.2.2.2))
    else
    none)
    else
    (G.slices.DeleteFunc_Cell_l0 m e5_0 a17 (IntKind.wrap .i64 (a18 + 1)) r34.2.1 r34.2.2.1 r34.2.2.2.1 r34.2.2.2.2.1 r34.2.2.2.2.2.1 r34.2.2.2.2.2.2.1 r34.2.2.2.2.2.2.2.1 r34.2.2.2.2.2.2.2.2.1 r34.2.2.2.2.2.2.2.2.2.1 r34.2.2.2.2.2.2.2.2.2.2.1 r34.2.2.2.2.2.2.2.2.2.2.2.1 a30 r34.2.2.2.2.2.2.2.2.2.2.2.2)))
    else
    none)
    else
    (e5_0 a17 a19 a20 a21 a22 a23 a24 a25 a26 a27 a28 a29 a30 a31))
noncomputable def G.slices.DeleteFunc_Cell (a1 a2 a3 a4 a5 a6 a7 a8 a9 a10 : Int) (a11 : Bool) (a12 : List ty11) (a13 : List Int) : Option (Int × Int × Int × Int × Int × Int × Int × Int × Int × Int × Bool × (List ty11) × List Int) :=
(Option.bind (G.slices.IndexFunc_Cell a1 a2 a3 a4 a5 a6 a7 a8 a9 a10 a11 a13 (List.map (Sh.nm sh4) a12)) fun r14 =>
(bif (r14.1 == (-1)) then
(some (r14.2.1, r14.2.2.1, r14.2.2.2.1, r14.2.2.2.2.1, r14.2.2.2.2.2.1, r14.2.2.2.2.2.2.1, r14.2.2.2.2.2.2.2.1, r14.2.2.2.2.2.2.2.2.1, r14.2.2.2.2.2.2.2.2.2.1, r14.2.2.2.2.2.2.2.2.2.2.1, r14.2.2.2.2.2.2.2.2.2.2.2.1, a12, r14.2.2.2.2.2.2.2.2.2.2.2.2))
else
(G.slices.DeleteFunc_Cell_l0 fu (fun y39 y40 y41 y42 y43 y44 y45 y46 y47 y48 y49 y50 y51 y52 =>
(bif decide ((0 : Int) ≤ y39 ∧ y39 ≤ (y51.length : Int) ∧ (y51.length : Int) ≤ (y51.length : Int)) then
(let v53 : List ty11 := (clr y51 (Int.toNat y39) (Int.toNat (y51.length : Int) - Int.toNat y39) (0, (0, (0, (0, (0, (0, ((0, 0), (0, (0, (((none, 0, 0) : HD), [])))))))))))
(bif decide ((0 : Int) ≤ 0 ∧ 0 ≤ y39 ∧ y39 ≤ (v53.length : Int)) then
(some (y40, y41, y42, y43, y44, y45, y46, y47, y48, y49, y50, (List.take (Int.toNat y39) v53), y52))
else
none))
else
none)) r14.1 (IntKind.wrap .i64 (r14.1 + 1)) r14.2.1 r14.2.2.1 r14.2.2.2.1 r14.2.2.2.2.1 r14.2.2.2.2.2.1 r14.2.2.2.2.2.2.1 r14.2.2.2.2.2.2.2.1 r14.2.2.2.2.2.2.2.2.1 r14.2.2.2.2.2.2.2.2.2.1 r14.2.2.2.2.2.2.2.2.2.2.1 r14.2.2.2.2.2.2.2.2.2.2.2.1 a12 r14.2.2.2.2.2.2.2.2.2.2.2.2)))
noncomputable def H155_5 : LoopH := ⟨⟨((.one (.sl 0)) :: (.one (.fn 225 [(0, 0), (1, 0)])) :: (hu 3 (hh :: hh :: (hu 35 [])))), [(113, (ho 10 [.sl 2])), (4, [.hole])], [(113, sh4, .own), (3, (.int .i64), .dead), (3, (.int .i64), .own)]⟩, ([2, 3, 4] ++ rg 7 35), [], ([1, 2, 3] ++ rg 6 36), [], [], [], []⟩
noncomputable def k155_5 : List PK := (ki 9 ((.int .u64) :: (ki 2 [.bool, .row sh4, .rowd (.int .i64), .row (.int .i64)])))
noncomputable def W155_5 (m : Nat) (k : Kont (Int × Int × Int × Int × Int × Int × Int × Int × Int × Int × Bool × (List ty11) × List Int)) : Cur k155_5 (Option (Int × Int × Int × Int × Int × Int × Int × Int × Int × Int × Bool × (List ty11) × List Int)) := G.slices.DeleteFunc_Cell_l0 m (exF k (.exit 0) ⟨((.one (.sl 0)) :: (hu 4 (hh :: (hu 36 [])))), [(113, (ho 10 [.sl 2])), (4, [.hole])], [(113, sh4, .own), (3, (.int .i64), .dead), (3, (.int .i64), .own)]⟩ (ki 8 ((.int .u64) :: (ki 2 [.bool, .row sh4, .rowd (.int .i64), .row (.int .i64)]))))
noncomputable def E155_5 (m : Nat) : List Prm → Kont (Int × Int × Int × Int × Int × Int × Int × Int × Int × Int × Bool × (List ty11) × List Int) → Option (Int × Int × Int × Int × Int × Int × Int × Int × Int × Int × Bool × (List ty11) × List Int) := eL k155_5 (W155_5 m)
theorem ev155_5 (m : Nat) (k : Kont (Int × Int × Int × Int × Int × Int × Int × Int × Int × Int × Bool × (List ty11) × List Int)) (a : Args k155_5) : evL Tryz.prog G155 loopNil c155_5 (turn Tryz.prog (2, 2) H155_5 (E155_5 m) k) (H155_5.sk.fl (encP k155_5 a)) = unc k155_5 (W155_5 (m + 1) k) a := by kernel_rfl
theorem ok155_5 (m : Nat) : LoopOk Tryz.prog (2, 2) c155_5 (enter Tryz.prog (2, 2) H155_5 (E155_5 m)) := loop_gen (Fl := W155_5) (G := G155) (L := loopNil) (envCons_good good235 (envCons_good good225 envNil_good)) (no_loops (c := c155_5) (by kernel_rfl)) (fun _ _ => by kernel_rfl) ev155_5 m
noncomputable def L155 : LEnv (Int × Int × Int × Int × Int × Int × Int × Int × Int × Int × Bool × (List ty11) × List Int) := (loopCons 5 (enter Tryz.prog (2, 2) H155_5 (E155_5 fu)) loopNil)
theorem lq155 : loopsOf c155 = [c155_5] := by kernel_rfl
theorem fr155_5 : firstReg c155_5 = some 5 := by kernel_rfl
theorem le155_5 : L155 5 = (enter Tryz.prog (2, 2) H155_5 (E155_5 fu)) := by kernel_rfl
theorem lm155 : ∀ x ∈ [c155_5], ∀ id, firstReg x = some id → LoopOk Tryz.prog (2, 2) x (L155 id) := (loops_cons fr155_5 le155_5 (ok155_5 fu) loops_nil)
theorem lp155 : ∀ x ∈ loopsOf c155, ∀ id, firstReg x = some id → LoopOk Tryz.prog (2, 2) x (L155 id) := loops_eq lq155 lm155
noncomputable def sg155 : Sg := ⟨⟨[.one (.sl 0), .one (.fn 225 [(0, 0), (1, 0)])], [(113, (ho 10 [.sl 1])), (4, [.hole])], [(113, sh4, .own), (3, (.int .i64), .own)]⟩, (ki 7 ((.int .u64) :: (ki 2 [.bool, .row sh4, .row (.int .i64)]))), ⟨[.one (.sl 2)], [(113, (ho 10 [.sl 3])), (4, [.hole])], [(113, sh4, .dead), (3, (.int .i64), .dead), (113, sh4, .own), (3, (.int .i64), .own)]⟩, (ki 7 ((.int .u64) :: (ki 2 [.bool, .rowd sh4, .rowd (.int .i64), .row sh4, .row (.int .i64)])))⟩
noncomputable def E155 : Fun2 := eOf sg155 G.slices.DeleteFunc_Cell
theorem ev155 (a : Args sg155.ks) : evS Tryz.prog G155 L155 (2, 2) [0] Tryz.f155 c155 (kOf sg155) (sg155.sk.fl (encP sg155.ks a)) = unc sg155.ks G.slices.DeleteFunc_Cell a := by kernel_rfl
theorem good155 : Vm.Good Tryz.prog 155 E155 := good_gen (G := G155) (L := L155) (c := c155) (rn := [0]) (N := (2, 2)) (envCons_good good235 (envCons_good good225 envNil_good)) lp155 Tryz.func155 (by kernel_rfl) (by kernel_rfl) (fun _ => by kernel_rfl) ev155
noncomputable def G223 : Env := (envCons 133 [] E133 envNil)
noncomputable def c223 : Code := bodyOf Tryz.f223
noncomputable def c223_3 : Code := (loopsOf c223).getD 0 .skip
noncomputable def G.slices.BinarySearchFunc_Cell_l0 : Nat → (Int → Int → Int → Int → Int → Int → Int → Int → Int → Int → Int → Int → (List ty12) → List Int → Option (Int × Bool)) → Int → Int → Int → Int → Int → Int → Int → Int → Int → Int → Int → Int → Int → (List ty12) → List Int → Option (Int × Bool)
  | 0, _, _, _, _, _, _, _, _, _, _, _, _, _, _, _, _ => none
  | m + 1, e3_0, a14, a15, a16, a17, a18, a19, a20, a21, a22, a23, a24, a25, a26, a27, a28 =>
    (bif (decide (a15 < a16)) then
    (bif decide ((0 : Int) ≤ 1) then
    (let v33 : Int := (IntKind.wrap .i64 (Int.fdiv (IntKind.wrap .u64 (IntKind.wrap .i64 (a15 + a16))) (2 ^ min (Int.toNat 1) (IntKind.bits .u64))))
    (bif decide ((0 : Int) ≤ v33 ∧ v33 < (a27.length : Int)) then
    (Option.bind (I.compareCells ((nthI a27 v33 df1).1) ((nthI a27 v33 df1).2.1) ((nthI a27 v33 df1).2.2.1) ((nthI a27 v33 df1).2.2.2.1) ((nthI a27 v33 df1).2.2.2.2.1) ((nthI a27 v33 df1).2.2.2.2.2.1) ((nthI a27 v33 df1).2.2.2.2.2.2.1.1) ((nthI a27 v33 df1).2.2.2.2.2.2.1.2) ((nthI a27 v33 df1).2.2.2.2.2.2.2.1) ((nthI a27 v33 df1).2.2.2.2.2.2.2.2.1) a17 a18 a19 a20 a21 a22 a23 a24 a25 a26 ((nthI a27 v33 df1).2.2.2.2.2.2.2.2.2) a28) fun r34 =>
    (bif (decide (r34 < 0)) then
    (G.slices.BinarySearchFunc_Cell_l0 m e3_0 a14 (IntKind.wrap .i64 (v33 + 1)) a16 a17 a18 a19 a20 a21 a22 a23 a24 a25 a26 a27 a28)
    else
    (G.slices.BinarySearchFunc_Cell_l0 m e3_0 a14 a15 v33 a17 a18 a19 a20 a21 a22 a23 a24 a25 a26 a27 a28)))
    else
    none))
    else
    none)
    else
    (e3_0 a14 a15 a17 a18 a19 a20 a21 a22 a23 a24 a25 a26 a27 a28))
noncomputable def G.slices.BinarySearchFunc_Cell (a1 a2 a3 a4 a5 a6 a7 a8 a9 a10 : Int) (a11 : List ty12) (a12 : List Int) : Option (Int × Bool) :=
(let v13 : Int := (a11.length : Int)
(G.slices.BinarySearchFunc_Cell_l0 fu (fun y37 y38 y39 y40 y41 y42 y43 y44 y45 y46 y47 y48 y49 y50 =>
(bif (decide (y38 < y37)) then
(bif decide ((0 : Int) ≤ y38 ∧ y38 < (y49.length : Int)) then
(Option.bind (I.compareCells ((nthI y49 y38 df1).1) ((nthI y49 y38 df1).2.1) ((nthI y49 y38 df1).2.2.1) ((nthI y49 y38 df1).2.2.2.1) ((nthI y49 y38 df1).2.2.2.2.1) ((nthI y49 y38 df1).2.2.2.2.2.1) ((nthI y49 y38 df1).2.2.2.2.2.2.1.1) ((nthI y49 y38 df1).2.2.2.2.2.2.1.2) ((nthI y49 y38 df1).2.2.2.2.2.2.2.1) ((nthI y49 y38 df1).2.2.2.2.2.2.2.2.1) y39 y40 y41 y42 y43 y44 y45 y46 y47 y48 ((nthI y49 y38 df1).2.2.2.2.2.2.2.2.2) y50) fun r52 =>
(some (y38, (r52 == 0))))
else
none)
else
(some (y38, false)))) v13 0 v13 a1 a2 a3 a4 a5 a6 a7 a8 a9 a10 a11 a12))
noncomputable def H223_3 : LoopH := ⟨⟨((.one (.sl 0)) :: (.one (.unk)) :: (.one (.fn 133 [])) :: (.one (.unk)) :: (.one (.ptr 0 0)) :: (hu 3 (hh :: hh :: hh :: (hu 38 [])))), [(113, (ho 10 [.sl 1]))], [(113, sh1, .ro), (3, (.int .i64), .ro)]⟩, ([1, 3, 5, 6, 7] ++ rg 11 38), [], ([1, 3, 5] ++ rg 10 39), [], [], [], []⟩
noncomputable def k223_3 : List PK := (ki 10 ((.int .u64) :: (ki 2 [.row sh1, .row (.int .i64)])))
noncomputable def W223_3 (m : Nat) (k : Kont (Int × Bool)) : Cur k223_3 (Option (Int × Bool)) := G.slices.BinarySearchFunc_Cell_l0 m (exF k (.exit 0) ⟨((.one (.sl 0)) :: (.one (.unk)) :: (.one (.fn 133 [])) :: (.one (.unk)) :: (.one (.ptr 0 0)) :: (hu 3 (hh :: hh :: (hu 39 [])))), [(113, (ho 10 [.sl 1]))], [(113, sh1, .ro), (3, (.int .i64), .ro)]⟩ (ki 9 ((.int .u64) :: (ki 2 [.row sh1, .row (.int .i64)]))))
noncomputable def E223_3 (m : Nat) : List Prm → Kont (Int × Bool) → Option (Int × Bool) := eL k223_3 (W223_3 m)
theorem ev223_3 (m : Nat) (k : Kont (Int × Bool)) (a : Args k223_3) : evL Tryz.prog G223 loopNil c223_3 (turn Tryz.prog (0, 0) H223_3 (E223_3 m) k) (H223_3.sk.fl (encP k223_3 a)) = unc k223_3 (W223_3 (m + 1) k) a := by kernel_rfl
theorem ok223_3 (m : Nat) : LoopOk Tryz.prog (0, 0) c223_3 (enter Tryz.prog (0, 0) H223_3 (E223_3 m)) := loop_gen (Fl := W223_3) (G := G223) (L := loopNil) (envCons_good good133 envNil_good) (no_loops (c := c223_3) (by kernel_rfl)) (fun _ _ => by kernel_rfl) ev223_3 m
noncomputable def L223 : LEnv (Int × Bool) := (loopCons 3 (enter Tryz.prog (0, 0) H223_3 (E223_3 fu)) loopNil)
theorem lq223 : loopsOf c223 = [c223_3] := by kernel_rfl
theorem fr223_3 : firstReg c223_3 = some 3 := by kernel_rfl
theorem le223_3 : L223 3 = (enter Tryz.prog (0, 0) H223_3 (E223_3 fu)) := by kernel_rfl
theorem lm223 : ∀ x ∈ [c223_3], ∀ id, firstReg x = some id → LoopOk Tryz.prog (0, 0) x (L223 id) := (loops_cons fr223_3 le223_3 (ok223_3 fu) loops_nil)
theorem lp223 : ∀ x ∈ loopsOf c223, ∀ id, firstReg x = some id → LoopOk Tryz.prog (0, 0) x (L223 id) := loops_eq lq223 lm223
noncomputable def sg223 : Sg := ⟨⟨[.one (.sl 0), .agg (ho 10 [.sl 1]), .one (.fn 133 [])], [], [(113, sh1, .ro), (3, (.int .i64), .ro)]⟩, (ki 7 ((.int .u64) :: (ki 2 [.row sh1, .row (.int .i64)]))), ⟨[hh, hh], [], []⟩, [.int .i64, .bool]⟩
noncomputable def E223 : Fun2 := eOf sg223 G.slices.BinarySearchFunc_Cell
theorem ev223 (a : Args sg223.ks) : evS Tryz.prog G223 L223 (0, 0) [] Tryz.f223 c223 (kOf sg223) (sg223.sk.fl (encP sg223.ks a)) = unc sg223.ks G.slices.BinarySearchFunc_Cell a := by kernel_rfl
theorem good223 : Vm.Good Tryz.prog 223 E223 := good_gen (G := G223) (L := L223) (c := c223) (rn := []) (N := (0, 0)) (envCons_good good133 envNil_good) lp223 Tryz.func223 (by kernel_rfl) (by kernel_rfl) (fun _ => by kernel_rfl) ev223
noncomputable def G159 : Env := envNil
noncomputable def c159 : Code := bodyOf Tryz.f159
noncomputable def I.Cell_isFull (a1 a2 a3 a4 a5 a6 a7 a8 a9 a10 : Int) : Option Bool :=
(some (decide (1000000 < a6)))
noncomputable def sg159 : Sg := ⟨⟨[.agg (ho 10 [.hs])], [], []⟩, (ki 7 ((.int .u64) :: (ki 2 []))), ⟨[hh], [], []⟩, [.bool]⟩
noncomputable def E159 : Fun2 := eOf sg159 I.Cell_isFull
theorem ev159 (a : Args sg159.ks) : evS Tryz.prog G159 loopNil (0, 0) [] Tryz.f159 c159 (kOf sg159) (sg159.sk.fl (encP sg159.ks a)) = unc sg159.ks I.Cell_isFull a := by kernel_rfl
theorem good159 : Vm.Good Tryz.prog 159 E159 := good_gen (G := G159) (L := loopNil) (c := c159) (rn := []) (N := (0, 0)) envNil_good (no_loops (c := c159) (by kernel_rfl)) Tryz.func159 (by kernel_rfl) (by kernel_rfl) (fun _ => by kernel_rfl) ev159
noncomputable def G140 : Env := (envConsH 155 [0] E155 (envCons 223 [] E223 (envCons 224 [0, 2] E224 (envCons 159 [] E159 envNil))))
noncomputable def c140 : Code := bodyOf Tryz.f140
noncomputable def c140_2 : Code := (loopsOf c140).getD 0 .skip
noncomputable def I.addSession_l0 : Nat → (Int → Int → Int → Int → Int → Int → Int → Int → Int → Int → (List ty12) → List Int → Option (Bool × (List ty12))) → Int → Int → Int → Int → Int → Int → Int → Int → Int → Int → Bool → (List ty12) → List Int → Option (Bool × (List ty12))
  | 0, _, _, _, _, _, _, _, _, _, _, _, _, _, _ => none
  | m + 1, e2_0, a13, a14, a15, a16, a17, a18, a19, a20, a21, a22, a23, a24, a25 =>
    (bif a23 then
    (anyH sh1 a24 fun z26 =>
    (Option.bind (G.slices.DeleteFunc_Cell a13 a14 a15 a16 a17 a18 a19 a20 a21 a22 false z26 a25) fun r27 =>
    (thaw sh1 z26 r27.2.2.2.2.2.2.2.2.2.2.2.1
    (I.addSession_l0 m e2_0 r27.1 r27.2.1 r27.2.2.1 r27.2.2.2.1 r27.2.2.2.2.1 r27.2.2.2.2.2.1 r27.2.2.2.2.2.2.1 r27.2.2.2.2.2.2.2.1 r27.2.2.2.2.2.2.2.2.1 r27.2.2.2.2.2.2.2.2.2.1 r27.2.2.2.2.2.2.2.2.2.2.1 (List.map (Sh.bare sh1) r27.2.2.2.2.2.2.2.2.2.2.2.1) r27.2.2.2.2.2.2.2.2.2.2.2.2))))
    else
    (e2_0 a13 a14 a15 a16 a17 a18 a19 a20 a21 a22 a24 a25))
noncomputable def I.addSession (a1 a2 a3 a4 a5 a6 a7 a8 a9 a10 : Int) (a11 : List ty12) (a12 : List Int) : Option (Bool × (List ty12)) :=
(I.addSession_l0 fu (fun y28 y29 y30 y31 y32 y33 y34 y35 y36 y37 y38 y39 =>
(Option.bind (G.slices.BinarySearchFunc_Cell y28 y29 y30 y31 y32 y33 y34 y35 y36 y37 y38 y39) fun r40 =>
(let v41 : List ty12 := [(y28, (y29, (y30, (y31, (y32, (y33, ((y34, y35), (y36, (y37, y39)))))))))]
(Option.bind (X.insert r40.1 y38 v41) fun r42 =>
(Option.bind (I.Cell_isFull y28 y29 y30 y31 y32 y33 y34 y35 y36 y37) fun r43 =>
(some ((!r43), r42))))))) a1 a2 a3 a4 a5 a6 a7 a8 a9 a10 true a11 a12)
noncomputable def H140_2 : LoopH := ⟨⟨((.one (.sl 2)) :: (hu 2 ((.one (.ptr 0 0)) :: (hu 2 ((.one (.ptr 1 0)) :: (hu 21 [])))))), [(113, (ho 10 [.sl 3])), (4, [.hole])], [(113, sh1, .dead), (3, (.int .i64), .dead), (113, sh1, .own), (3, (.int .i64), .own)]⟩, ([1, 2, 4, 5] ++ rg 7 21), [], ([1, 2] ++ rg 6 22), [], [], [], [0, 1]⟩
noncomputable def k140_2 : List PK := (ki 7 ((.int .u64) :: (ki 2 [.bool, .rowd sh1, .rowd (.int .i64), .row sh1, .row (.int .i64)])))
noncomputable def W140_2 (m : Nat) (k : Kont (Bool × (List ty12))) : Cur k140_2 (Option (Bool × (List ty12))) := I.addSession_l0 m (exF k (.exit 0) ⟨((.one (.sl 2)) :: (hu 2 ((.one (.ptr 0 0)) :: (hu 24 [])))), [(113, (ho 10 [.sl 3]))], [(113, sh1, .dead), (3, (.int .i64), .dead), (113, sh1, .own), (3, (.int .i64), .own)]⟩ (ki 7 ((.int .u64) :: (ki 2 [.rowd sh1, .rowd (.int .i64), .row sh1, .row (.int .i64)]))))
noncomputable def E140_2 (m : Nat) : List Prm → Kont (Bool × (List ty12)) → Option (Bool × (List ty12)) := eL k140_2 (W140_2 m)
theorem ev140_2 (m : Nat) (k : Kont (Bool × (List ty12))) (a : Args k140_2) : evL Tryz.prog G140 loopNil c140_2 (turn Tryz.prog (0, 2) H140_2 (E140_2 m) k) (H140_2.sk.fl (encP k140_2 a)) = unc k140_2 (W140_2 (m + 1) k) a := by kernel_rfl
theorem ok140_2 (m : Nat) : LoopOk Tryz.prog (0, 2) c140_2 (enter Tryz.prog (0, 2) H140_2 (E140_2 m)) := loop_gen (Fl := W140_2) (G := G140) (L := loopNil) (envConsH_good good155 (envCons_good good223 (envCons_good good224 (envCons_good good159 envNil_good)))) (no_loops (c := c140_2) (by kernel_rfl)) (fun _ _ => by kernel_rfl) ev140_2 m
noncomputable def L140 : LEnv (Bool × (List ty12)) := (loopCons 2 (enter Tryz.prog (0, 2) H140_2 (E140_2 fu)) loopNil)
theorem lq140 : loopsOf c140 = [c140_2] := by kernel_rfl
theorem fr140_2 : firstReg c140_2 = some 2 := by kernel_rfl
theorem le140_2 : L140 2 = (enter Tryz.prog (0, 2) H140_2 (E140_2 fu)) := by kernel_rfl
theorem lm140 : ∀ x ∈ [c140_2], ∀ id, firstReg x = some id → LoopOk Tryz.prog (0, 2) x (L140 id) := (loops_cons fr140_2 le140_2 (ok140_2 fu) loops_nil)
theorem lp140 : ∀ x ∈ loopsOf c140, ∀ id, firstReg x = some id → LoopOk Tryz.prog (0, 2) x (L140 id) := loops_eq lq140 lm140
noncomputable def sg140 : Sg := ⟨⟨[.one (.sl 0), .agg (ho 10 [.sl 1])], [], [(113, sh1, .own), (3, (.int .i64), .own)]⟩, (ki 7 ((.int .u64) :: (ki 2 [.row sh1, .row (.int .i64)]))), ⟨[.one (.sl 2), hh], [], [(113, sh1, .dead), (3, (.int .i64), .dead), (113, sh1, .own)]⟩, [.bool, .rowd sh1, .rowd (.int .i64), .row sh1]⟩
noncomputable def E140 : Fun2 := eOf sg140 I.addSession
theorem ev140 (a : Args sg140.ks) : evS Tryz.prog G140 L140 (0, 2) [] Tryz.f140 c140 (kOf sg140) (sg140.sk.fl (encP sg140.ks a)) = unc sg140.ks I.addSession a := by kernel_rfl
theorem good140 : Vm.Good Tryz.prog 140 E140 := good_gen (G := G140) (L := L140) (c := c140) (rn := []) (N := (0, 2)) (envConsH_good good155 (envCons_good good223 (envCons_good good224 (envCons_good good159 envNil_good)))) lp140 Tryz.func140 (by kernel_rfl) (by kernel_rfl) (fun _ => by kernel_rfl) ev140
noncomputable def G159_i1 : Env := envNil
noncomputable def c159_i1 : Code := bodyOf Tryz.f159
noncomputable def I.Cell_isFull_i1 (a1 a2 a3 a4 a5 a6 a7 a8 a9 a10 : Int) (a11 : List Int) : Option Bool :=
(some (decide (1000000 < a6)))
noncomputable def sg159_i1 : Sg := ⟨⟨[.agg (ho 10 [.sl 0])], [], [(3, (.int .i64), .ro)]⟩, (ki 7 ((.int .u64) :: (ki 2 [.row (.int .i64)]))), ⟨[hh], [], []⟩, [.bool]⟩
noncomputable def E159_i1 : Fun2 := eOf sg159_i1 I.Cell_isFull_i1
theorem ev159_i1 (a : Args sg159_i1.ks) : evS Tryz.prog G159_i1 loopNil (0, 0) [] Tryz.f159 c159_i1 (kOf sg159_i1) (sg159_i1.sk.fl (encP sg159_i1.ks a)) = unc sg159_i1.ks I.Cell_isFull_i1 a := by kernel_rfl
theorem good159_i1 : Vm.Good Tryz.prog 159 E159_i1 := good_gen (G := G159_i1) (L := loopNil) (c := c159_i1) (rn := []) (N := (0, 0)) envNil_good (no_loops (c := c159_i1) (by kernel_rfl)) Tryz.func159 (by kernel_rfl) (by kernel_rfl) (fun _ => by kernel_rfl) ev159_i1
noncomputable def G139 : Env := (envCons 223 [] E223 (envCons 224 [0, 2] E224 (envCons 158 [] E158 (envCons 159 [] E159_i1 envNil))))
noncomputable def c139 : Code := bodyOf Tryz.f139
noncomputable def I.addPlain (a1 a2 a3 a4 a5 a6 a7 a8 a9 a10 : Int) (a11 : List ty12) (a12 : List Int) : Option (Bool × (List ty12)) :=
(Option.bind (G.slices.BinarySearchFunc_Cell a1 a2 a3 a4 a5 a6 a7 a8 a9 a10 a11 a12) fun r13 =>
(bif (!r13.2) then
(let v14 : List ty12 := [(a1, (a2, (a3, (a4, (a5, (a6, ((a7, a8), (a9, (a10, a12)))))))))]
(Option.bind (X.insert r13.1 a11 v14) fun r15 =>
(some (true, r15))))
else
(bif decide ((0 : Int) ≤ r13.1 ∧ r13.1 < (a11.length : Int)) then
(Option.bind (I.merged ((nthI a11 r13.1 df1).1) ((nthI a11 r13.1 df1).2.1) ((nthI a11 r13.1 df1).2.2.1) ((nthI a11 r13.1 df1).2.2.2.1) ((nthI a11 r13.1 df1).2.2.2.2.1) ((nthI a11 r13.1 df1).2.2.2.2.2.1) ((nthI a11 r13.1 df1).2.2.2.2.2.2.1.1) ((nthI a11 r13.1 df1).2.2.2.2.2.2.1.2) ((nthI a11 r13.1 df1).2.2.2.2.2.2.2.1) ((nthI a11 r13.1 df1).2.2.2.2.2.2.2.2.1) a1 a2 a3 a4 a5 a6 a7 a8 a9 a10 ((nthI a11 r13.1 df1).2.2.2.2.2.2.2.2.2) a12) fun r16 =>
(bif decide ((0 : Int) ≤ r13.1 ∧ r13.1 < (a11.length : Int)) then
(let v17 : List ty12 := (a11.set (Int.toNat r13.1) (r16.1, (r16.2.1, (r16.2.2.1, (r16.2.2.2.1, (r16.2.2.2.2.1, (r16.2.2.2.2.2.1, ((r16.2.2.2.2.2.2.1, r16.2.2.2.2.2.2.2.1), (r16.2.2.2.2.2.2.2.2.1, (r16.2.2.2.2.2.2.2.2.2.1, r16.2.2.2.2.2.2.2.2.2.2))))))))))
(bif decide ((0 : Int) ≤ r13.1 ∧ r13.1 < (v17.length : Int)) then
(Option.bind (I.Cell_isFull_i1 ((nthI v17 r13.1 df1).1) ((nthI v17 r13.1 df1).2.1) ((nthI v17 r13.1 df1).2.2.1) ((nthI v17 r13.1 df1).2.2.2.1) ((nthI v17 r13.1 df1).2.2.2.2.1) ((nthI v17 r13.1 df1).2.2.2.2.2.1) ((nthI v17 r13.1 df1).2.2.2.2.2.2.1.1) ((nthI v17 r13.1 df1).2.2.2.2.2.2.1.2) ((nthI v17 r13.1 df1).2.2.2.2.2.2.2.1) ((nthI v17 r13.1 df1).2.2.2.2.2.2.2.2.1) ((nthI v17 r13.1 df1).2.2.2.2.2.2.2.2.2)) fun r18 =>
(some ((!r18), v17)))
else
none))
else
none))
else
none)))
noncomputable def sg139 : Sg := ⟨⟨[.one (.sl 0), .agg (ho 10 [.sl 1])], [], [(113, sh1, .own), (3, (.int .i64), .own)]⟩, (ki 7 ((.int .u64) :: (ki 2 [.row sh1, .row (.int .i64)]))), ⟨[.one (.sl 2), hh], [], [(113, sh1, .dead), (3, (.int .i64), .dead), (113, sh1, .own)]⟩, [.bool, .rowd sh1, .rowd (.int .i64), .row sh1]⟩
noncomputable def E139 : Fun2 := eOf sg139 I.addPlain
theorem ev139 (a : Args sg139.ks) : evS Tryz.prog G139 loopNil (0, 2) [0, 1] Tryz.f139 c139 (kOf sg139) (sg139.sk.fl (encP sg139.ks a)) = unc sg139.ks I.addPlain a := by kernel_rfl
theorem good139 : Vm.Good Tryz.prog 139 E139 := good_gen (G := G139) (L := loopNil) (c := c139) (rn := [0, 1]) (N := (0, 2)) (envCons_good good223 (envCons_good good224 (envCons_good good158 (envCons_good good159_i1 envNil_good)))) (no_loops (c := c139) (by kernel_rfl)) Tryz.func139 (by kernel_rfl) (by kernel_rfl) (fun _ => by kernel_rfl) ev139
noncomputable def G58 : Env := (envCons 137 [] E137 (envCons 141 [] E141 (envCons 142 [] E142 (envCons 140 [0, 11] E140 (envCons 139 [0, 11] E139 envNil)))))
noncomputable def c58 : Code := bodyOf Tryz.f58
noncomputable def c58_6 : Code := (loopsOf c58).getD 0 .skip
noncomputable def I.cellsAdd_l0b : Nat → (Bool → (List ty12) → Option (Bool × (List ty12))) → ((List ty12) → Option (Bool × (List ty12))) → Int → Int → Int → Int → Int → Int → (List ty12) → (List (Int × Int)) → Option (Bool × (List ty12))
  | 0, _, _, _, _, _, _, _, _, _, _ => none
  | m + 1, e6_0, e6_1, a32, a33, a34, a35, a36, a37, a38, a39 =>
    (bif (decide (a37 < a36)) then
    (bif decide ((0 : Int) ≤ a37 ∧ a37 < (a39.length : Int)) then
    (Option.bind (I.aggOf [a35]) fun r41 =>
    (Option.bind (I.addPlain a32 a33 ((nthI a39 a37 df2).1) ((nthI a39 a37 df2).2) a34 r41.1 r41.2.1 r41.2.2.1 r41.2.2.2.1 r41.2.2.2.2.1 a38 r41.2.2.2.2.2) fun r42 =>
    (bif (!r42.1) then
    (e6_0 false r42.2)
    else
    (I.cellsAdd_l0b m e6_0 e6_1 a32 a33 a34 a35 a36 (IntKind.wrap .i64 (a37 + 1)) r42.2 a39))))
    else
    none)
    else
    (e6_1 a38))
noncomputable def I.cellsAdd_l0 : Nat → (Bool → (List ty12) → Option (Bool × (List ty12))) → ((List ty12) → Option (Bool × (List ty12))) → Int → Int → Int → Int → Int → Int → (List ty12) → (List (Int × Int)) → Option (Bool × (List ty12))
  | 0, _, _, _, _, _, _, _, _, _, _ => none
  | m + 1, e6_0, e6_1, a13, a14, a15, a16, a17, a18, a19, a20 =>
    (bif (decide (a18 < a17)) then
    (bif decide ((0 : Int) ≤ a18 ∧ a18 < (a20.length : Int)) then
    (Option.bind (I.aggOf [a16]) fun r22 =>
    (Option.bind (I.addSession a13 a14 ((nthI a20 a18 df2).1) ((nthI a20 a18 df2).2) a15 r22.1 r22.2.1 r22.2.2.1 r22.2.2.2.1 r22.2.2.2.2.1 a19 r22.2.2.2.2.2) fun r23 =>
    (bif (!r23.1) then
    (e6_0 false r23.2)
    else
    (I.cellsAdd_l0 m e6_0 e6_1 a13 a14 a15 a16 a17 (IntKind.wrap .i64 (a18 + 1)) r23.2 a20))))
    else
    none)
    else
    (e6_1 a19))
noncomputable def I.cellsAdd (a1 a2 a3 a4 a5 a6 a7 a8 : Int) (a9 : List ty12) : Option (Bool × (List ty12)) :=
(Option.bind (I.chosen a9) fun r10 =>
(bif (a2 == 3) then
(Option.bind (I.winsOf a2 a3 a4 a6) fun r11 =>
(I.cellsAdd_l0 fu (fun y25 y26 =>
(some (y25, []))) (fun y27 =>
(bif (decide (10000 < (y27.length : Int))) then
(some (false, []))
else
(some (true, y27)))) a1 a5 a7 a8 (r11.length : Int) 0 r10 r11))
else
(Option.bind (I.winsOf a2 a3 a4 a6) fun r30 =>
(I.cellsAdd_l0b fu (fun y44 y45 =>
(some (y44, []))) (fun y46 =>
(bif (decide (10000 < (y46.length : Int))) then
(some (false, []))
else
(some (true, y46)))) a1 a5 a7 a8 (r30.length : Int) 0 r10 r30))))
noncomputable def H58_6 : LoopH := ⟨⟨((.one (.unk)) :: hh :: (.one (.unk)) :: hh :: (.one (.unk)) :: hh :: hh :: (hu 9 ((.one (.sl 0)) :: (.one (.unk)) :: (.one (.fn 140 [])) :: (hu 9 ((.one (.sl 1)) :: hh :: hh :: (hu 27 [])))))), [], [(113, sh1, .own), (107, sh2, .own)]⟩, ([0, 2, 4] ++ rg 7 9 ++ [17] ++ rg 19 9 ++ rg 31 27), [], (rg 0 14 ++ rg 17 41), [], [], [], []⟩
noncomputable def k58_6 : List PK := (ki 6 [.row sh1, .row sh2])
noncomputable def W58_6 (m : Nat) (k : Kont (Bool × (List ty12))) : Cur k58_6 (Option (Bool × (List ty12))) := I.cellsAdd_l0 m (exF k .ret ⟨(hu 14 (hh :: hh :: (.one (.sl 0)) :: (hu 41 []))), [], [(113, sh1, .own)]⟩ [.nil, .bool, .row sh1]) (exF k (.exit 0) ⟨(hu 16 ((.one (.sl 0)) :: (hu 41 []))), [], [(113, sh1, .own)]⟩ [.row sh1])
noncomputable def E58_6 (m : Nat) : List Prm → Kont (Bool × (List ty12)) → Option (Bool × (List ty12)) := eL k58_6 (W58_6 m)
noncomputable def H58_6b : LoopH := ⟨⟨((.one (.unk)) :: hh :: (.one (.unk)) :: hh :: (.one (.unk)) :: hh :: hh :: (hu 9 ((.one (.sl 0)) :: (.one (.unk)) :: (.one (.fn 139 [])) :: (hu 9 ((.one (.sl 1)) :: hh :: hh :: (hu 27 [])))))), [], [(113, sh1, .own), (107, sh2, .own)]⟩, ([0, 2, 4] ++ rg 7 9 ++ [17] ++ rg 19 9 ++ rg 31 27), [], (rg 0 14 ++ rg 17 41), [], [], [], []⟩
noncomputable def k58_6b : List PK := (ki 6 [.row sh1, .row sh2])
noncomputable def W58_6b (m : Nat) (k : Kont (Bool × (List ty12))) : Cur k58_6b (Option (Bool × (List ty12))) := I.cellsAdd_l0b m (exF k .ret ⟨(hu 14 (hh :: hh :: (.one (.sl 0)) :: (hu 41 []))), [], [(113, sh1, .own)]⟩ [.nil, .bool, .row sh1]) (exF k (.exit 0) ⟨(hu 16 ((.one (.sl 0)) :: (hu 41 []))), [], [(113, sh1, .own)]⟩ [.row sh1])
noncomputable def E58_6b (m : Nat) : List Prm → Kont (Bool × (List ty12)) → Option (Bool × (List ty12)) := eL k58_6b (W58_6b m)
theorem ev58_6b (m : Nat) (k : Kont (Bool × (List ty12))) (a : Args k58_6b) : evL Tryz.prog G58 loopNil c58_6 (turnA Tryz.prog (0, 0) H58_6b (E58_6b m) noA k) (H58_6b.sk.fl (encP k58_6b a)) = unc k58_6b (W58_6b (m + 1) k) a := by kernel_rfl
theorem ok58_6b (m : Nat) : LoopN Tryz.prog (0, 0) c58_6 (m + 0) (enterA Tryz.prog (0, 0) H58_6b (E58_6b m) noA) := loop_genA (Fl := W58_6b) (G := G58) (L := loopNil) noA_ok (envCons_good good137 (envCons_good good141 (envCons_good good142 (envCons_good good140 (envCons_good good139 envNil_good))))) (no_loops (c := c58_6) (by kernel_rfl)) (fun _ _ => by kernel_rfl) ev58_6b m
noncomputable def A58_6b : St → Kont (Bool × (List ty12)) → Option (Bool × (List ty12)) := enterA Tryz.prog (0, 0) H58_6b (E58_6b fu) noA
theorem ev58_6 (m : Nat) (k : Kont (Bool × (List ty12))) (a : Args k58_6) : evL Tryz.prog G58 loopNil c58_6 (turnA Tryz.prog (0, 0) H58_6 (E58_6 m) A58_6b k) (H58_6.sk.fl (encP k58_6 a)) = unc k58_6 (W58_6 (m + 1) k) a := by kernel_rfl
theorem ok58_6 (m : Nat) : LoopN Tryz.prog (0, 0) c58_6 (m + (fu + 0)) (enterA Tryz.prog (0, 0) H58_6 (E58_6 m) A58_6b) := loop_genA (Fl := W58_6) (G := G58) (L := loopNil) (ok58_6b fu) (envCons_good good137 (envCons_good good141 (envCons_good good142 (envCons_good good140 (envCons_good good139 envNil_good))))) (no_loops (c := c58_6) (by kernel_rfl)) (fun _ _ => by kernel_rfl) ev58_6 m
noncomputable def A58_6 : St → Kont (Bool × (List ty12)) → Option (Bool × (List ty12)) := enterA Tryz.prog (0, 0) H58_6 (E58_6 fu) A58_6b
noncomputable def L58 : LEnv (Bool × (List ty12)) := (loopCons 6 A58_6 loopNil)
theorem lq58 : loopsOf c58 = [c58_6] := by kernel_rfl
theorem fr58_6 : firstReg c58_6 = some 6 := by kernel_rfl
theorem le58_6 : L58 6 = A58_6 := by kernel_rfl
theorem lm58 : ∀ x ∈ [c58_6], ∀ id, firstReg x = some id → LoopOk Tryz.prog (0, 0) x (L58 id) := (loops_cons fr58_6 le58_6 (ok58_6 fu).ok loops_nil)
theorem lp58 : ∀ x ∈ loopsOf c58, ∀ id, firstReg x = some id → LoopOk Tryz.prog (0, 0) x (L58 id) := loops_eq lq58 lm58
noncomputable def sg58 : Sg := ⟨⟨[.one (.sl 0), hh, .agg (ho 3 []), hh, hh, hh, hh], [], [(113, sh1, .ro)]⟩, (ki 8 [.row sh1]), ⟨[.one (.sl 0), hh], [], [(113, sh1, .own)]⟩, [.bool, .row sh1]⟩
noncomputable def E58 : Fun2 := eOf sg58 I.cellsAdd
theorem ev58 (a : Args sg58.ks) : evS Tryz.prog G58 L58 (0, 0) [] Tryz.f58 c58 (kOf sg58) (sg58.sk.fl (encP sg58.ks a)) = unc sg58.ks I.cellsAdd a := by kernel_rfl
theorem good58 : Vm.Good Tryz.prog 58 E58 := good_gen (G := G58) (L := L58) (c := c58) (rn := []) (N := (0, 0)) (envCons_good good137 (envCons_good good141 (envCons_good good142 (envCons_good good140 (envCons_good good139 envNil_good))))) lp58 Tryz.func58 (by kernel_rfl) (by kernel_rfl) (fun _ => by kernel_rfl) ev58
noncomputable def G12 : Env := (envCons 54 [] E54 (envCons 55 [] E55 (envCons 56 [] E56 (envCons 57 [] E57 (envCons 58 [] E58 envNil)))))
noncomputable def c12 : Code := bodyOf Tryz.f12
noncomputable def I.CellsAdd (a1 a2 a3 a4 a5 a6 a7 a8 : Int) (a9 : List ty12) : Option (Bool × (List ty12)) :=
(Option.bind (I.areCells a9) fun r10 =>
(bif (!r10) then
(some (false, []))
else
(Option.bind (I.isWinDef a2 a3 a4) fun r11 =>
(bif (!r11) then
(some (false, []))
else
(Option.bind (I.isCellPlace a1 a5 a7) fun r12 =>
(bif (!r12) then
(some (false, []))
else
(Option.bind (I.isTime a6) fun r13 =>
(bif (!r13) then
(some (false, []))
else
(Option.bind (I.cellsAdd a1 a2 a3 a4 a5 a6 a7 a8 a9) fun r14 =>
(some (r14.1, r14.2)))))))))))
noncomputable def sg12 : Sg := ⟨⟨[.one (.sl 0), hh, .agg (ho 3 []), hh, hh, hh, hh], [], [(113, sh1, .ro)]⟩, (ki 8 [.row sh1]), ⟨[.one (.sl 0), hh], [], [(113, sh1, .own)]⟩, [.bool, .row sh1]⟩
noncomputable def E12 : Fun2 := eOf sg12 I.CellsAdd
theorem ev12 (a : Args sg12.ks) : evS Tryz.prog G12 loopNil (0, 0) [] Tryz.f12 c12 (kOf sg12) (sg12.sk.fl (encP sg12.ks a)) = unc sg12.ks I.CellsAdd a := by kernel_rfl
theorem good12 : Vm.Good Tryz.prog 12 E12 := good_gen (G := G12) (L := loopNil) (c := c12) (rn := []) (N := (0, 0)) (envCons_good good54 (envCons_good good55 (envCons_good good56 (envCons_good good57 (envCons_good good58 envNil_good))))) (no_loops (c := c12) (by kernel_rfl)) Tryz.func12 (by kernel_rfl) (by kernel_rfl) (fun _ => by kernel_rfl) ev12
noncomputable def G231 : Env := envNil
noncomputable def c231 : Code := bodyOf Tryz.f231
noncomputable def L.eqWide (a1 a2 a3 a4 : Int) : Option Bool :=
(bif (a1 != a3) then
(some false)
else
(bif (a2 != a4) then
(some false)
else
(some true)))
noncomputable def sg231 : Sg := ⟨⟨[.agg (ho 2 []), .agg (ho 2 [])], [], []⟩, [.int .i64, .int .u64, .int .i64, .int .u64], ⟨[hh], [], []⟩, [.bool]⟩
noncomputable def E231 : Fun2 := eOf sg231 L.eqWide
theorem ev231 (a : Args sg231.ks) : evS Tryz.prog G231 loopNil (0, 0) [] Tryz.f231 c231 (kOf sg231) (sg231.sk.fl (encP sg231.ks a)) = unc sg231.ks L.eqWide a := by kernel_rfl
theorem good231 : Vm.Good Tryz.prog 231 E231 := good_gen (G := G231) (L := loopNil) (c := c231) (rn := []) (N := (0, 0)) envNil_good (no_loops (c := c231) (by kernel_rfl)) Tryz.func231 (by kernel_rfl) (by kernel_rfl) (fun _ => by kernel_rfl) ev231
noncomputable def G22 : Env := envNil
noncomputable def c22 : Code := bodyOf Tryz.f22
noncomputable def c22_4 : Code := (loopsOf c22).getD 0 .skip
noncomputable def L.eqIntS_l0 : Nat → (Bool → Option Bool) → (Option Bool) → Int → List Int → List Int → Option Bool
  | 0, _, _, _, _, _ => none
  | m + 1, e4_0, e4_1, a5, a6, a7 =>
    (bif (decide (a5 < (a6.length : Int))) then
    (bif decide ((0 : Int) ≤ a5 ∧ a5 < (a6.length : Int)) then
    (bif decide ((0 : Int) ≤ a5 ∧ a5 < (a7.length : Int)) then
    (bif ((nthI a6 a5 (0 : Int)) != (nthI a7 a5 (0 : Int))) then
    (e4_0 false)
    else
    (L.eqIntS_l0 m e4_0 e4_1 (IntKind.wrap .i64 (a5 + 1)) a6 a7))
    else
    none)
    else
    none)
    else
    e4_1)
noncomputable def L.eqIntS (a1 a2 : List Int) : Option Bool :=
(bif ((a1.length : Int) != (a2.length : Int)) then
(some false)
else
(L.eqIntS_l0 fu (fun y12 =>
(some y12)) (some true) 0 a1 a2))
noncomputable def H22_4 : LoopH := ⟨⟨((.one (.sl 0)) :: (.one (.sl 1)) :: (hu 3 (hh :: (hu 20 [])))), [], [(3, (.int .i64), .ro), (3, (.int .i64), .ro)]⟩, ([2, 3, 4] ++ rg 6 20), [], (rg 0 4 ++ rg 5 21), [], [], [], []⟩
noncomputable def k22_4 : List PK := [.int .i64, .row (.int .i64), .row (.int .i64)]
noncomputable def W22_4 (m : Nat) (k : Kont Bool) : Cur k22_4 (Option Bool) := L.eqIntS_l0 m (exF k .ret ⟨(hu 4 (hh :: (hu 21 []))), [], []⟩ [.bool]) (exF k (.exit 0) ⟨(hu 26 []), [], []⟩ [])
noncomputable def E22_4 (m : Nat) : List Prm → Kont Bool → Option Bool := eL k22_4 (W22_4 m)
theorem ev22_4 (m : Nat) (k : Kont Bool) (a : Args k22_4) : evL Tryz.prog G22 loopNil c22_4 (turn Tryz.prog (0, 0) H22_4 (E22_4 m) k) (H22_4.sk.fl (encP k22_4 a)) = unc k22_4 (W22_4 (m + 1) k) a := by kernel_rfl
theorem ok22_4 (m : Nat) : LoopOk Tryz.prog (0, 0) c22_4 (enter Tryz.prog (0, 0) H22_4 (E22_4 m)) := loop_gen (Fl := W22_4) (G := G22) (L := loopNil) envNil_good (no_loops (c := c22_4) (by kernel_rfl)) (fun _ _ => by kernel_rfl) ev22_4 m
noncomputable def L22 : LEnv Bool := (loopCons 4 (enter Tryz.prog (0, 0) H22_4 (E22_4 fu)) loopNil)
theorem lq22 : loopsOf c22 = [c22_4] := by kernel_rfl
theorem fr22_4 : firstReg c22_4 = some 4 := by kernel_rfl
theorem le22_4 : L22 4 = (enter Tryz.prog (0, 0) H22_4 (E22_4 fu)) := by kernel_rfl
theorem lm22 : ∀ x ∈ [c22_4], ∀ id, firstReg x = some id → LoopOk Tryz.prog (0, 0) x (L22 id) := (loops_cons fr22_4 le22_4 (ok22_4 fu) loops_nil)
theorem lp22 : ∀ x ∈ loopsOf c22, ∀ id, firstReg x = some id → LoopOk Tryz.prog (0, 0) x (L22 id) := loops_eq lq22 lm22
noncomputable def sg22 : Sg := ⟨⟨[.one (.sl 0), .one (.sl 1)], [], [(3, (.int .i64), .ro), (3, (.int .i64), .ro)]⟩, [.row (.int .i64), .row (.int .i64)], ⟨[hh], [], []⟩, [.bool]⟩
noncomputable def E22 : Fun2 := eOf sg22 L.eqIntS
theorem ev22 (a : Args sg22.ks) : evS Tryz.prog G22 L22 (0, 0) [] Tryz.f22 c22 (kOf sg22) (sg22.sk.fl (encP sg22.ks a)) = unc sg22.ks L.eqIntS a := by kernel_rfl
theorem good22 : Vm.Good Tryz.prog 22 E22 := good_gen (G := G22) (L := L22) (c := c22) (rn := []) (N := (0, 0)) envNil_good lp22 Tryz.func22 (by kernel_rfl) (by kernel_rfl) (fun _ => by kernel_rfl) ev22
noncomputable def G143 : Env := (envCons 231 [] E231 (envCons 22 [] E22 envNil))
noncomputable def c143 : Code := bodyOf Tryz.f143
noncomputable def L.eqAgg (a1 a2 a3 a4 a5 a6 a7 a8 a9 a10 : Int) (a11 a12 : List Int) : Option Bool :=
(bif (a1 != a6) then
(some false)
else
(Option.bind (L.eqWide a2 a3 a7 a8) fun r13 =>
(bif (!r13) then
(some false)
else
(bif (a4 != a9) then
(some false)
else
(bif (a5 != a10) then
(some false)
else
(Option.bind (L.eqIntS a11 a12) fun r14 =>
(bif (!r14) then
(some false)
else
(some true))))))))
noncomputable def sg143 : Sg := ⟨⟨[.agg (ho 5 [.sl 0]), .agg (ho 5 [.sl 1])], [], [(3, (.int .i64), .ro), (3, (.int .i64), .ro)]⟩, (ki 2 ((.int .u64) :: (ki 4 ((.int .u64) :: (ki 2 [.row (.int .i64), .row (.int .i64)]))))), ⟨[hh], [], []⟩, [.bool]⟩
noncomputable def E143 : Fun2 := eOf sg143 L.eqAgg
theorem ev143 (a : Args sg143.ks) : evS Tryz.prog G143 loopNil (0, 0) [] Tryz.f143 c143 (kOf sg143) (sg143.sk.fl (encP sg143.ks a)) = unc sg143.ks L.eqAgg a := by kernel_rfl
theorem good143 : Vm.Good Tryz.prog 143 E143 := good_gen (G := G143) (L := loopNil) (c := c143) (rn := []) (N := (0, 0)) (envCons_good good231 (envCons_good good22 envNil_good)) (no_loops (c := c143) (by kernel_rfl)) Tryz.func143 (by kernel_rfl) (by kernel_rfl) (fun _ => by kernel_rfl) ev143
noncomputable def G59 : Env := (envCons 143 [] E143 envNil)
noncomputable def c59 : Code := bodyOf Tryz.f59
noncomputable def L.eqCell (a1 a2 a3 a4 a5 a6 a7 a8 a9 a10 a11 a12 a13 a14 a15 a16 a17 a18 a19 a20 : Int) (a21 a22 : List Int) : Option Bool :=
(bif (a1 != a11) then
(some false)
else
(bif (a2 != a12) then
(some false)
else
(bif (a3 != a13) then
(some false)
else
(bif (a4 != a14) then
(some false)
else
(bif (a5 != a15) then
(some false)
else
(Option.bind (L.eqAgg a6 a7 a8 a9 a10 a16 a17 a18 a19 a20 a21 a22) fun r23 =>
(bif (!r23) then
(some false)
else
(some true))))))))
noncomputable def sg59 : Sg := ⟨⟨[.agg (ho 10 [.sl 0]), .agg (ho 10 [.sl 1])], [], [(3, (.int .i64), .ro), (3, (.int .i64), .ro)]⟩, (ki 7 ((.int .u64) :: (ki 9 ((.int .u64) :: (ki 2 [.row (.int .i64), .row (.int .i64)]))))), ⟨[hh], [], []⟩, [.bool]⟩
noncomputable def E59 : Fun2 := eOf sg59 L.eqCell
theorem ev59 (a : Args sg59.ks) : evS Tryz.prog G59 loopNil (0, 0) [] Tryz.f59 c59 (kOf sg59) (sg59.sk.fl (encP sg59.ks a)) = unc sg59.ks L.eqCell a := by kernel_rfl
theorem good59 : Vm.Good Tryz.prog 59 E59 := good_gen (G := G59) (L := loopNil) (c := c59) (rn := []) (N := (0, 0)) (envCons_good good143 envNil_good) (no_loops (c := c59) (by kernel_rfl)) Tryz.func59 (by kernel_rfl) (by kernel_rfl) (fun _ => by kernel_rfl) ev59
noncomputable def G13 : Env := (envCons 59 [] E59 envNil)
noncomputable def c13 : Code := bodyOf Tryz.f13
noncomputable def c13_4 : Code := (loopsOf c13).getD 0 .skip
noncomputable def L.eqCellS_l0 : Nat → (Bool → Option Bool) → (Option Bool) → Int → (List ty12) → (List ty12) → Option Bool
  | 0, _, _, _, _, _ => none
  | m + 1, e4_0, e4_1, a5, a6, a7 =>
    (bif (decide (a5 < (a6.length : Int))) then
    (bif decide ((0 : Int) ≤ a5 ∧ a5 < (a6.length : Int)) then
    (bif decide ((0 : Int) ≤ a5 ∧ a5 < (a7.length : Int)) then
    (Option.bind (L.eqCell ((nthI a6 a5 df1).1) ((nthI a6 a5 df1).2.1) ((nthI a6 a5 df1).2.2.1) ((nthI a6 a5 df1).2.2.2.1) ((nthI a6 a5 df1).2.2.2.2.1) ((nthI a6 a5 df1).2.2.2.2.2.1) ((nthI a6 a5 df1).2.2.2.2.2.2.1.1) ((nthI a6 a5 df1).2.2.2.2.2.2.1.2) ((nthI a6 a5 df1).2.2.2.2.2.2.2.1) ((nthI a6 a5 df1).2.2.2.2.2.2.2.2.1) ((nthI a7 a5 df1).1) ((nthI a7 a5 df1).2.1) ((nthI a7 a5 df1).2.2.1) ((nthI a7 a5 df1).2.2.2.1) ((nthI a7 a5 df1).2.2.2.2.1) ((nthI a7 a5 df1).2.2.2.2.2.1) ((nthI a7 a5 df1).2.2.2.2.2.2.1.1) ((nthI a7 a5 df1).2.2.2.2.2.2.1.2) ((nthI a7 a5 df1).2.2.2.2.2.2.2.1) ((nthI a7 a5 df1).2.2.2.2.2.2.2.2.1) ((nthI a6 a5 df1).2.2.2.2.2.2.2.2.2) ((nthI a7 a5 df1).2.2.2.2.2.2.2.2.2)) fun r10 =>
    (bif (!r10) then
    (e4_0 false)
    else
    (L.eqCellS_l0 m e4_0 e4_1 (IntKind.wrap .i64 (a5 + 1)) a6 a7)))
    else
    none)
    else
    none)
    else
    e4_1)
noncomputable def L.eqCellS (a1 a2 : List ty12) : Option Bool :=
(bif ((a1.length : Int) != (a2.length : Int)) then
(some false)
else
(L.eqCellS_l0 fu (fun y12 =>
(some y12)) (some true) 0 a1 a2))
noncomputable def H13_4 : LoopH := ⟨⟨((.one (.sl 0)) :: (.one (.sl 1)) :: (hu 3 (hh :: (hu 21 [])))), [], [(113, sh1, .ro), (113, sh1, .ro)]⟩, ([2, 3, 4] ++ rg 6 21), [], (rg 0 4 ++ rg 5 22), [], [], [], []⟩
noncomputable def k13_4 : List PK := [.int .i64, .row sh1, .row sh1]
noncomputable def W13_4 (m : Nat) (k : Kont Bool) : Cur k13_4 (Option Bool) := L.eqCellS_l0 m (exF k .ret ⟨(hu 4 (hh :: (hu 22 []))), [], []⟩ [.bool]) (exF k (.exit 0) ⟨(hu 27 []), [], []⟩ [])
noncomputable def E13_4 (m : Nat) : List Prm → Kont Bool → Option Bool := eL k13_4 (W13_4 m)
theorem ev13_4 (m : Nat) (k : Kont Bool) (a : Args k13_4) : evL Tryz.prog G13 loopNil c13_4 (turn Tryz.prog (0, 0) H13_4 (E13_4 m) k) (H13_4.sk.fl (encP k13_4 a)) = unc k13_4 (W13_4 (m + 1) k) a := by kernel_rfl
theorem ok13_4 (m : Nat) : LoopOk Tryz.prog (0, 0) c13_4 (enter Tryz.prog (0, 0) H13_4 (E13_4 m)) := loop_gen (Fl := W13_4) (G := G13) (L := loopNil) (envCons_good good59 envNil_good) (no_loops (c := c13_4) (by kernel_rfl)) (fun _ _ => by kernel_rfl) ev13_4 m
noncomputable def L13 : LEnv Bool := (loopCons 4 (enter Tryz.prog (0, 0) H13_4 (E13_4 fu)) loopNil)
theorem lq13 : loopsOf c13 = [c13_4] := by kernel_rfl
theorem fr13_4 : firstReg c13_4 = some 4 := by kernel_rfl
theorem le13_4 : L13 4 = (enter Tryz.prog (0, 0) H13_4 (E13_4 fu)) := by kernel_rfl
theorem lm13 : ∀ x ∈ [c13_4], ∀ id, firstReg x = some id → LoopOk Tryz.prog (0, 0) x (L13 id) := (loops_cons fr13_4 le13_4 (ok13_4 fu) loops_nil)
theorem lp13 : ∀ x ∈ loopsOf c13, ∀ id, firstReg x = some id → LoopOk Tryz.prog (0, 0) x (L13 id) := loops_eq lq13 lm13
noncomputable def sg13 : Sg := ⟨⟨[.one (.sl 0), .one (.sl 1)], [], [(113, sh1, .ro), (113, sh1, .ro)]⟩, [.row sh1, .row sh1], ⟨[hh], [], []⟩, [.bool]⟩
noncomputable def E13 : Fun2 := eOf sg13 L.eqCellS
theorem ev13 (a : Args sg13.ks) : evS Tryz.prog G13 L13 (0, 0) [] Tryz.f13 c13 (kOf sg13) (sg13.sk.fl (encP sg13.ks a)) = unc sg13.ks L.eqCellS a := by kernel_rfl
theorem good13 : Vm.Good Tryz.prog 13 E13 := good_gen (G := G13) (L := L13) (c := c13) (rn := []) (N := (0, 0)) (envCons_good good59 envNil_good) lp13 Tryz.func13 (by kernel_rfl) (by kernel_rfl) (fun _ => by kernel_rfl) ev13
noncomputable def G24 : Env := envNil
noncomputable def c24 : Code := bodyOf Tryz.f24
noncomputable def c24_2 : Code := (loopsOf c24).getD 0 .skip
noncomputable def L.markIntS_l0 : Nat → (Int → List Int → Option (Int × List Int)) → Int → Int → List Int → Option (Int × List Int)
  | 0, _, _, _, _ => none
  | m + 1, e2_0, a3, a4, a5 =>
    (bif (decide (a4 < (a5.length : Int))) then
    (bif decide ((0 : Int) ≤ a4 ∧ a4 < (a5.length : Int)) then
    (L.markIntS_l0 m e2_0 (IntKind.wrap .i64 (a3 + 1)) (IntKind.wrap .i64 (a4 + 1)) (a5.set (Int.toNat a4) a3))
    else
    none)
    else
    (e2_0 a3 a5))
noncomputable def L.markIntS (a1 : Int) (a2 : List Int) : Option (Int × List Int) :=
(L.markIntS_l0 fu (fun y11 y12 =>
(some (y11, y12))) a1 0 a2)
noncomputable def H24_2 : LoopH := ⟨⟨((.one (.sl 0)) :: hh :: (hu 3 (hh :: (hu 13 [])))), [], [(3, (.int .i64), .own)]⟩, ([2, 3, 4] ++ rg 6 13), [], ([0, 2, 3] ++ rg 5 14), [], [], [], []⟩
noncomputable def k24_2 : List PK := (ki 2 [.row (.int .i64)])
noncomputable def W24_2 (m : Nat) (k : Kont (Int × List Int)) : Cur k24_2 (Option (Int × List Int)) := L.markIntS_l0 m (exF k (.exit 0) ⟨((.one (.unk)) :: hh :: (hu 17 [])), [], [(3, (.int .i64), .own)]⟩ [.int .i64, .row (.int .i64)])
noncomputable def E24_2 (m : Nat) : List Prm → Kont (Int × List Int) → Option (Int × List Int) := eL k24_2 (W24_2 m)
theorem ev24_2 (m : Nat) (k : Kont (Int × List Int)) (a : Args k24_2) : evL Tryz.prog G24 loopNil c24_2 (turn Tryz.prog (0, 1) H24_2 (E24_2 m) k) (H24_2.sk.fl (encP k24_2 a)) = unc k24_2 (W24_2 (m + 1) k) a := by kernel_rfl
theorem ok24_2 (m : Nat) : LoopOk Tryz.prog (0, 1) c24_2 (enter Tryz.prog (0, 1) H24_2 (E24_2 m)) := loop_gen (Fl := W24_2) (G := G24) (L := loopNil) envNil_good (no_loops (c := c24_2) (by kernel_rfl)) (fun _ _ => by kernel_rfl) ev24_2 m
noncomputable def L24 : LEnv (Int × List Int) := (loopCons 2 (enter Tryz.prog (0, 1) H24_2 (E24_2 fu)) loopNil)
theorem lq24 : loopsOf c24 = [c24_2] := by kernel_rfl
theorem fr24_2 : firstReg c24_2 = some 2 := by kernel_rfl
theorem le24_2 : L24 2 = (enter Tryz.prog (0, 1) H24_2 (E24_2 fu)) := by kernel_rfl
theorem lm24 : ∀ x ∈ [c24_2], ∀ id, firstReg x = some id → LoopOk Tryz.prog (0, 1) x (L24 id) := (loops_cons fr24_2 le24_2 (ok24_2 fu) loops_nil)
theorem lp24 : ∀ x ∈ loopsOf c24, ∀ id, firstReg x = some id → LoopOk Tryz.prog (0, 1) x (L24 id) := loops_eq lq24 lm24
noncomputable def sg24 : Sg := ⟨⟨[.one (.sl 0), hh], [], [(3, (.int .i64), .own)]⟩, [.int .i64, .row (.int .i64)], ⟨[hh], [], [(3, (.int .i64), .own)]⟩, [.int .i64, .row (.int .i64)]⟩
noncomputable def E24 : Fun2 := eOf sg24 L.markIntS
theorem ev24 (a : Args sg24.ks) : evS Tryz.prog G24 L24 (0, 1) [] Tryz.f24 c24 (kOf sg24) (sg24.sk.fl (encP sg24.ks a)) = unc sg24.ks L.markIntS a := by kernel_rfl
theorem good24 : Vm.Good Tryz.prog 24 E24 := good_gen (G := G24) (L := L24) (c := c24) (rn := []) (N := (0, 1)) envNil_good lp24 Tryz.func24 (by kernel_rfl) (by kernel_rfl) (fun _ => by kernel_rfl) ev24
end Go.Proofs.YtmbcnpbgcfiafaaGreat.Run
